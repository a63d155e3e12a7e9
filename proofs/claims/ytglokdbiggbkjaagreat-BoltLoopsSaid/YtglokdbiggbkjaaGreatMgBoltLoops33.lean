/- Joined texts. -/
import Derived.Test.YtglokdbiggbkjaaGreatMgBoltLoops0
import Derived.Test.YtglokdbiggbkjaaGreatMgBoltLoops3
import Derived.Test.YtglokdbiggbkjaaGreatMgBoltLoops4
import Derived.Test.YtglokdbiggbkjaaGreatMgBoltLoops16
import Derived.Test.YtglokdbiggbkjaaGreatMgBoltLoops27
import Derived.Test.YtglokdbiggbkjaaGreatMgBoltLoops28
import Derived.Test.YtglokdbiggbkjaaGreatMgBoltLoops29
import Derived.Test.YtglokdbiggbkjaaGreatMgBoltLoops30
import Derived.Test.YtglokdbiggbkjaaGreatMgBoltLoops31
import Derived.Test.YtglokdbiggbkjaaGreatMgBoltLoops32
set_option linter.unusedVariables false
set_option linter.unusedSimpArgs false
set_option linter.defProp false
set_option maxRecDepth 100000
set_option maxHeartbeats 16000000
open Go.Proofs.Tryz
namespace Go.Proofs.YtglokdbiggbkjaaGreat
open Go.IntKind(i64)
open Go.Value(int bool slice agg tuple pointer)
open Go.Ending(returned)
open Go.Obj(cells)
variable{B BC:Nat->Prop}{w w' w0 W:World}{a g n nd L k lb:Nat}{P T:List Int}{BB:Int}{gs:Nat->Value}{vP vT:Value}
section
open Go.RowKit
def ch(ty:TypeId)(B BC:Nat->Prop)(w:World)(a g:Nat)(X:SmX)(c:CoC)(P T:List Int)(r:Co×Dr×Int)(U:List Sp)(e:Ending)(w':World):Prop:=
 e= returned (J r.2.2)/\aw ty B BC w' a g X c P T r.1 r.2.1 U/\aa (SmS a g X) w w'
section
variable{ty:TypeId}
variable{X:SmX}{c:CoC}{st st':Co}{d d':Dr}{U:List Sp}{s':Ar}
def aw.ltsA(h:aw ty B BC w a g X c P T st d U):∀r∈SmS a g X,r<w.heap.size:=by exact acb
def aw.nodeA(h:aw ty B BC w a g X c P T st d U)(hn:n<T.length):(c.node n)<(ac P).length/\(aq P T T.length)[n]? =some ((c.node n:Nat):Int):=by exact acc
def aw.drw(h:aw ty B BC w a g X c P T st d U):aw ty B BC w.drew a g X c P T st d U:=h.below (Below.refl _ _).drew
end
section
variable{X:SmX}{c:CoC}{st st':Co}{d d':Dr}{U:List Sp}{s':Ar}
def CP(h:aw 335 B BC w a g X c P T st d U)(hnd:nd<(ac P).length)(V:st.s.ops+1<=1000000000000):E 392 #[↑X.l,J 1,J nd] w (ch 335 B BC w a g X c P T (onA st (addA st.s (2*(nd:Int)+1) 1),d,2) U):=by have hnd:=qh hnd;have H:=qh h;clear h;go_enter func392,ntmps392;exact ace
def zw(h:aw 335 B BC w a g X c P T st d U)(hnd:nd<(ac P).length)(V:st.s.ops+1<=1000000000000):E 392 #[↑X.l,J 11,J nd] w (ch 335 B BC w a g X c P T (onA st (addA st.s (2*(nd:Int)+1+1) 1),d,0) U):=by have hnd:=qh hnd;have H:=qh h;clear h;go_enter func392,ntmps392;exact acf
def CQ(h:aw 335 B BC w a g X c P T st d U)(nd:Nat)(V:st.s.ops+1<=1000000000000):E 392 #[↑X.l,J 2,J nd] w (ch 335 B BC w a g X c P T (onA st (af st.s (nuFl (ac P).length)),d,if ldW st.s.W (nuFl (ac P).length)=0 then 10 else 2) U):=by
  have H:=qh h;clear h;obtain⟨q,hq⟩:=LE (ldW st.s.W (nuFl (ac P).length));rw[<-hq];have HQ:=qh hq;clear hq;have i':=qh (aD (H.o.drw).gd.ar (nuFl (ac P).length) V);rw[<-HQ.o]at i';obtain⟨v,O⟩:∃v:Int,v=if q=0 then 10 else 2:=⟨_,rfl⟩
  rw[<-O];have HV:=qh O;clear O;cases hz:(q==0)
  all_goals
    go_enter func392,ntmps392;have Y:=qh H.o.drw;have T0:=qh (aa.refl (SmS a g X) w);go_wp2_with fail;first
    | (go_region_held3 (λW=>W.cell? X.l=some ↑a/\Z W X.l 4 (J (2*((ac P).length:Int)+1)))
        (first|exact⟨Y.o.cs.1,Y.o.cs.2.2.2.2.1⟩|exact⟨I.o.cs.1,I.o.cs.2.2.2.2.1⟩)
        (first
          | (go_at_call 173;go_loud (refine Op i'.o λw1 a3=>?_);have I:=qh (Y.o.arT a3.o.2 a3.o.1);have T1:=qh (T0.o.drew.trans (fz a3.o.2)))))
    | fail "held"
  all_goals
    first
    | (go_wp2
       go_ret
       rw[HV.o,if_pos ah2]
       exact⟨rfl,I.o,T1.o⟩)
    | (go_wp2
       go_ret
       rw[HV.o,if_neg ah2]
       exact⟨rfl,I.o,T1.o⟩)
def Cj(h:aw 335 B BC w a g X c P T st d U)(hN:1<=(ac P).length)(V:st.s.ops+1<=1000000000000):E 394 #[↑X.l,J 5] w (ch 335 B BC w a g X c P T (onA st (ae st.s (nuFl (ac P).length) 0),dU d (ac P).length false,6) U):=by
 have H:=qh h;clear h;go_enter func394,ntmps394;have Y:=H;have T0:=qh (aa.refl (SmS a g X) w);have I:=qh Y.o.drw;have i':=qh (an (I.o).gd.ar (nuFl (ac P).length) (0) V);go_wp2_with fail
 go_region_held3 (λW=>W.cell? X.l=some ↑a/\Z W X.l 4 (J (2*((ac P).length:Int)+1)))
  (first|exact⟨I.o.cs.1,I.o.cs.2.2.2.2.1⟩|exact⟨K1.o.cs.1,K1.o.cs.2.2.2.2.1⟩)
  (first
   |(go_at_call 177;go_loud (refine Op i'.o λw1 O=>?_);have K1:=qh (I.o.arT O.o.2 O.o.1);have T1:=qh (T0.o.drew.trans (fz O.o.2))))
 exact acg
def Cl(h:aw 335 B BC w a g X c P T st d U)(hN:1<=(ac P).length)(V:st.s.ops+1<=1000000000000):E 394 #[↑X.l,J 8] w (ch 335 B BC w a g X c P T (onA st (ae st.s (nuFl (ac P).length) 1),dU d (ac P).length true,9) U):=by
 have H:=qh h;clear h;go_enter func394,ntmps394;have K0:=H;have T0:=qh (aa.refl (SmS a g X) w);have I:=qh K0.o.drw;have i':=qh (an (I.o).gd.ar (nuFl (ac P).length) (1) V);go_wp2_with fail
 go_region_held3 (λW=>W.cell? X.l=some ↑a/\Z W X.l 4 (J (2*((ac P).length:Int)+1)))
  (first|exact⟨I.o.cs.1,I.o.cs.2.2.2.2.1⟩|exact⟨O.o.cs.1,O.o.cs.2.2.2.2.1⟩)
  (first
   |(go_at_call 177;go_loud (refine Op i'.o λw1 Y=>?_);have O:=qh (I.o.arT Y.o.2 Y.o.1);have T1:=qh (T0.o.drew.trans (fz Y.o.2))))
 have L6:=qh O.o.drw;have Lu:=qh (nj (L6.o).gd hN true);exact ach
def Ck(h:aw 335 B BC w a g X c P T st d U)(hb:d.busy=true->d.at_<(ac P).length)(V:st.s.ops+1<=1000000000000):E 394 #[↑X.l,J 6] w (ch 335 B BC w a g X c P T (onA st (aj st.s d).1,(aj st.s d).2.1,if (aj st.s d).2.2=false then 6 else if (6:Int)=6 then 8 else if (aj st.s d).2.1.clear=true then 10 else 5) U):=by
 obtain⟨r,I⟩:=LE (aj st.s d);have O:=nt h.gd hb V;rw[<-I]at O ⊢;obtain⟨s1,d1,q⟩:=r;simp only at O ⊢;have HD:=qh O;have H:=qh h;clear h I hb O;cases q;.exact aci
 .exact aci
def Cm(h:aw 335 B BC w a g X c P T st d U)(hb:d.busy=true->d.at_<(ac P).length)(V:st.s.ops+1<=1000000000000):E 394 #[↑X.l,J 9] w (ch 335 B BC w a g X c P T (onA st (aj st.s d).1,(aj st.s d).2.1,if (aj st.s d).2.2=false then 9 else if (9:Int)=6 then 8 else if (aj st.s d).2.1.clear=true then 10 else 5) U):=by
 obtain⟨r,I⟩:=LE (aj st.s d);have O:=nt h.gd hb V;rw[<-I]at O ⊢;obtain⟨s1,d1,q⟩:=r;simp only at O ⊢;have HD:=qh O;have H:=qh h;clear h I hb O;cases q;.exact aci
 .cases hc:d1.clear;all_goals go_enter func394,ntmps394;have d3:=H.o.cs.2.2.2.1;go_wp2_with fail;refine Op HD.o λw1 k4=>?_;have K1:=qh (H.o.gdT k4.o.2 k4.o.1);have T1:=qh (jv (X:=X) k4.o.2);have d4:=K1.o.cs.2.2.2.1;have Y:=qh (DQ K1.o.gd);rw[hc]at Y;go_wp2_with fail;refine LT Y.o ?_;go_wp2;go_ret;unfold ch;simp only[hc];exact⟨rfl,K1.o,T1.o⟩
def zY(h:aw 335 B BC w a g X c P T st d U)(n:Nat)(hn:n<T.length)(C:dg BB X.x c st)(V:st.s.ops+1<=1000000000000):E 393 #[↑X.l,J n,J 7] w (ch 335 B BC w a g X c P T (ak c st n,d,if bv (sv st.T n) (sv (ak c st n).T n)then 8 else 7) U):=by exact acj
def xd(h:aw 335 B BC w a g X c P T st d U)(n:Nat)(hn:n<T.length)(C:dg BB X.x c st)(V:st.s.ops+1<=1000000000000):E 393 #[↑X.l,J n,J 13] w (ch 335 B BC w a g X c P T (ak c st n,d,if bv (sv st.T n) (sv (ak c st n).T n)then 0 else 13) U):=by exact acj
def xb(h:aw 335 B BC w a g X c P T st d U)(n:Nat)(hn:n<T.length)(V:st.s.ops+1<=1000000000000):E 393 #[↑X.l,J n,J 12] w (ch 335 B BC w a g X c P T (aA (onA st (ae st.s (nuFl (ac P).length) 0)) n,d,13) U):=by
 have Kz:n<X.x.n:=by rw[h.nT.1];exact hn
 have H:=qh h;clear h;go_enter func393,ntmps393;have Y:=H;have T0:=qh (aa.refl (SmS a g X) w);have I:=qh Y.o.drw;have i':=qh (an (I.o).gd.ar (nuFl (ac P).length) (0) V);go_wp2_with fail
 go_region_held3 (λW=>W.cell? X.l=some ↑a/\Z W X.l 4 (J (2*((ac P).length:Int)+1)))
  (first|exact⟨I.o.cs.1,I.o.cs.2.2.2.2.1⟩|exact⟨K1.o.cs.1,K1.o.cs.2.2.2.2.1⟩)
  (first
   |(go_at_call 177;go_loud (refine Op i'.o λw1 O=>?_);have K1:=qh (I.o.arT O.o.2 O.o.1);have T1:=qh (T0.o.drew.trans (fz O.o.2))))
 exact ack
def zW(h:aw 335 B BC w a g X c P T st d U)(hN:1<=(ac P).length)(n:Nat)(V:st.s.ops+1<=1000000000000):E 393 #[↑X.l,J n,J 5] w (ch 335 B BC w a g X c P T (onA st (ae st.s (nuFl (ac P).length) 0),dU d (ac P).length false,6) U):=by have Ll:=Cj h hN V;obtain⟨r,I⟩:∃r:Co×Dr×Int,r=(onA st (ae st.s (nuFl (ac P).length) 0),dU d (ac P).length false,6):=⟨_,rfl⟩;exact acl
def zZ(h:aw 335 B BC w a g X c P T st d U)(hN:1<=(ac P).length)(n:Nat)(V:st.s.ops+1<=1000000000000):E 393 #[↑X.l,J n,J 8] w (ch 335 B BC w a g X c P T (onA st (ae st.s (nuFl (ac P).length) 1),dU d (ac P).length true,9) U):=by have Ll:=Cl h hN V;obtain⟨r,I⟩:∃r:Co×Dr×Int,r=(onA st (ae st.s (nuFl (ac P).length) 1),dU d (ac P).length true,9):=⟨_,rfl⟩;exact acl
def zX(h:aw 335 B BC w a g X c P T st d U)(hb:d.busy=true->d.at_<(ac P).length)(n:Nat)(V:st.s.ops+1<=1000000000000):E 393 #[↑X.l,J n,J 6] w (ch 335 B BC w a g X c P T (onA st (aj st.s d).1,(aj st.s d).2.1,if (aj st.s d).2.2=false then 6 else if (6:Int)=6 then 8 else if (aj st.s d).2.1.clear=true then 10 else 5) U):=by have Ll:=Ck h hb V;obtain⟨r,I⟩:∃r:Co×Dr×Int,r=(onA st (aj st.s d).1,(aj st.s d).2.1,if (aj st.s d).2.2=false then 6 else if (6:Int)=6 then 8 else if (aj st.s d).2.1.clear=true then 10 else 5):=⟨_,rfl⟩;exact acl
def Aa(h:aw 335 B BC w a g X c P T st d U)(hb:d.busy=true->d.at_<(ac P).length)(n:Nat)(V:st.s.ops+1<=1000000000000):E 393 #[↑X.l,J n,J 9] w (ch 335 B BC w a g X c P T (onA st (aj st.s d).1,(aj st.s d).2.1,if (aj st.s d).2.2=false then 9 else if (9:Int)=6 then 8 else if (aj st.s d).2.1.clear=true then 10 else 5) U):=by have Ll:=Cm h hb V;obtain⟨r,I⟩:∃r:Co×Dr×Int,r=(onA st (aj st.s d).1,(aj st.s d).2.1,if (aj st.s d).2.2=false then 9 else if (9:Int)=6 then 8 else if (aj st.s d).2.1.clear=true then 10 else 5):=⟨_,rfl⟩;exact acl
end
end
section
open Go.RowKit
section
variable{X:SmX}{c:CoC}{st st':Co}{d d':Dr}{U:List Sp}{s':Ar}
def xZ(h:aw 335 B BC w a g X c P T st d U)(n:Nat)(hn:n<T.length)(hc:(sv U n).pc=0\/(sv U n).pc=10):E 389 #[↑X.l,J n] w (av 335 B BC w a g X c P T U n (a7 c (ac P).length ⟨st,d,U⟩ n)):=by
 have Kt:=aP;have I:=py h n;have hp:=h.thr hn;have hg:getS U (n:Int)=sv U n:=by exact abX
 rw[hg]at I;have H:=qh h;refine aj0 ?_;intro t2 MX;have r':a7 c (ac P).length ⟨st,d,U⟩ n=⟨st,d,U⟩:=by unfold a7;rw[if_pos hc]
 obtain⟨p,Y⟩:=LE (sv U n);rw[<-Y]at hc I;have V:=qh I;have HX:=qh r';clear h hp Y r' hg I;obtain⟨pc,u,b,z⟩:=p;simp only at hc;unfold aF at V;rcases hc with rfl|rfl
 all_goals go_enter func389,ntmps389;go_wp2_with fail;refine Op V.o λw1 O=>?_;go_wp2;go_ret;rw[HX.o];first|exact av.stay ((H.o.below O.o).below ((Below.refl _ _).alloc (Nat.le_refl _) _)) ((aa.of_below O.o).alloc _) rfl|exact av.put HP.o ((H.o.below O.o).below ((Below.refl _ _).alloc (Nat.le_refl _) _)) ((aa.of_below O.o).alloc _) rfl ahL
def mM(h:aw 335 B BC w a g X c P T st d U)(n:Nat)(hn:n<T.length)(pc b z:Int)(hU:sv U n=⟨pc,1,b,z⟩)(hc:pc≠0/\pc≠10)(hD:∀W,aw 335 B BC W a g X c P T st d U->E 392 #[↑X.l,J pc,J (c.node n:Nat)] W (ch 335 B BC W a g X c P T (fu c (ac P).length ⟨st,d,U⟩ n ⟨pc,1,b,z⟩) U)):E 389 #[↑X.l,J n] w (av 335 B BC w a g X c P T U n (a7 c (ac P).length ⟨st,d,U⟩ n)):=by
  have Kt:=aP;have H':=py h n;have hp:=h.thr hn;have hg:getS U (n:Int)=sv U n:=by exact abX
  rw[hg]at H';have H:=qh h;refine aj0 ?_;intro t2 MX;obtain⟨r,I⟩:=LE (fu c (ac P).length ⟨st,d,U⟩ n ⟨pc,1,b,z⟩);have r':a7 c (ac P).length ⟨st,d,U⟩ n=⟨r.1,r.2.1,U.set n ⟨r.2.2,1,b,z⟩⟩:=by unfold a7;exact acm
  rw[<-I]at hD;rw[hU]at hp H';obtain⟨s1,d1,v⟩:=r;simp only at r';have u0:(pc==0)=false:=by simpa using hc.1
  have u1:(pc==10)=false:=by simpa using hc.2
  obtain⟨ab,Kw⟩:=h.nodeA hn;obtain⟨nd,WJ⟩:=LE (c.node n);rw[<-WJ]at Kw ab hD;have Px:=qh Kw;have HX:=qh r';have HS:=qh H';have HP:=qh hp;have HD:=qh hD;clear h hp r' hg H' hD I hU hc ab Kw WJ;unfold aF at HS;cases v1:(v==10)<;>cases v2:(v==0)
  all_goals
    go_enter func389,ntmps389;go_wp2_with fail;refine ajc ?_;intro w1 b1 K1 T1;go_upto_region 2 with fail;obtain⟨Y,Ls⟩:=LE w1.heap.size;obtain⟨O,KM⟩:=LE (w1.alloc (cells #[J pc,J 1,J b,J z] 113));rw[<-KM,<-Ls];have V:=qh (show aw 335 B BC O a g X c P T st d U/\aa (SmS a g X) w O/\Blk O Y 113 #[J pc,J 1,J b,J z]/\Y∉SmS a g X from⟨by rw[KM];exact(K1.o).below ((Below.refl _ _).alloc (Nat.le_refl _) _),by rw[KM];exact T1.o.alloc _,by rw[KM,Ls];exact Blk.new _ _ _,λk=>by have:=K1.o.ltsA _ k;omega⟩);clear KM Ls K1 T1;have v0:O.cell? Y=some (J pc):=V.o.2.2.1.cell 0;have va:Z O Y 1 (J 1):=V.o.2.2.1.cell 1;have l1:Z O X.l 1 ↑X.b:=V.o.1.cs.2.1;have L6:=qh V.o.1.drw;have Ti:=qh (kK O.drew X.b P T n hn L6.o.tb.f nd Px.o);have Yk:=qh (HD.o _ L6.o);have HC:=qh (λW (st:Co) (d:Dr) (k:aw 335 B BC W a g X c P T st d U) (hb:Blk W Y 113 #[J pc,J 1,J b,J z])=>And.intro (show W.cell? Y=some (J pc)from hb.cell 0) k.cs.2.1);go_wp2_with fail
    go_region_held3 (λW=>W.cell? Y=some (J pc)/\Z W X.l 1 ↑X.b)
      (first|exact⟨v0,l1⟩|exact M3.o)
      (first
        | (go_at_call 100;go_loud (refine LT Ti.o ?_))
        | (go_at_call 392;go_loud (refine Op Yk.o λw3 k3=>?_);have M3:=qh (HC.o _ _ _ k3.o.1 ((((aa.refl (SmS a g X) O).drew).trans k3.o.2).blk V.o.2.2.1 V.o.2.2.2));have K3:=qh k3.o.1;have T3:=qh (V.o.2.1.drew.trans k3.o.2)))
  all_goals refine ajS ?_;intro e0 z0 d6;have K4:=qh (K3.o.put0 HP.o (p':=(⟨v,1,b,z⟩:Sp)) (u:= J v) rfl);go_wp2;go_ret;rw[HX.o];first|exact av.stay (K4.o) (T3.o.trans (eg _ _)) rfl|exact av.put HP.o (K4.o) (T3.o.trans (eg _ _)) rfl ahL
def fX(h:aw 335 B BC w a g X c P T st d U)(n:Nat)(hn:n<T.length)(pc b z:Int)(hU:sv U n=⟨pc,0,b,z⟩)(hc:pc≠0/\pc≠10)(hD:∀W,aw 335 B BC W a g X c P T st d U->E 393 #[↑X.l,J n,J pc] W (ch 335 B BC W a g X c P T (fu c (ac P).length ⟨st,d,U⟩ n ⟨pc,0,b,z⟩) U)):E 389 #[↑X.l,J n] w (av 335 B BC w a g X c P T U n (a7 c (ac P).length ⟨st,d,U⟩ n)):=by
  have Kt:=aP;have H':=py h n;have hp:=h.thr hn;have hg:getS U (n:Int)=sv U n:=by exact abX
  rw[hg]at H';have H:=qh h;refine aj0 ?_;intro t2 MX;obtain⟨r,I⟩:=LE (fu c (ac P).length ⟨st,d,U⟩ n ⟨pc,0,b,z⟩);have r':a7 c (ac P).length ⟨st,d,U⟩ n=⟨r.1,r.2.1,U.set n ⟨r.2.2,0,b,z⟩⟩:=by unfold a7;exact acm
  rw[<-I]at hD;rw[hU]at hp H';obtain⟨s1,d1,v⟩:=r;simp only at r';refine ajV ?_;intro u0 u1 HX HS HP HD;clear h hp r' hg H' hD I hU hc;unfold aF at HS;cases v1:(v==10)<;>cases v2:(v==0);all_goals go_enter func389,ntmps389;go_wp2_with fail;refine ajc ?_;intro w1 b1 K1 T1;go_upto_region 2 with fail;obtain⟨sb,Ls⟩:=LE w1.heap.size;obtain⟨V,O⟩:=LE (w1.alloc (cells #[J pc,J 0,J b,J z] 113));rw[<-O,<-Ls];have Y:=qh (show aw 335 B BC V a g X c P T st d U/\aa (SmS a g X) w V/\Blk V sb 113 #[J pc,J 0,J b,J z]/\sb∉SmS a g X from⟨by rw[O];exact(K1.o).below ((Below.refl _ _).alloc (Nat.le_refl _) _),by rw[O];exact T1.o.alloc _,by rw[O,Ls];exact Blk.new _ _ _,λk=>by have:=K1.o.ltsA _ k;omega⟩);clear O Ls K1 T1;have v0:V.cell? sb=some (J pc):=Y.o.2.2.1.cell 0;have va:Z V sb 1 (J 0):=Y.o.2.2.1.cell 1;go_wp2_with fail;refine Op (HD.o _ Y.o.1) λw3 k3=>?_;have K3:=qh k3.o.1;have T3:=qh (Y.o.2.1.trans k3.o.2)
  all_goals refine ajS ?_;intro e0 z0 d6;have K4:=qh (K3.o.put0 HP.o (p':=(⟨v,0,b,z⟩:Sp)) (u:= J v) rfl);go_wp2;go_ret;rw[HX.o];first|exact av.stay (K4.o) (T3.o.trans (eg _ _)) rfl|exact av.put HP.o (K4.o) (T3.o.trans (eg _ _)) rfl ahL
def ER(h:aw 335 B BC w a g X c P T st d U)(n:Nat)(H:n<T.length)(hc:iy (sv U n) (sv st.T n))(V:st.s.ops+1<=1000000000000)(hN:1<=(ac P).length)(hb:((sv U n).a=0->((sv U n).pc=9\/(sv U n).pc=6)->d.busy=true->d.at_<(ac P).length))(C:dg BB X.x c st):E 389 #[↑X.l,J n] w (av 335 B BC w a g X c P T U n (a7 c (ac P).length ⟨st,d,U⟩ n)):=by
  obtain⟨p,I⟩:=LE (sv U n)
  have KJ:p.pc=0\/p.pc=10\/(p.a=1/\p.pc=1)\/(p.a=1/\p.pc=2)\/(p.a=1/\p.pc=11)\/(p.a=0/\p.pc=7)\/(p.a=0/\p.pc=5)\/(p.a=0/\p.pc=6)\/(p.a=0/\p.pc=8)\/(p.a=0/\p.pc=9)\/(p.a=0/\p.pc=12)\/(p.a=0/\p.pc=13):=by
    rw[<-I]at hc;unfold iy at hc;rcases hc with⟨q1,_⟩|⟨q1,q2,_⟩|⟨q1,q2,_⟩|⟨q1,q2,_⟩|⟨q1,q2,_⟩
    all_goals omega
  have O:=hb;rw[<-I]at O;obtain⟨pc,u,b,z⟩:=p;have Ki:(sv U n).pc=pc:=by rw[<-I]
  simp only at KJ O;have Y:=h.nodeA H;rcases KJ with rfl|rfl|⟨rfl,rfl⟩|⟨rfl,rfl⟩|⟨rfl,rfl⟩|⟨rfl,rfl⟩|⟨rfl,rfl⟩|⟨rfl,rfl⟩|⟨rfl,rfl⟩|⟨rfl,rfl⟩|⟨rfl,rfl⟩|⟨rfl,rfl⟩
  . exact xZ h n H (.inl Ki)
  . exact xZ h n H (.inr Ki)
  . exact mM h n H _ b z I.symm ahD (λW k=>CP k Y.1 V)
  . exact mM h n H _ b z I.symm ahD (λW k=>CQ k (c.node n) V)
  . refine mM h n H _ b z I.symm ahD (λW k=>?_);have k9:=zw k Y.1 V;rw[show 2*((c.node n:Nat):Int)+1+1=gaW (c.node n)by unfold gaW;omega]at k9;exact k9
  . exact fX h n H _ b z I.symm ahD (λW k=>zY k n H C V)
  . exact fX h n H _ b z I.symm ahD (λW k=>zW k hN n V)
  . exact fX h n H _ b z I.symm ahD (λW k=>zX k (O rfl (.inr rfl)) n V)
  . exact fX h n H _ b z I.symm ahD (λW k=>zZ k hN n V)
  . exact fX h n H _ b z I.symm ahD (λW k=>Aa k (O rfl (.inl rfl)) n V)
  . exact fX h n H _ b z I.symm ahD (λW k=>xb k n H V)
  . exact fX h n H _ b z I.symm ahD (λW k=>xd k n H C V)
end
end
section
open Go.RowKit
section
variable{X:SmX}{c:CoC}{st st':Co}{d d':Dr}{U:List Sp}{s':Ar}
def xT(h:aw 337 B BC w a g X c P T st d U)(V:st.s.ops+1<=1000000000000):E 405 #[↑X.l] w λe w'=>e= returned (bool (ldW st.s.W (nuFl (ac P).length)==0))/\aw 337 B BC w' a g X c P T (onA st (af st.s (nuFl (ac P).length))) d U/\aa (SmS a g X) w w':=by
 have H:=qh h;clear h;obtain⟨q,Y⟩:=LE (ldW st.s.W (nuFl (ac P).length));rw[<-Y];have HQ:=qh Y;clear Y;have I:=qh H.o.drw;have i':=qh (aD (I.o).gd.ar (nuFl (ac P).length) V);rw[<-HQ.o]at i';go_enter func405,ntmps405;go_wp2_with fail
 go_region_held3 (λW=>W.cell? X.l=some ↑a/\Z W X.l 4 (J (2*((ac P).length:Int)+1)))
  (first|exact⟨I.o.cs.1,I.o.cs.2.2.2.2.1⟩|exact⟨K1.o.cs.1,K1.o.cs.2.2.2.2.1⟩)
  (first
   |(go_at_call 173;go_loud (refine Op i'.o λw1 O=>?_);have K1:=qh (I.o.arT O.o.2 O.o.1);have T1:=qh ((aa.refl (SmS a g X) w).drew.trans (fz O.o.2))))
 exact aco
def EI(h:aw 337 B BC w a g X c P T st d U)(n:Nat)(Y:n<T.length)(hnd:nd<(ac P).length)(I:(aq P T T.length)[n]? =some ((nd:Nat):Int))(V:st.s.ops+1<=1000000000000):E 404 #[↑X.l,J n,J 2] w (ch 337 B BC w a g X c P T (onA st (addA st.s (2*(nd:Int)+1) 1),d,3) U):=by have O:=qh (kK w X.b P T n Y h.tb.f _ I);have l1:=h.cs.2.1;have hnd:=qh hnd;have H:=qh h;clear h I;go_enter func404,ntmps404;go_wp2_with fail;refine LT O.o ?_;exact ace
def EK(h:aw 337 B BC w a g X c P T st d U)(n:Nat)(hn:n<T.length)(hnd:nd<(ac P).length)(Kw:(aq P T T.length)[n]? =some ((nd:Nat):Int))(V:st.s.ops+1<=1000000000000):E 404 #[↑X.l,J n,J 4] w (ch 337 B BC w a g X c P T (onA st (addA st.s (2*(nd:Int)+1+1) 1),d,1) U):=by exact acp
def CO(h:aw 337 B BC w a g X c P T st d U)(n:Nat)(hn:n<T.length)(hnd:nd<(ac P).length)(Kw:(aq P T T.length)[n]? =some ((nd:Nat):Int))(V:st.s.ops+1<=1000000000000):E 404 #[↑X.l,J n,J 11] w (ch 337 B BC w a g X c P T (onA st (addA st.s (2*(nd:Int)+1+1) 1),d,0) U):=by exact acp
def EH(h:aw 337 B BC w a g X c P T st d U)(n:Nat)(Y:n<T.length)(I:nd<(ac P).length)(Kw:(aq P T T.length)[n]? =some ((nd:Nat):Int))(V:st.s.ops+1<=1000000000000):E 404 #[↑X.l,J n,J 1] w (ch 337 B BC w a g X c P T (onA st (af st.s (nuFl (ac P).length)),d,if ldW st.s.W (nuFl (ac P).length)=0 then 2 else 1) U):=by
  have ME:=qh (kK w X.b P T n Y h.tb.f _ Kw);have l1:=h.cs.2.1;have I:=qh I;have OH:=xT h V;obtain⟨q,hq⟩:=LE (ldW st.s.W (nuFl (ac P).length));rw[<-hq]at OH ⊢;obtain⟨v,O⟩:∃v:Int,v=if q=0 then 2 else 1:=⟨_,rfl⟩
  exact acq
def EJ(h:aw 337 B BC w a g X c P T st d U)(n:Nat)(Y:n<T.length)(I:nd<(ac P).length)(Kw:(aq P T T.length)[n]? =some ((nd:Nat):Int))(V:st.s.ops+1<=1000000000000):E 404 #[↑X.l,J n,J 3] w (ch 337 B BC w a g X c P T (onA st (af st.s (nuFl (ac P).length)),d,if ldW st.s.W (nuFl (ac P).length)=0 then 10 else 4) U):=by
  have ME:=qh (kK w X.b P T n Y h.tb.f _ Kw);have l1:=h.cs.2.1;have I:=qh I;have OH:=xT h V;obtain⟨q,hq⟩:=LE (ldW st.s.W (nuFl (ac P).length));rw[<-hq]at OH ⊢;obtain⟨v,O⟩:∃v:Int,v=if q=0 then 10 else 4:=⟨_,rfl⟩
  exact acq
def Dh(h:aw 337 B BC w a g X c P T st d U)(n:Nat)(hn:n<T.length)(V:st.s.ops+1<=1000000000000):E 403 #[↑X.l,J n,J 5] w (ch 337 B BC w a g X c P T (bC c (onA st (addA st.s (nuFl (ac P).length) 1)) n,d,7) U):=by
 have Kz:n<X.x.n:=by rw[h.nT.1];exact hn
 have H:=qh h;clear h;go_enter func403,ntmps403;have K0:=H;have T0:=qh (aa.refl (SmS a g X) w);have I:=qh K0.o.drw;have i':=qh (ir (I.o).gd.ar (nuFl (ac P).length) (1) V);obtain⟨va,Y⟩:∃va:Int,va=(if inR st.s.W (nuFl (ac P).length)then IntKind.i64.wrap (ldW st.s.W (nuFl (ac P).length)+(1))else 0):=⟨_,rfl⟩;rw[<-Y]at i';clear Y;go_wp2_with fail
 go_region_held3 (λW=>W.cell? X.l=some ↑a/\Z W X.l 4 (J (2*((ac P).length:Int)+1)))
  (first|exact⟨I.o.cs.1,I.o.cs.2.2.2.2.1⟩|exact⟨K1.o.cs.1,K1.o.cs.2.2.2.2.1⟩)
  (first
   |(go_at_call 298;go_loud (refine Op i'.o λw1 O=>?_);have K1:=qh (I.o.arT O.o.2 O.o.1);have T1:=qh (T0.o.drew.trans (fz O.o.2))))
 have l5:=K1.o.cs.2.2.2.2.2.1;go_wp2_with fail;refine Op (sC K1.o.co n Kz) λw2 k3=>?_;exact acr
def zU(h:aw 337 B BC w a g X c P T st d U)(n:Nat)(hn:n<T.length)(V:st.s.ops+1<=1000000000000):E 403 #[↑X.l,J n,J 12] w (ch 337 B BC w a g X c P T (aA (onA st (addA st.s (nuFl (ac P).length) (-1))) n,d,13) U):=by
 have Kz:n<X.x.n:=by rw[h.nT.1];exact hn
 have H:=qh h;clear h;go_enter func403,ntmps403;have K0:=H;have T0:=qh (aa.refl (SmS a g X) w);have I:=qh K0.o.drw;have i':=qh (ir (I.o).gd.ar (nuFl (ac P).length) (-1) V);obtain⟨va,Y⟩:∃va:Int,va=(if inR st.s.W (nuFl (ac P).length)then IntKind.i64.wrap (ldW st.s.W (nuFl (ac P).length)+(-1))else 0):=⟨_,rfl⟩;rw[<-Y]at i';clear Y;go_wp2_with fail
 go_region_held3 (λW=>W.cell? X.l=some ↑a/\Z W X.l 4 (J (2*((ac P).length:Int)+1)))
  (first|exact⟨I.o.cs.1,I.o.cs.2.2.2.2.1⟩|exact⟨K1.o.cs.1,K1.o.cs.2.2.2.2.1⟩)
  (first
   |(go_at_call 298;go_loud (refine Op i'.o λw1 O=>?_);have K1:=qh (I.o.arT O.o.2 O.o.1);have T1:=qh (T0.o.drew.trans (fz O.o.2))))
 exact ack
def zV(h:aw 337 B BC w a g X c P T st d U)(n:Nat)(hn:n<T.length)(C:dg BB X.x c st)(V:st.s.ops+1<=1000000000000):E 403 #[↑X.l,J n,J 13] w (ch 337 B BC w a g X c P T (ak c st n,d,if bv (sv st.T n) (sv (ak c st n).T n)then 0 else 13) U):=by
 have Kz:n<X.x.n:=by rw[h.nT.1];exact hn
 have I:=mK h.co C n Kz;obtain⟨q,Y⟩:=LE (bv (sv st.T n) (sv (ak c st n).T n));rw[<-Y]at I ⊢;have HS:=qh I;have l5:=h.cs.2.2.2.2.2.1;have H:=qh h;clear h Y I;cases q;all_goals go_enter func403,ntmps403;go_wp2_with fail;refine Op HS.o λw1 O=>?_;have K1:=qh (H.o.coT O.o.2 O.o.1);have T1:=qh (ii (X:=X) O.o.2);go_wp2;go_ret;exact⟨rfl,K1.o,T1.o⟩
def Di(h:aw 337 B BC w a g X c P T st d U)(n:Nat)(hn:n<T.length)(C:dg BB X.x c st)(hN:1<=(ac P).length)(V:st.s.ops+1<=1000000000000):E 403 #[↑X.l,J n,J 7] w (ch 337 B BC w a g X c P T (ak c st n,if bv (sv st.T n) (sv (ak c st n).T n)then dU d (ac P).length false else d,if bv (sv st.T n) (sv (ak c st n).T n)then 9 else 7) U):=by
 have Kz:n<X.x.n:=by rw[h.nT.1];exact hn
 have O:=mK h.co C n Kz;obtain⟨q,hq⟩:=LE (bv (sv st.T n) (sv (ak c st n).T n));rw[<-hq]at O ⊢;have Y:=qh O;have l5:=h.cs.2.2.2.2.2.1;have H:=qh h;clear h hq O;cases q;.go_enter func403,ntmps403;go_wp2_with fail;refine Op Y.o λw1 I=>?_;have K1:=qh (H.o.coT I.o.2 I.o.1);have T1:=qh (ii (X:=X) I.o.2);exact aco
 .go_enter func403,ntmps403;go_wp2_with fail;refine Op Y.o λw1 I=>?_;have K1:=qh (H.o.coT I.o.2 I.o.1);have T1:=qh (ii (X:=X) I.o.2);exact acg
def Dj(h:aw 337 B BC w a g X c P T st d U)(hb:d.busy=true->d.at_<(ac P).length)(n:Nat)(V:st.s.ops+1<=1000000000000):E 403 #[↑X.l,J n,J 9] w (ch 337 B BC w a g X c P T (onA st (aj st.s d).1,(aj st.s d).2.1,if (aj st.s d).2.2=true then 10 else 9) U):=by obtain⟨r,I⟩:=LE (aj st.s d);have O:=nt h.gd hb V;rw[<-I]at O ⊢;obtain⟨s1,d1,q⟩:=r;simp only at O ⊢;have HD:=qh O;have H:=qh h;clear h I hb O;cases q;all_goals go_enter func403,ntmps403;have d3:=H.o.cs.2.2.2.1;go_wp2_with fail;refine Op HD.o λw1 Y=>?_;have K1:=qh (H.o.gdT Y.o.2 Y.o.1);have T1:=qh (jv (X:=X) Y.o.2);go_wp2;go_ret;exact⟨rfl,K1.o,T1.o⟩
end
end
section
open Go.RowKit
section
variable{X:SmX}{c:CoC}{st st':Co}{d d':Dr}{U:List Sp}{s':Ar}
def x8(h:aw 337 B BC w a g X c P T st d U)(n:Nat)(hn:n<T.length)(hc:(sv U n).pc=0\/(sv U n).pc=10):E 400 #[↑X.l,J n] w (av 337 B BC w a g X c P T U n (bj c (ac P).length ⟨st,d,U⟩ n)):=by
 have Kt:=aP;have I:=pE h n;have hp:=h.thr hn;have hg:getS U (n:Int)=sv U n:=by exact abX
 rw[hg]at I;have H:=qh h;refine aj0 ?_;intro t2 MX;have r':bj c (ac P).length ⟨st,d,U⟩ n=⟨st,d,U⟩:=by unfold bj;rw[if_pos hc]
 obtain⟨p,Y⟩:=LE (sv U n);rw[<-Y]at hc I;have V:=qh I;have HX:=qh r';clear h hp Y r' hg I;obtain⟨pc,u,b,z⟩:=p;simp only at hc;unfold aF at V;rcases hc with rfl|rfl
 all_goals go_enter func400,ntmps400;go_wp2_with fail;refine Op V.o λw1 O=>?_;go_wp2;go_ret;rw[HX.o];first|exact av.stay ((H.o.below O.o).below ((Below.refl _ _).alloc (Nat.le_refl _) _)) ((aa.of_below O.o).alloc _) rfl|exact av.put HP.o ((H.o.below O.o).below ((Below.refl _ _).alloc (Nat.le_refl _) _)) ((aa.of_below O.o).alloc _) rfl ahL
def jd(h:aw 337 B BC w a g X c P T st d U)(n:Nat)(hn:n<T.length)(pc b z:Int)(hU:sv U n=⟨pc,1,b,z⟩)(hc:pc≠0/\pc≠10)(hD:∀W,aw 337 B BC W a g X c P T st d U->E 404 #[↑X.l,J n,J pc] W (ch 337 B BC W a g X c P T (iI c (ac P).length ⟨st,d,U⟩ n ⟨pc,1,b,z⟩) U)):E 400 #[↑X.l,J n] w (av 337 B BC w a g X c P T U n (bj c (ac P).length ⟨st,d,U⟩ n)):=by
  have Kt:=aP;have H':=pE h n;have hp:=h.thr hn;have hg:getS U (n:Int)=sv U n:=by exact abX
  rw[hg]at H';have H:=qh h;refine aj0 ?_;intro t2 MX;obtain⟨r,I⟩:=LE (iI c (ac P).length ⟨st,d,U⟩ n ⟨pc,1,b,z⟩);have r':bj c (ac P).length ⟨st,d,U⟩ n=⟨r.1,r.2.1,U.set n ⟨r.2.2,1,b,z⟩⟩:=by unfold bj;exact acm
  rw[<-I]at hD;rw[hU]at hp H';obtain⟨s1,d1,v⟩:=r;simp only at r';refine ajV ?_;intro u0 u1 HX HS HP HD;clear h hp r' hg H' hD I hU hc;unfold aF at HS;cases v1:(v==10)<;>cases v2:(v==0);all_goals go_enter func400,ntmps400;go_wp2_with fail;refine ajc ?_;intro w1 b1 K1 T1;go_upto_region 2 with fail;obtain⟨sb,Ls⟩:=LE w1.heap.size;obtain⟨V,O⟩:=LE (w1.alloc (cells #[J pc,J 1,J b,J z] 113));rw[<-O,<-Ls];have Y:=qh (show aw 337 B BC V a g X c P T st d U/\aa (SmS a g X) w V/\Blk V sb 113 #[J pc,J 1,J b,J z]/\sb∉SmS a g X from⟨by rw[O];exact(K1.o).below ((Below.refl _ _).alloc (Nat.le_refl _) _),by rw[O];exact T1.o.alloc _,by rw[O,Ls];exact Blk.new _ _ _,λk=>by have:=K1.o.ltsA _ k;omega⟩);clear O Ls K1 T1;have v0:V.cell? sb=some (J pc):=Y.o.2.2.1.cell 0;have va:Z V sb 1 (J 1):=Y.o.2.2.1.cell 1;go_wp2_with fail;refine Op (HD.o _ Y.o.1) λw3 k3=>?_;have K3:=qh k3.o.1;have T3:=qh (Y.o.2.1.trans k3.o.2)
  all_goals refine ajS ?_;intro e0 z0 d6;have K4:=qh (K3.o.put0 HP.o (p':=(⟨v,1,b,z⟩:Sp)) (u:= J v) rfl);go_wp2;go_ret;rw[HX.o];first|exact av.stay (K4.o) (T3.o.trans (eg _ _)) rfl|exact av.put HP.o (K4.o) (T3.o.trans (eg _ _)) rfl ahL
def jc(h:aw 337 B BC w a g X c P T st d U)(n:Nat)(hn:n<T.length)(pc b z:Int)(hU:sv U n=⟨pc,0,b,z⟩)(hc:pc≠0/\pc≠10)(hD:∀W,aw 337 B BC W a g X c P T st d U->E 403 #[↑X.l,J n,J pc] W (ch 337 B BC W a g X c P T (iI c (ac P).length ⟨st,d,U⟩ n ⟨pc,0,b,z⟩) U)):E 400 #[↑X.l,J n] w (av 337 B BC w a g X c P T U n (bj c (ac P).length ⟨st,d,U⟩ n)):=by
  have Kt:=aP;have H':=pE h n;have hp:=h.thr hn;have hg:getS U (n:Int)=sv U n:=by exact abX
  rw[hg]at H';have H:=qh h;refine aj0 ?_;intro t2 MX;obtain⟨r,I⟩:=LE (iI c (ac P).length ⟨st,d,U⟩ n ⟨pc,0,b,z⟩);have r':bj c (ac P).length ⟨st,d,U⟩ n=⟨r.1,r.2.1,U.set n ⟨r.2.2,0,b,z⟩⟩:=by unfold bj;exact acm
  rw[<-I]at hD;rw[hU]at hp H';obtain⟨s1,d1,v⟩:=r;simp only at r';refine ajV ?_;intro u0 u1 HX HS HP HD;clear h hp r' hg H' hD I hU hc;unfold aF at HS;cases v1:(v==10)<;>cases v2:(v==0);all_goals go_enter func400,ntmps400;go_wp2_with fail;refine ajc ?_;intro w1 b1 K1 T1;go_upto_region 2 with fail;obtain⟨sb,Ls⟩:=LE w1.heap.size;obtain⟨V,O⟩:=LE (w1.alloc (cells #[J pc,J 0,J b,J z] 113));rw[<-O,<-Ls];have Y:=qh (show aw 337 B BC V a g X c P T st d U/\aa (SmS a g X) w V/\Blk V sb 113 #[J pc,J 0,J b,J z]/\sb∉SmS a g X from⟨by rw[O];exact(K1.o).below ((Below.refl _ _).alloc (Nat.le_refl _) _),by rw[O];exact T1.o.alloc _,by rw[O,Ls];exact Blk.new _ _ _,λk=>by have:=K1.o.ltsA _ k;omega⟩);clear O Ls K1 T1;have v0:V.cell? sb=some (J pc):=Y.o.2.2.1.cell 0;have va:Z V sb 1 (J 0):=Y.o.2.2.1.cell 1;go_wp2_with fail;refine Op (HD.o _ Y.o.1) λw3 k3=>?_;have K3:=qh k3.o.1;have T3:=qh (Y.o.2.1.trans k3.o.2)
  all_goals refine ajS ?_;intro e0 z0 d6;have K4:=qh (K3.o.put0 HP.o (p':=(⟨v,0,b,z⟩:Sp)) (u:= J v) rfl);go_wp2;go_ret;rw[HX.o];first|exact av.stay (K4.o) (T3.o.trans (eg _ _)) rfl|exact av.put HP.o (K4.o) (T3.o.trans (eg _ _)) rfl ahL
def ES(h:aw 337 B BC w a g X c P T st d U)(n:Nat)(H:n<T.length)(hc:ia (sv U n) (sv st.T n))(V:st.s.ops+1<=1000000000000)(hN:1<=(ac P).length)(hb:((sv U n).a=0->(sv U n).pc=9->d.busy=true->d.at_<(ac P).length))(C:dg BB X.x c st):E 400 #[↑X.l,J n] w (av 337 B BC w a g X c P T U n (bj c (ac P).length ⟨st,d,U⟩ n)):=by
  obtain⟨p,O⟩:=LE (sv U n)
  have KJ:p.pc=0\/p.pc=10\/(p.a=1/\p.pc=1)\/(p.a=1/\p.pc=2)\/(p.a=1/\p.pc=3)\/(p.a=1/\p.pc=4)\/(p.a=1/\p.pc=11)\/(p.a=0/\p.pc=5)\/(p.a=0/\p.pc=7)\/(p.a=0/\p.pc=9)\/(p.a=0/\p.pc=12)\/(p.a=0/\p.pc=13):=by
    rw[<-O]at hc;unfold ia at hc;rcases hc with⟨q1,_⟩|⟨q1,q2,_⟩|⟨q1,q2,_⟩|⟨q1,q2,_⟩|⟨q1,q2,_⟩|⟨q1,q2,_⟩
    all_goals omega
  have Y:=hb;rw[<-O]at Y;obtain⟨pc,u,b,z⟩:=p;have Ki:(sv U n).pc=pc:=by rw[<-O]
  simp only at KJ Y;have I:=h.nodeA H;rcases KJ with rfl|rfl|⟨rfl,rfl⟩|⟨rfl,rfl⟩|⟨rfl,rfl⟩|⟨rfl,rfl⟩|⟨rfl,rfl⟩|⟨rfl,rfl⟩|⟨rfl,rfl⟩|⟨rfl,rfl⟩|⟨rfl,rfl⟩|⟨rfl,rfl⟩
  . exact x8 h n H (.inl Ki)
  . exact x8 h n H (.inr Ki)
  . exact jd h n H _ b z O.symm ahD (λW k=>EH k n H I.1 I.2 V)
  . exact jd h n H _ b z O.symm ahD (λW k=>EI k n H I.1 I.2 V)
  . exact jd h n H _ b z O.symm ahD (λW k=>EJ k n H I.1 I.2 V)
  . refine jd h n H _ b z O.symm ahD (λW k=>?_);have k9:=EK k n H I.1 I.2 V;rw[show 2*((c.node n:Nat):Int)+1+1=gaW (c.node n)by unfold gaW;omega]at k9;exact k9
  . refine jd h n H _ b z O.symm ahD (λW k=>?_);have k9:=CO k n H I.1 I.2 V;rw[show 2*((c.node n:Nat):Int)+1+1=gaW (c.node n)by unfold gaW;omega]at k9;exact k9
  . exact jc h n H _ b z O.symm ahD (λW k=>Dh k n H V)
  . exact jc h n H _ b z O.symm ahD (λW k=>Di k n H C hN V)
  . exact jc h n H _ b z O.symm ahD (λW k=>Dj k (Y rfl rfl) n V)
  . exact jc h n H _ b z O.symm ahD (λW k=>zU k n H V)
  . exact jc h n H _ b z O.symm ahD (λW k=>zV k n H C V)
end
end
section
open Go Go.RowKit
variable{c:CoC}
def kW(x:Nu)(i:Nat)(hi:i<x.U.length)(h:(sv x.U i).pc=10->(sv x.U i).a=0\/(sv x.U i).a=1):kP (sv x.U i).pc (sv (aE x i).U i).pc=decide ((sv x.U i).pc=10):=by
 unfold aE kP;split;.rename_i e;have:=h e;rw[decide_eq_true e];refine decide_eq_true (.inl ⟨.inr e,?_⟩);rw[show({x with U:=x.U.set i {sv x.U i with pc:=12-(sv x.U i).a}}:Nu).U=x.U.set i {sv x.U i with pc:=12-(sv x.U i).a} from rfl,gk hi,if_pos rfl];dsimp only;omega
 .rename_i e;rw[decide_eq_false e];exact decide_eq_false ahB
def uw:kO where
 ty:=330
 pt:=274
 md:=1
 step:=cG
 ask:=λc x i r=>cH c x i r
 ok:=NuS
def ux(hk:NuK c T.length (ac P).length L (mtQ P T)):uw.Ok c P T L where
 act:=λB x hs h1 H i hi=>by
  have hl:okI x.U (i:Int):=⟨by omega,by rw[hs.i.lU];omega⟩
  have a0:=NuS.act hs hk h1 H 0 (i:Int)
  have a1:=λr:Bool=>NuS.act hs hk h1 H (if r then 3 else 1) (i:Int)
  have a2:=NuS.act hs hk h1 H 2 (i:Int)
  unfold sx at a0 a1 a2
  exact acu
 mono:=λB B' x h I=>⟨h.i,h.ok.mono I⟩
 lU:=λB x h=>h.i.lU
 safe:=λB x h i j hi hj h1 H O=>h.i.safe hk.y hi h1 O hj H
 link:=λB x h i hi=>by
  have:=h.i.k i hi
  unfold hJ at this
  omega
 askS:=λx i r=>by
  exact acv
 cS:=λB BC w a g X q x BB i h hs I V hb hi=>by
  have C:=bO.pre (x:=X.x) (by rw[h.nT.1];exact hs.ok) aiH h.co.fx I.1 I.2 V
  have k:=EQ h i hi (hs.i.k i hi) V hk.N1 (λY ab=>((hs.i.dr i hi (by have:=hs.i.k i hi;unfold hJ at this;show(sv x.U i).a=0;omega) Y).1.2.2.1)) C
  refine(DW hb (i:Int) (R:=λr w'=>r=di (sv x.U i) (sv (cG c (ac P).length x i).U i)/\aw 330 B BC w' a g X c P T (cG c (ac P).length x i).st (cG c (ac P).length x i).d (cG c (ac P).length x i).U/\aa (SmS a g X) w w') (k.mono ?_)).mono λ_ _ q=>q.to λ_ _ q=>q
  rintro e w' ⟨rfl,k2,t2⟩
  refine⟨_,rfl,?_,k2,t2⟩
  by_cases e:(sv x.U i).pc=0\/(sv x.U i).pc=10
  .rw[show cG c (ac P).length x i=x by unfold cG;rw[if_pos e]]
   exact acw
  .unfold di kP
   by_cases f:(sv (cG c (ac P).length x i).U i).pc=10\/(sv (cG c (ac P).length x i).U i).pc=0
   .exact acx
   .exact acy
 cA:=λB BC w a g X q x i r h hb hi=>by
  refine akj ?_
  intro hl
  refine(F2 hb (i:Int) r (R:=λb w'=>b=decide ((sv x.U i).pc=0)/\aw 330 B BC w' a g X c P T (cH c x i r).st (cH c x i r).d (cH c x i r).U/\aa (SmS a g X) w w') ((FE h i hi r).mono ?_)).mono λ_ _ q=>q.to λ_ _ q=>q
  exact acz
 cL:=λB BC w a g X q x i h hb hi ha=>by
  refine akj ?_
  intro hl
  refine(Bo hb (i:Int) (R:=λb w'=>b=decide ((sv x.U i).pc=10)/\aw 330 B BC w' a g X c P T (aE x i).st (aE x i).d (aE x i).U/\aa (SmS a g X) w w') ((Cd h i hi ha).mono ?_)).mono λ_ _ q=>q.to λ_ _ q=>q
  exact acA
 cP:=λB BC w a g X q x i h hb hi=>DT hb (i:Int) _ λW b=>by
  have k:=px (h.below b) (i:Int)
  exact acB
def uy:kO where
 ty:=335
 pt:=277
 md:=2
 step:=a7
 ask:=λc x i r=>cH c x i r
 ok:=RsS
def uz(hk:NuK c T.length (ac P).length L (mtQ P T)):uy.Ok c P T L where
 act:=λB x hs h1 H i hi=>by
  have hl:okI x.U (i:Int):=⟨by omega,by rw[hs.i.lU];omega⟩
  have a0:=RsS.act hs hk h1 H 0 (i:Int)
  have a1:=λr:Bool=>RsS.act hs hk h1 H (if r then 3 else 1) (i:Int)
  have a2:=RsS.act hs hk h1 H 2 (i:Int)
  unfold sA at a0 a1 a2
  exact acu
 mono:=λB B' x h I=>⟨h.i,h.ok.mono I,h.dok⟩
 lU:=λB x h=>h.i.lU
 safe:=λB x h i j hi Y h1 H O=>h.i.safe hk.y hi h1 O Y H
 link:=λB x h i hi=>by
  have:=h.i.k i hi
  unfold iy at this
  omega
 askS:=λx i r=>by
  exact acv
 cS:=λB BC w a g X q x BB i h hs I V hb hi=>by
  have C:=bO.pre (x:=X.x) (by rw[h.nT.1];exact hs.ok) aiH h.co.fx I.1 I.2 V
  have k:=ER h i hi (hs.i.k i hi) V hk.N1 (λ_ _ hb=>(hs.dok hb).1) C
  refine(DX hb (i:Int) (R:=λr w'=>r=di (sv x.U i) (sv (a7 c (ac P).length x i).U i)/\aw 335 B BC w' a g X c P T (a7 c (ac P).length x i).st (a7 c (ac P).length x i).d (a7 c (ac P).length x i).U/\aa (SmS a g X) w w') (k.mono ?_)).mono λ_ _ q=>q.to λ_ _ q=>q
  rintro e w' ⟨rfl,k2,t2⟩
  refine⟨_,rfl,?_,k2,t2⟩
  by_cases e:(sv x.U i).pc=0\/(sv x.U i).pc=10
  .rw[show a7 c (ac P).length x i=x by unfold a7;rw[if_pos e]]
   exact acw
  .unfold di kP
   by_cases f:(sv (a7 c (ac P).length x i).U i).pc=10\/(sv (a7 c (ac P).length x i).U i).pc=0
   .exact acx
   .exact acy
 cA:=λB BC w a g X q x i r h hb hi=>by
  refine akj ?_
  intro hl
  refine(F3 hb (i:Int) r (R:=λb w'=>b=decide ((sv x.U i).pc=0)/\aw 335 B BC w' a g X c P T (cH c x i r).st (cH c x i r).d (cH c x i r).U/\aa (SmS a g X) w w') ((FF h i hi r).mono ?_)).mono λ_ _ q=>q.to λ_ _ q=>q
  exact acz
 cL:=λB BC w a g X q x i h hb hi ha=>by
  refine akj ?_
  intro hl
  refine(Bp hb (i:Int) (R:=λb w'=>b=decide ((sv x.U i).pc=10)/\aw 335 B BC w' a g X c P T (aE x i).st (aE x i).d (aE x i).U/\aa (SmS a g X) w w') ((Ce h i hi ha).mono ?_)).mono λ_ _ q=>q.to λ_ _ q=>q
  exact acA
 cP:=λB BC w a g X q x i h hb hi=>DU hb (i:Int) _ λW b=>by
  have k:=py (h.below b) (i:Int)
  exact acB
def uA:kO where
 ty:=337
 pt:=280
 md:=3
 step:=bj
 ask:=λc x i r=>fi x i r
 ok:=WsS
def uB(hk:NuK c T.length (ac P).length L (mtQ P T)):uA.Ok c P T L where
 act:=λB x hs h1 H i hi=>by
  have hl:okI x.U (i:Int):=⟨by omega,by rw[hs.i.lU];omega⟩
  have a0:=WsS.act hs hk h1 H 0 (i:Int)
  have a1:=λr:Bool=>WsS.act hs hk h1 H (if r then 3 else 1) (i:Int)
  have a2:=WsS.act hs hk h1 H 2 (i:Int)
  unfold sB at a0 a1 a2
  exact acu
 mono:=λB B' x h I=>⟨h.i,h.ok.mono I⟩
 lU:=λB x h=>h.i.lU
 safe:=λB x h i j hi hj h1 H Y=>h.i.safe hk.y hi h1 Y hj H
 link:=λB x h i hi=>by
  have:=h.i.k i hi
  unfold ia at this
  omega
 askS:=λx i r=>by
  show(fi x i r).st.s=x.st.s
  unfold fi
  split
  .rfl
  .rfl
 cS:=λB BC w a g X q x BB i h hs I V hb hi=>by
  have C:=bO.pre (x:=X.x) (by rw[h.nT.1];exact hs.ok) aiH h.co.fx I.1 I.2 V
  have k:=ES h i hi (hs.i.k i hi) V hk.N1 (λO h9 _=>((hs.i.dr i hi O h9).1.2.2.1)) C
  refine(DY hb (i:Int) (R:=λr w'=>r=di (sv x.U i) (sv (bj c (ac P).length x i).U i)/\aw 337 B BC w' a g X c P T (bj c (ac P).length x i).st (bj c (ac P).length x i).d (bj c (ac P).length x i).U/\aa (SmS a g X) w w') (k.mono ?_)).mono λ_ _ q=>q.to λ_ _ q=>q
  rintro e w' ⟨rfl,k2,t2⟩
  refine⟨_,rfl,?_,k2,t2⟩
  by_cases e:(sv x.U i).pc=0\/(sv x.U i).pc=10
  .rw[show bj c (ac P).length x i=x by unfold bj;rw[if_pos e]]
   exact acw
  .unfold di kP
   by_cases f:(sv (bj c (ac P).length x i).U i).pc=10\/(sv (bj c (ac P).length x i).U i).pc=0
   .exact acx
   .exact acy
 cA:=λB BC w a g X q x i r h hb hi=>by
  refine akj ?_
  intro hl
  refine(F4 hb (i:Int) r (R:=λb w'=>b=decide ((sv x.U i).pc=0)/\aw 337 B BC w' a g X c P T (fi x i r).st (fi x i r).d (fi x i r).U/\aa (SmS a g X) w w') ((FG h i hi r).mono ?_)).mono λ_ _ q=>q.to λ_ _ q=>q
  rintro e w' ⟨rfl,k2,t2⟩
  refine⟨_,rfl,?_,k2,t2⟩
  unfold fi
  exact acC
 cL:=λB BC w a g X q x i h hb hi ha=>by
  refine akj ?_
  intro hl
  refine(Bq hb (i:Int) (R:=λb w'=>b=decide ((sv x.U i).pc=10)/\aw 337 B BC w' a g X c P T (aE x i).st (aE x i).d (aE x i).U/\aa (SmS a g X) w w') ((Cf h i hi ha).mono ?_)).mono λ_ _ q=>q.to λ_ _ q=>q
  exact acA
 cP:=λB BC w a g X q x i h hb hi=>DV hb (i:Int) _ λW b=>by
  have k:=pE (h.below b) (i:Int)
  exact acB
end
section
open Go Go.RowKit
section
variable{bud:Int}{s:Ar}
def Fd{m:Nat}(hk:1<=k/\k<=5)(V:1<=n/\n<=32)(hm:1<=m/\m<=4)(I:s.W=[])(hs:s.ops=0){x:Fx}(h:dx w' a g k x (aG k s n m) (a9 k n))(h1:w.heap.size<=x.p/\w.heap.size<=x.l/\w.heap.size<=x.q/\x.n=n/\x.m=m/\x.t=s.W.length+1):qN w a g n k (flV x.p) ⟨Eg k n m,(aG k s n m,a9 k n)⟩ w':=by
 intro w2 lb t Nc ha hg hb;obtain⟨l1,l2,l3,e1,e2,e3⟩:=h1;have H:=h.oth t (h.ki.ar.turns t (by simp;exact λe=>ha e.symm) (by simp;exact λe=>hg e.symm)) ahG ahG ahG;have b1:=H.p.lt;have b2:=H.ki.lk.lt;have b3:=H.ki.sp.lt;have b4:=H.ki.ar.blk.lt;have b5:=H.ki.ar.wds.lt;have Kt:∀y∈[a,g,x.q],w.heap.size<=y\/y=a\/y=g:=λy Y=>by simp at Y;omega
 have hz:WdB 40 s:=by intro v O;rw[I]at O;cases O
 have hi:=oJ hk s (n:=n) (m:=m) hm.1;rw[I]at hi;refine⟨⟨x,w2.heap.size,min lb (min a g),a,g⟩,zb hk V hm,⟨hi,(nU (B:=40) hz ahB V.2).mono ahX,λp hp=>⟨wM V.2 ahX p hp,GC k (i2 k n p hp).1⟩,?_⟩,⟨H,⟨rfl,rfl,e1,e2,by rw[e3,I];rfl⟩,⟨hb,λz=>by simp at z;omega,⟨Nat.min_le_left _ _,hb.lt⟩,λy Y=>by simp at Y;show min lb (min a g)<=y/\y<w2.heap.size;omega,Nat.le_refl _⟩,⟨by show min lb (min a g)<=x.p;omega,b1⟩,by show min lb (min a g)<=x.l;omega,b2⟩,Kt,Nat.le_refl _⟩;have:=kE k s n m;show(aG k s n m).ops<=0+1;omega
def Af{x:Cox}(B:Nat->Prop){i:Nat}(hi:i∈CoS a g x):i=a\/i=g\/fb x B i:=by
 unfold CoS at hi;simp only[List.mem_cons]at hi;rcases hi with rfl|rfl|rfl|rfl|hi
 .exact .inl rfl
 .exact .inr (.inl rfl)
 .exact .inr (.inr (.inr (.inr (.inl rfl))))
 .exact .inr (.inr (.inr (.inr (.inr (.inl (.inr (.inr rfl)))))))
 .obtain⟨y,h,rfl⟩:=List.mem_map.1 hi;exact .inr (.inr (.inr (.inr (.inr (.inr (.inl ⟨y,h,.inr (.inr rfl)⟩))))))
def Il{kg kl par:Nat}(hc:a5 P T=0)(Y:1<=kg/\kg<=5)(V:1<=kl/\kl<=5)(hp:1<=par/\par<=4)(hW:s.W=[])(hs:s.ops=0){x:Cox}(h:aC B w' a g x (fm kg kl par bud P T s) P T (bG kg kl par P T s))(hb:∀i,fb x B i->w.heap.size<=i/\i<w'.heap.size):qN w a g T.length 6 (AZ x.l) ⟨Ef (fm kg kl par bud P T s) P T (bG kg kl par P T s).s.W.length,bG kg kl par P T s⟩ w':=by
 intro w2 lb t Nc ha hg KQ;have ht:=t.size;have k2:=h.farK t (by simp;exact λe=>ha e.symm) (by simp;exact λe=>hg e.symm) (λi hi hB=>by have:=hb i hB;simp at hi;omega);have b4:=k2.ar.blk.lt;have b5:=k2.ar.wds.lt
 have I:∀y∈CoS a g x,(w.heap.size<=y\/y=a\/y=g)/\y<w2.heap.size:=λy H=>by
  rcases Af B H with e|e|e
  .omega
  .omega
  .have:=hb y e;omega
 have hz:WdB 40 s:=by intro v O;rw[hW]at O;cases O
 have ok:=pd (kg:=kg) (kl:=kl) (par:=par) (bud:=bud) hc hz;rw[hs]at ok;refine⟨⟨x,B,a,g,min lb (min a g),w2.heap.size⟩,za hc (vW (bud:=bud) hc Y V hp) (ws hc Y V hp),⟨xN hc Y V hp hz,ok.mono ahC,λi e=>?_⟩,⟨k2,⟨rfl,rfl⟩,⟨KQ,λz=>by have:=I _ z;omega,⟨Nat.min_le_left _ _,KQ.lt⟩,λy H=>by have:=I y H;show min lb (min a g)<=y/\y<w2.heap.size;omega,Nat.le_refl _⟩,λi hi=>by have:=hb i hi;show min lb (min a g)<=i/\i<w2.heap.size;omega⟩,λy H=>(I y H).1,Nat.le_refl _⟩;exfalso;have e0:sv (List.replicate T.length Sp.zero) i=Sp.zero:=rX _ i;have e1:(sv (List.replicate T.length Sp.zero) i).pc=10:=e;rw[e0]at e1;exact absurd e1 ahD
def In(hc:a5 P T=0)(Kk:0<=bud/\bud<=1000){x:Hx}{s':Ar}(hs:s'.ops=0)(LP:x.a=a)(Y:x.g=g)(h:aV B w' x (cB P T) bud s' (hm0 (cB P T)))(hB:∀i,B i->w.heap.size<=i)(hq:w.heap.size<=x.q)(UA:∀v,v<P.length->w.heap.size<=x.qb v):qN w a g T.length 7 (hmV x.l) ⟨Ch (cB P T) bud,⟨s',hm0 (cB P T)⟩⟩ w':=by
 intro w2 lb t Nc ha hg V;have ht:=t.size;have hn:1<=T.length/\T.length<=32:=by have:=bh (aR hc).1;exact⟨this.2.2.1,this.2.2.2⟩
 have hm:∀y∈mvL x (cB P T),w.heap.size<=y\/y=a\/y=g:=λy H=>by
  unfold mvL at H;simp only[List.mem_append,List.mem_cons,List.not_mem_nil,or_false,List.mem_map,List.mem_range]at H;rcases H with(rfl|rfl|rfl)|⟨v,O,rfl⟩
  .exact .inr (.inl LP)
  .exact .inr (.inr Y)
  .exact .inl hq
  .exact .inl (UA v O)
 have I:=h.turns t (λi hi Zb=>by have:=hB i Zb;simp at hi;omega) (λi hi Ss=>by have:=hm i Ss;simp at hi;omega);have b4:=I.ar.blk.lt;have b5:=I.ar.wds.lt
 have I':∀y∈mvL x (cB P T),y<w2.heap.size:=λy H=>by
  unfold mvL at H;simp only[List.mem_append,List.mem_cons,List.not_mem_nil,or_false,List.mem_map,List.mem_range]at H;rcases H with(rfl|rfl|rfl)|⟨v,O,rfl⟩
  .exact b4
  .exact b5
  .exact I.ss.lt
  .exact(I.rs v O).lt
 exact⟨⟨x,B,min lb (min a g),w2.heap.size⟩,zd (jh hc) hn Kk,⟨⟨_,ew.start _ _⟩,by show s'.ops<=0;omega⟩,⟨I,⟨LP,Y⟩,⟨V,λz=>by have:=hm _ z;omega,⟨Nat.min_le_left _ _,V.lt⟩,λy H=>by have:=hm y H;have:=I' y H;show min lb (min a g)<=y/\y<w2.heap.size;omega,Nat.le_refl _⟩,λi hi=>by have:=I.bd i hi;have:=hB i hi;show min lb (min a g)<=i/\i<w2.heap.size;omega⟩,hm,Nat.le_refl _⟩
def BZ{F:kO}{c:CoC}{st:Co}(hm:1<=F.md/\F.md<=3)(hc:a5 P T=0)(hF:F.Ok c P T L)(mT:F.ok c T.length (ac P).length L (mtQ P T) 40 ⟨st,dr0,List.replicate T.length Sp.zero⟩)(hs:st.s.ops<=40){q:Nat}{X:SmX}(h:aw F.ty B BC w' a g X c P T st dr0 (List.replicate T.length Sp.zero))(H:∀i∈SmS a g X,i=a\/i=g\/w.heap.size<=i)(hq:Blk w' q 273 (rwC F X.l))(Qf:w.heap.size<=q)(PK:q∉SmS a g X)(hb:∀i,i<w.heap.size\/w'.heap.size<=i->¬B i/\¬fb X.x BC i/\i≠X.l/\i≠X.gg):qN w a g T.length (10+F.md) (rwV q) ⟨Ei F c P T L,⟨st,dr0,List.replicate T.length Sp.zero⟩⟩ w':=by
 intro w2 lb t Nc ha hg V;have ht:=t.size;have Y:=h.farR t (λi hi=>hb i (.inl (by simp at hi;omega))) (λi hi hm=>by have:=H i hm;simp at hi;omega);have q2:=t.blk hq ahG
 have O:∀i,B i\/fb X.x BC i\/i=X.l\/i=X.gg->min lb (min a g)<=i/\i<w2.heap.size:=λi hi=>by
  apply Classical.byContradiction;intro hn;have:=hb i ahB;rcases hi with z|z|z|z
  .exact this.1 z
  .exact this.2.1 z
  .exact this.2.2.1 z
  .exact this.2.2.2 z
 have I':=Y.ltsA;exact⟨⟨B,BC,a,g,X,q,min lb (min a g),w2.heap.size⟩,ze hm hc hF,⟨by simpa using mT,by show st.s.ops<=0+1000;omega⟩,⟨Y,⟨rfl,rfl⟩,⟨V,λz=>by have:=H _ z;omega,⟨Nat.min_le_left _ _,V.lt⟩,λy I=>by have:=H y I;have:=I' y I;show min lb (min a g)<=y/\y<w2.heap.size;omega,Nat.le_refl _⟩,⟨q2,⟨by show min lb (min a g)<=q;omega,q2.lt⟩,PK⟩,O⟩,λy I=>by have:=H y I;omega,Nat.le_refl _⟩
end
end
section
open Go Go.RowKit
def iJ(f:FuncId)(xs:Array Value)(a g n:Nat)(k:Int)(gs:Nat->Value)(ms:MS n)(w:World):Prop:=
 Calls prog f xs w λe w'=>∃l,e= returned (tuple #[pointer (some ⟨l,0,none⟩),J 0])/\qN w a g n k (gs l) ms w'/\aa [a,g] w w'
def MkL(W:World)(a g lb n:Nat)(ms:MS n)(e:Ending)(w':World):Prop:=
 e= returned (J 0)/\(∃b:ms.1.β,ms.1.Good/\ms.1.ok ms.2 0/\ms.1.is b w' a g lb ms.2/\(∀x∈ms.1.fp b,W.heap.size<=x\/x=a\/x=g)/\min lb (min a g)<=ms.1.bt b)/\aa [a,g,lb] W w'
def Gh{H w5:World}{l:Nat}{k:Int}{ms:MS n}(hb:Below W.heap.size W H)(hl:Blk H lb 110 #[J k,J n,.nilIface])(Rk:lb<W.heap.size)(I:lb≠a/\lb≠g)(h:qN H a g n k (gs l) ms w5)(t:aa [a,g] H w5):MkL W a g lb n ms (returned (J 0)) (w5.setCell ⟨lb,2,none⟩ (gs l)):=by have hs:=hb.size;have h5:=t.blk hl (by simp;exact I);obtain⟨b,h1,V,Y,O⟩:=h (w5.setCell ⟨lb,2,none⟩ (gs l)) lb ((aa.refl _ _).setCell (.inl ahC) _) ahB I.1 I.2 (h5.set_ 2 _);exact⟨rfl,⟨b,h1,V,Y,⟨λx hx=>by have:=O.1 x hx;omega,O.2⟩⟩,((aa.of_below (S:=[a,g,lb]) hb).trans (t.mono (by intro i hi;simp at hi ⊢;rcases hi with rfl|rfl<;>simp))).setCell (.inl ahC) _⟩
section
variable{gl lo pa bu:Nat}
inductive MkP(a:Nat)(vP vT:Value)(gl lo pa bu:Nat):Int->FuncId->Array Value->(Nat->Value)->Prop
 |co:MkP a vP vT gl lo pa bu 6 103 #[↑a,agg #[vP,vT],agg #[int i64 gl,int i64 lo,int i64 pa,int i64 bu]] AZ
 |hm:MkP a vP vT gl lo pa bu 7 104 #[↑a,agg #[vP,vT],int i64 bu] hmV
 |hc:MkP a vP vT gl lo pa bu 8 105 #[↑a,agg #[vP,vT],int i64 bu] hcV
 |cn:MkP a vP vT gl lo pa bu 9 106 #[↑a,agg #[vP,vT],int i64 bu] cnV
 |ma:MkP a vP vT gl lo pa bu 10 107 #[↑a,agg #[vP,vT],int i64 bu] maV
inductive MkR(a n:Nat)(vP vT:Value)(gl lo pa bu k:Nat):FuncId->Array Value->(Nat->Value)->Prop
 |fl (h:1<=k/\k<=5):MkR a n vP vT gl lo pa bu k 109 #[↑a,int i64 k,int i64 n,int i64 pa] flV
 |rw (h:11<=k/\k<=13):MkR a n vP vT gl lo pa bu k 108 #[↑a,int i64 ((k:Int)-10),agg #[vP,vT],agg #[int i64 gl,int i64 lo,int i64 pa,int i64 bu]] rwV
def Fg{Q:Prop}(h:Q:=by
    have Ou:=t5.blk H0.o.2.1 (by simp;exact hn)
    have q2:=Ou.free 2
    have q2c:=Ou.cell 2
    have HF:=qh (Gh H0.o.1 H0.o.2.1 H0.o.2.2 hn hin t5)
    simp only[AZ,hmV,hcV,cnV,maV,flV,rwV]at HF
    clear hin t5 Ou
    go_wp2
    go_ret
    exact HF.o):Q:=h
variable{ms:MS n}{f:FuncId}{xs:Array Value}
def tM{k:Int}(K:MkP a vP vT gl lo pa bu k f xs gs)(O:Blk W lb 110 #[J k,J n,.nilIface])(hn:lb≠a/\lb≠g)(V:∀W2,Below W.heap.size W W2->iJ f xs a g n k gs ms W2):E 56 #[↑lb,↑a,agg #[vP,vT],agg #[J gl,J lo,J pa,J bu]] W (MkL W a g lb n ms):=by
  have H:=((Below.refl W.heap.size W).alloc (Nat.le_refl _) (cells #[vP,vT] 24)).alloc ahC (cells #[J gl,J lo,J pa,J bu] 36);have I:=O.below H O.lt;have c0:=I.cell 0;have c1:=I.cell 1;have Rk:=O.lt;have Y:=qh (V _ H);unfold iJ at Y;have H0:=qh (And.intro H (And.intro I Rk));have MZ:((W.alloc (cells #[vP,vT] 24)).alloc (cells #[J gl,J lo,J pa,J bu] 36)).heap.size=W.heap.size+2:=by simp
  clear H I O V;cases K;all_goals go_enter func56,ntmps56;go_wp2_with fail;refine Y.o.mono ?_;rintro en w5 ⟨l,rfl,hin,t5⟩;exact Fg
def tN(K:MkR a n vP vT gl lo pa bu k f xs gs)(O:Blk W lb 110 #[J k,J n,.nilIface])(hn:lb≠a/\lb≠g)(L0:a<W.heap.size/\g<W.heap.size)(HN:∀W2,Below W.heap.size W W2->iJ f xs a g n k gs ms W2):E 56 #[↑lb,↑a,agg #[vP,vT],agg #[J gl,J lo,J pa,J bu]] W (MkL W a g lb n ms):=by
  obtain⟨H,V⟩:=LE ((W.alloc (cells #[vP,vT] 24)).alloc (cells #[J gl,J lo,J pa,J bu] 36));have Kk:Below W.heap.size W H:=by rw[V];exact((Below.refl W.heap.size W).alloc (Nat.le_refl _) _).alloc ahC _
  have KP:Below W.heap.size W H.drew:=Kk.drew;have Lo:=O.below Kk O.lt;have k1:Blk H W.heap.size 24 #[vP,vT]:=by rw[V];exact(Blk.new W _ _).alloc _
  have Y:Blk H (W.heap.size+1) 36 #[J gl,J lo,J pa,J bu]:=by rw[V];exact Blk.new' _ _ _ ahC
  have ab:lb∉[a,g]:=by simp;exact hn
  have ad:W.heap.size∉[a,g]:=by simp;omega
  have OQ:W.heap.size+1∉[a,g]:=by simp;omega
  have HC:=qh (λgs (h:aa [a,g] H gs)=>And.intro ((h.blk Lo ab).cell 0) (And.intro ((h.blk Lo ab).cell 1) (And.intro ((h.blk k1 ad).cell 0) (And.intro ((h.blk k1 ad).cell 1) (And.intro ((h.blk Y OQ).cell 0) (And.intro ((h.blk Y OQ).cell 1) (And.intro ((h.blk Y OQ).cell 2) ((h.blk Y OQ).cell 3))))))));have Rk:=O.lt;have O4:=qh (HN _ KP);unfold iJ at O4;have H0:=qh (And.intro KP (And.intro (O.below KP O.lt) Rk));have HD:=qh (show aa [a,g] H H.drew from(aa.refl _ _).drew);have HR:=qh (show aa [a,g] H H from aa.refl _ _);have HZ:=qh V;have Ku:W.heap.size<H.heap.size:=k1.lt;clear Kk KP Lo O HN k1 Y V;have I:(1<=k/\k<=5)\/k=11\/k=12\/k=13:=by cases K<;>omega
  have ne:∀z:Int,(6<=z/\z<=10)\/(k:Int)≠z->((k:Int)==z)=false:=λz h=>by simp;omega
  have n6:=ne 6 ahB;have n7:=ne 7 ahB;have n8:=ne 8 ahB;have n9:=ne 9 ahB;have bw:=ne 10 ahB;have w1:IntKind.i64.wrap ((k:Int)-11)=k-11:=IntWalk.i64_in _ ahB;have w2:IntKind.i64.wrap ((k:Int)-11+1)=k-10:=by rw[IntWalk.i64_in _ ahB];omega
  cases K
  all_goals
    rcases I with I|I|I|I
    all_goals try omega
    all_goals
      first|have al:((k:Int)==11)=true:=by simp;omega|have al:=ne 11 ahB
      first|have ax:((k:Int)==12)=true:=by simp;omega|have ax:=ne 12 ahB
      first|have bc:((k:Int)==13)=true:=by simp;omega|have bc:=ne 13 ahB
      clear ne I;go_enter func56,ntmps56;go_upto_region 2 with fail;rw[<-HZ.o];obtain⟨q0,q1,q2⟩:=HC.o _ HR.o;go_wp2_with fail
      go_region_held3 (λgs=>gs.cell? lb=some (J k)/\Z gs lb 1 (J n)/\gs.cell? W.heap.size=some vP/\Z gs W.heap.size 1 vT/\Z gs (W.heap.size+1) 0 (J gl)/\Z gs (W.heap.size+1) 1 (J lo)/\Z gs (W.heap.size+1) 2 (J pa)/\Z gs (W.heap.size+1) 3 (J bu))
        (first|exact HC.o _ HR.o|exact HC.o _ HD.o|exact HC.o _ H6.o)
        (first
          | (go_at_call 108;go_loud (refine O4.o.mono ?_);rintro en w5 ⟨l,rfl,hin,t5⟩;have H6:=qh (HD.o.trans t5))
          | (go_at_call 109;go_loud (refine O4.o.mono ?_);rintro en w5 ⟨l,rfl,hin,t5⟩;have H6:=qh (HD.o.trans t5)))
      exact Fg
end
end
section
open Go Go.RowKit
def zk(P T:List Int)(k pa:Nat):MS T.length:=⟨Eg k T.length pa,(aG k (dI 4096) T.length pa,a9 k T.length)⟩
def ID(P T:List Int)(gl lo pa bu:Nat):MS T.length:=⟨Ef (fm gl lo pa bu P T (dI 4096)) P T (bG gl lo pa P T (dI 4096)).s.W.length,bG gl lo pa P T (dI 4096)⟩
def IF(P T:List Int)(room:Nat)(bu:Nat):MS T.length:=⟨Ch (cB P T) bu,⟨⟨dy (hm0 (cB P T)).W P.length,room,0,0,0,false⟩,hm0 (cB P T)⟩⟩
def IE(P T:List Int)(bu:Nat):MS T.length:=⟨Eh bu P T,hc0 (dI 4096) (ac P).length T.length⟩
def IC(P T:List Int)(bu:Nat):MS T.length:=⟨xL bu (aq P T T.length) T.length,cn0 (dI 4096) T.length⟩
def IG(P T:List Int)(bu:Nat):MS T.length:=⟨xM T.length bu,ma0 (dI 4096) T.length⟩
def zl(F:kO)(P T:List Int)(gl lo pa bu:Nat):MS T.length:=⟨Ei F (fm gl lo pa bu P T (smA (dI 4096) (ac P).length)) P T (bG gl lo pa P T (smA (dI 4096) (ac P).length)).s.W.length,⟨bG gl lo pa P T (smA (dI 4096) (ac P).length),dr0,List.replicate T.length Sp.zero⟩⟩
def rE(P T:List Int)(gl lo pa bu k:Nat):MS T.length:=
 if k<=5 then zk P T k pa else if k=6 then ID P T gl lo pa bu else if k=7 then IF P T 4096 bu else if k=8 then IE P T bu else if k=9 then IC P T bu else if k=10 then IG P T bu else if k=11 then zl uw P T gl lo pa bu else if k=12 then zl uy P T gl lo pa bu else zl uA P T gl lo pa bu
structure fF(w:World)(a g:Nat)(vP vT:Value)(P T:List Int)(gl lo pa bu:Nat):Prop where
 ar:aB w a g (dI 4096)
 rP:RdL w vP 1 encI P
 rT:RdL w vT 1 encI T
 Pa:∀i,vP.ownBlock=some i->i≠a/\i<w.heap.size
 Ta:∀i,vT.ownBlock=some i->i≠a/\i<w.heap.size
 ck:a5 P T=0
 gl:1<=gl/\gl<=5
 lo:1<=lo/\lo<=5
 pa:1<=pa/\pa<=4
 bu:bu<=3
section
variable{gl lo pa bu:Nat}
def fF.below(h:fF w a g vP vT P T gl lo pa bu)(b:Below w.heap.size w w'):fF w' a g vP vT P T gl lo pa bu:=
 {h with ar:=h.ar.turns (S:=[]) (aa.of_below b) ahC ahC,rP:=h.rP.below b (Nat.le_refl _),rT:=h.rT.below b (Nat.le_refl _),Pa:=λi hi=>⟨(h.Pa i hi).1,Nat.lt_of_lt_of_le (h.Pa i hi).2 b.size⟩,Ta:=λi hi=>⟨(h.Ta i hi).1,Nat.lt_of_lt_of_le (h.Ta i hi).2 b.size⟩}
def fF.n32(h:fF w a g vP vT P T gl lo pa bu):1<=T.length/\T.length<=32:=by have:=bh (aR h.ck).1;exact⟨this.2.2.1,this.2.2.2⟩
def IR(h:fF w a g vP vT P T gl lo pa bu):iJ 103 #[↑a,agg #[vP,vT],agg #[J gl,J lo,J pa,J bu]] a g T.length 6 AZ (ID P T gl lo pa bu) w:=by refine(ox h.ar vP vT P T h.rP h.rT h.ck gl lo (KOk.of h.gl) (KOk.of h.lo) pa h.pa (bu:Int) ahS (by show 0+2500<=4096;omega) (by show 0<=100;omega) (by show 0+100<=1000000000000;omega)).mono ?_;rintro e w' ⟨x,B,rfl,k,hb,t⟩;exact⟨x.l,rfl,Il h.ck h.gl h.lo h.pa rfl rfl k hb,t⟩
def IU(h:fF w a g vP vT P T gl lo pa bu):iJ 104 #[↑a,agg #[vP,vT],J bu] a g T.length 7 hmV (IF P T 4096 bu) w:=by have H:=h.rP;have O:=h.Pa;obtain⟨I,cP,e3,_⟩:=id H;subst e3;refine(II h.ar rfl h.ar.ne I cP vT P T H O h.rT h.ck (bu:Int) ahB ahS ⟨rfl,GL h.ck⟩).mono ?_;rintro e w' ⟨B,x,s',ha,hg,rfl,k,hs,Y,hq,V,t⟩;subst hs;exact⟨x.l,rfl,In h.ck ahS rfl ha hg k Y hq V,t.mono ahC⟩
def IT(h:fF w a g vP vT P T gl lo pa bu):iJ 105 #[↑a,agg #[vP,vT],J bu] a g T.length 8 hcV (IE P T bu) w:=by refine(Gv h.ar rfl h.ar.ne vP vT P T h.rP h.rT h.ck (bu:Int) ahB ahS rfl).mono ?_;rintro e w' ⟨l,q,b,u,l0,V,rfl,k,h1,H,Y,I,t,O⟩;exact⟨l,rfl,Im h.ck ahS rfl k h1 H I O,t.mono ahC⟩
def IQ(h:fF w a g vP vT P T gl lo pa bu):iJ 106 #[↑a,agg #[vP,vT],J bu] a g T.length 9 cnV (IC P T bu) w:=by refine(Gu h.ar rfl h.ar.ne vP vT P T h.rP h.rT h.ck (bu:Int) ahB ahS rfl).mono ?_;rintro e w' ⟨c,cap,Y,hg,rfl,k,h1,I,O,t,V⟩;have H:(aq P T T.length).length=T.length:=dt (Nat.le_refl _);have:=Ik (w:=w) (a:=a) (g:=g) (aq P T T.length) (s:=dI 4096) rfl (by rw[H];exact k) ⟨Y,hg⟩ h1 I O V;rw[H]at this;exact⟨c.l,rfl,this,t.mono ahC⟩
def IV(h:fF w a g vP vT P T gl lo pa bu):iJ 107 #[↑a,agg #[vP,vT],J bu] a g T.length 10 maV (IG P T bu) w:=by refine(JV h.ar rfl h.ar.ne vP vT P T h.rP h.rT h.ck (bu:Int) ahB ahS rfl).mono ?_;rintro e w' ⟨c,rfl,k,hc,h1,H,I,t⟩;exact⟨c.l,rfl,Io h.n32 rfl k hc h1 H I,t.mono ahC⟩
def IS(h:fF w a g vP vT P T gl lo pa bu)(k:Nat)(H:1<=k/\k<=5):iJ 109 #[↑a,J k,J T.length,J pa] a g T.length k flV (zk P T k pa) w:=by refine(BF h.ar k (KOk.of H) T.length h.n32.1 h.n32.2 pa h.pa.1 h.pa.2 (by have:=ke (k:=k) h.n32.2 h.pa.2;show 0+_<=4096;omega) (by show 0+1<=1000000000000;omega)).mono ?_;rintro e w' ⟨x,rfl,I,h1,t⟩;exact⟨x.p,rfl,Fd H h.n32 h.pa rfl rfl I h1,t⟩
def fF.hN(h:fF w a g vP vT P T gl lo pa bu):1<=(ac P).length:=by have h1:=eE h.ck (i:=0) (by have:=h.n32;omega);omega
def IW(h:fF w a g vP vT P T gl lo pa bu):iJ 108 #[↑a,J 1,agg #[vP,vT],agg #[J gl,J lo,J pa,J bu]] a g T.length 11 rwV (zl uw P T gl lo pa bu) w:=by refine(GM .n h.ar rfl h.ar.ne vP vT P T h.rP h.rT h.Pa h.Ta h.ck gl lo (KOk.of h.gl) (KOk.of h.lo) pa h.pa (bu:Int) ahS rfl (by show 0<=1000;omega)).mono ?_;rintro e w' ⟨q,B,BC,X,rfl,k,H,t,V,O,I,hb⟩;have hs:=JX (bud:=(bu:Int)) (s:=dI 4096) h.ck h.gl h.lo h.pa rfl;exact⟨q,rfl,BZ (F:=uw) ahD h.ck (ux (EB h.ck h.gl h.lo h.pa rfl h.hN)) hs.1 hs.2 k H V O I hb,t⟩
def IX(h:fF w a g vP vT P T gl lo pa bu):iJ 108 #[↑a,J 2,agg #[vP,vT],agg #[J gl,J lo,J pa,J bu]] a g T.length 12 rwV (zl uy P T gl lo pa bu) w:=by refine(GM .r h.ar rfl h.ar.ne vP vT P T h.rP h.rT h.Pa h.Ta h.ck gl lo (KOk.of h.gl) (KOk.of h.lo) pa h.pa (bu:Int) ahS rfl (by show 0<=1000;omega)).mono ?_;rintro e w' ⟨q,B,BC,X,rfl,k,H,t,V,O,I,hb⟩;have hs:=J3 (bud:=(bu:Int)) (s:=dI 4096) h.ck h.gl h.lo h.pa rfl;exact⟨q,rfl,BZ (F:=uy) ahD h.ck (uz (EB h.ck h.gl h.lo h.pa rfl h.hN)) hs.1 hs.2 k H V O I hb,t⟩
def IY(h:fF w a g vP vT P T gl lo pa bu):iJ 108 #[↑a,J 3,agg #[vP,vT],agg #[J gl,J lo,J pa,J bu]] a g T.length 13 rwV (zl uA P T gl lo pa bu) w:=by refine(GM .w h.ar rfl h.ar.ne vP vT P T h.rP h.rT h.Pa h.Ta h.ck gl lo (KOk.of h.gl) (KOk.of h.lo) pa h.pa (bu:Int) ahS rfl (by show 0<=1000;omega)).mono ?_;rintro e w' ⟨q,B,BC,X,rfl,k,H,t,V,O,I,hb⟩;have hs:=Ke (bud:=(bu:Int)) (s:=dI 4096) h.ck h.gl h.lo h.pa rfl;exact⟨q,rfl,BZ (F:=uA) ahD h.ck (uB (EB h.ck h.gl h.lo h.pa rfl h.hN)) hs.1 hs.2 k H V O I hb,t⟩
end
end
section
open Go Go.RowKit
variable{gl lo pa bu cT:Nat}{AT:Option Addr}
def Gz:∀k,1<=k/\k<=13->¬(nmB k).toList=[]:=by
 intro k H;have:(List.range 13).all (λk=>!(nmB (k+1)).toList.isEmpty)=true:=by decide+kernel
 have h:=List.all_eq_true.1 this (k-1) (List.mem_range.2 ahB);rw[show k-1+1=k by omega]at h;simpa using h
def IH(w:World)(k:Nat)(H:1<=k/\k<=13):E 43 #[J k] w λe w'=>∃b:ByteArray,e= returned (.string b)/\¬b.toList=[]/\Below w.heap.size w w':=
 (ud w k).mono λ_ _ h=>⟨_,h.1,Gz k H,h.2⟩
def Eo(h:fF W a g vP vT P T gl lo pa bu)(hk:1<=k/\k<=13)(H:Blk W lb 110 #[J k,J T.length,.nilIface])(I:lb≠a/\lb≠g):E 56 #[↑lb,↑a,agg #[vP,vT],agg #[J gl,J lo,J pa,J bu]] W (MkL W a g lb T.length (rE P T gl lo pa bu k)):=by
  have V:=And.intro h.ar.blk.lt h.ar.wds.lt;by_cases Y:k<=5;. rw[show rE P T gl lo pa bu k=zk P T k pa from if_pos Y];exact tN (.fl ⟨hk.1,Y⟩) H I V λO b=>IS (h.below b) k ⟨hk.1,Y⟩
  have hc:k=6\/k=7\/k=8\/k=9\/k=10\/k=11\/k=12\/k=13:=by omega
  rcases hc with rfl|rfl|rfl|rfl|rfl|rfl|rfl|rfl
  . exact tM .co H I λO b=>IR (h.below b)
  . exact tM .hm H I λO b=>IU (h.below b)
  . exact tM .hc H I λO b=>IT (h.below b)
  . exact tM .cn H I λO b=>IQ (h.below b)
  . exact tM .ma H I λO b=>IV (h.below b)
  . exact tN (.rw ahB) H I V λO b=>IW (h.below b)
  . exact tN (.rw ahB) H I V λO b=>IX (h.below b)
  . exact tN (.rw ahB) H I V λO b=>IY (h.below b)
def CG(Oi:a<W.heap.size)(ad:g<W.heap.size)(hP:RdL W vP 1 encI P)(hT:RdL W (.slice AT T.length cT) 1 encI T)(OM:a5 P T=0)(hk:1<=k/\k<=13){ms:MS T.length}(Vd:∀gs lb,Below W.heap.size W gs->Blk gs lb 110 #[J k,J T.length,.nilIface]->lb≠a/\lb≠g->E 56 #[pointer (some ⟨lb,0,none⟩),↑a,agg #[vP,.slice AT T.length cT],agg #[J gl,J lo,J pa,J bu]] gs (MkL gs a g lb T.length ms)):E 13 #[↑a,agg #[vP,.slice AT T.length cT],agg #[J k,J gl,J lo,J pa,J bu]] W (uT W a g T.length ms):=by
  refine ajj ?_;intro Kk w0 E';rw[<-E']at Kk;have MZ:w0.heap.size=W.heap.size+2:=by rw[E'];simp
  refine ajb ?_;intro k1 k2
  have I:=qh (λgs (h:Below w0.heap.size w0 gs)=>show gs.cell? W.heap.size=some vP/\Z gs W.heap.size 1 (.slice AT T.length cT)/\Z gs (W.heap.size+1) 0 (J k)/\Z gs (W.heap.size+1) 1 (J gl)/\Z gs (W.heap.size+1) 2 (J lo)/\Z gs (W.heap.size+1) 3 (J pa)/\gs.cell? ⟨W.heap.size+1,4,none⟩=some (J bu)from
    ⟨(k1.below h k1.lt).cell 0,(k1.below h k1.lt).cell 1,(k2.below h k2.lt).cell 0,(k2.below h k2.lt).cell 1,(k2.below h k2.lt).cell 2,(k2.below h k2.lt).cell 3,(k2.below h k2.lt).cell 4⟩)
  have Lg:=qh (λgs (h:Below w0.heap.size w0 gs)=>kw gs vP (.slice AT T.length cT) P T ((hP.below Kk (Nat.le_refl _)).below h (Nat.le_refl _)) ((hT.below Kk (Nat.le_refl _)).below h (Nat.le_refl _)));rw[OM]at Lg;have X3:=qh (λgs lb (h:Below w0.heap.size w0 gs) (hl:Blk gs lb 110 #[J k,J T.length,.nilIface]) (hn:w0.heap.size<=lb)=>Vd gs lb (Kk.trans (h.mono Kk.size)) hl ⟨by omega,by omega⟩);have X6:=qh (λgs=>IH gs k hk);have H0:=qh Kk;have Lh:=qh E';clear hP hT OM Vd Kk E' k1 k2;go_enter func13,ntmps13;go_wp2_with fail;rw[<-Lh.o];obtain⟨-,-,c0,-,-,-,-⟩:=I.o w0 (Below.refl _ _);go_wp2_with fail;refine(X6.o _).mono ?_;rintro en w1 ⟨H,rfl,Y,b1⟩;have Sw:H.toList.isEmpty=false:=by simpa using Y
  obtain⟨c0,c1,c2,c3,c4,c5,c6⟩:=I.o w1 b1;have B1:=qh b1;clear b1;go_wp2_with fail;refine Op (Lg.o _ B1.o) λw2 b2=>?_;have O:=qh (B1.o.trans (b2.o.mono B1.o.size));clear c0 c1 c2 c3 c4 c5 c6;obtain⟨c0,c1,c2,c3,c4,c5,c6⟩:=I.o w2 O.o;have Kp:=O.o.size;have b3:=(Below.refl w2.heap.size w2).alloc (Nat.le_refl _) (cells #[J k,J T.length,.nilIface] 110);have V:=qh (O.o.trans (b3.mono Kp));clear b3;have HM:=qh (X3.o _ w2.heap.size V.o (Blk.new w2 110 #[J k,J T.length,.nilIface]) Kp);obtain⟨d0,d1,d2,d3,d4,d5,d6⟩:=I.o _ V.o;have ab:W.heap.size<w2.heap.size:=by omega
  have LC:W.heap.size+1<w2.heap.size:=by omega
  go_wp2_with fail;refine Op HM.o λw4 HF=>?_;go_wp2;go_ret2;obtain⟨⟨b,m1,m2,m3,m4,m5⟩,t4⟩:=HF.o;refine⟨b,w2.heap.size,rfl,m1,m2,m3,λx hx=>?_,by omega,?_⟩;. have:=m4 x hx;have e2:(w2.alloc (cells #[J k,J T.length,.nilIface] 110)).heap.size=w2.heap.size+1:=(by simp);rw[e2]at this;omega
  . have t:=(aa.of_below (S:=[a,g,w2.heap.size]) (H0.o.trans (V.o.mono H0.o.size))).trans t4;exact t.fresh (λi hi=>by simp at hi ⊢;rcases hi with rfl|rfl|rfl<;>first|(left;left;rfl)|(left;right;rfl)|(right;omega))
def IJ(H:fF W a g vP (.slice AT T.length cT) P T gl lo pa bu)(I:1<=k/\k<=13):E 13 #[↑a,agg #[vP,.slice AT T.length cT],agg #[J k,J gl,J lo,J pa,J bu]] W (uT W a g T.length (rE P T gl lo pa bu k)):=
  CG H.ar.blk.lt H.ar.wds.lt H.rP H.rT H.ck I λ_ _ h O V=>Eo (H.below h) I O V
end
section
open Go Go.RowKit
def wG(w:World)(t:TypeId)(l:List Int){cs:Array Value}(hg:Blk w g t cs)(hc:cs=(l.map (Value.int .i64)).toArray)(h:l.length<=1000):RdL w (slice (some ⟨g,0,none⟩) l.length l.length) 1 encI l:=by
 subst hc;refine⟨some ⟨g,0,none⟩,l.length,rfl,Nat.le_refl _,by omega,λ_=>⟨g,0,rfl,hg.lt,λi x I j u H=>?_⟩⟩;rw[hg.cell];match j,H with
 |0,H=>
  obtain rfl:Value.int .i64 x=u:=by simpa[encI]using H
  simp[List.getElem?_map,I]
 |k+1,H=>simp[encI]at H
section
variable{M:LkM n}{b:M.β}{st:M.σ}{N:Nat}
end
def IK(W:World)(vA V Y:Value)(k:Int)(O:uc k=⟨#[]⟩)(gl lo pa bu:Int):E 13 #[vA,agg #[V,Y],agg #[J k,J gl,J lo,J pa,J bu]] W λe w'=>e= returned (tuple #[.pointer none,J 7])/\Below W.heap.size W w':=by have I:=((Below.refl W.heap.size W).alloc (Nat.le_refl _) (cells #[V,Y] 24)).alloc ahC (cells #[J k,J gl,J lo,J pa,J bu] 38);have H:=qh (λgs=>ud gs k);rw[O]at H;have h:=qh I;clear I O;go_enter func13,ntmps13;go_wp2_with fail;refine Op (H.o _) λw1 b1=>?_;have B1:=qh (h.o.trans (b1.o.mono h.o.size));go_wp2;go_ret2;exact⟨rfl,B1.o⟩
end
section
open Go Go.RowKit
section
variable{M:LkM n}{X:WoB M}{st:M.σ}
def Ey(W:World)(vP vT:Value):E 20 #[agg #[vP,vT],agg #[J 0,J 0,J 0,J 0,J 0]] W λe w'=>e= returned (tuple #[.pointer none,J 7])/\Below W.heap.size W w':=by
 have H:=((Below.refl W.heap.size W).alloc (Nat.le_refl _) (cells #[vP,vT] 24)).alloc ahC (cells #[J 0,J 0,J 0,J 0,J 0] 38);obtain⟨w0,E'⟩:=LE ((W.alloc (cells #[vP,vT] 24)).alloc (cells #[J 0,J 0,J 0,J 0,J 0] 38));rw[<-E']at H;refine ajM ?_;intro k1 k2
 have V:=qh (λgs (h:Below w0.heap.size w0 gs)=>show gs.cell? W.heap.size=some vP/\Z gs W.heap.size 1 vT/\Z gs (W.heap.size+1) 0 (J 0)/\Z gs (W.heap.size+1) 1 (J 0)/\Z gs (W.heap.size+1) 2 (J 0)/\Z gs (W.heap.size+1) 3 (J 0)/\gs.cell? ⟨W.heap.size+1,4,none⟩=some (J 0)from
  ⟨(k1.below h k1.lt).cell 0,(k1.below h k1.lt).cell 1,(k2.below h k2.lt).cell 0,(k2.below h k2.lt).cell 1,(k2.below h k2.lt).cell 2,(k2.below h k2.lt).cell 3,(k2.below h k2.lt).cell 4⟩)
 have I:=qh H;have Y:=qh E';clear H E' k1 k2;go_enter func20,ntmps20;go_wp2_with fail;rw[<-Y.o];refine(uf w0 4096).mono ?_;rintro en w1 ⟨a,g,rfl,-,-,-,b1⟩;obtain⟨c0,c1,c2,c3,c4,c5,c6⟩:=V.o w1 b1;have B1:=qh (I.o.trans (b1.mono I.o.size));clear b1;go_wp2_with fail;refine(IK _ _ _ _ 0 ahF 0 0 0 0).mono ?_;rintro en w2 ⟨rfl,b2⟩;have O:=qh (B1.o.trans (b2.mono B1.o.size));clear b2;go_wp2;go_ret2;exact⟨rfl,O.o⟩
end
end
end Go.Proofs.YtglokdbiggbkjaaGreat
