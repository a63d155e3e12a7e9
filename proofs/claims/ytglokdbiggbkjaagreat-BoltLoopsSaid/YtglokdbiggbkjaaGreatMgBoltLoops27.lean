/- Joined texts. -/
import Derived.Test.YtglokdbiggbkjaaGreatMgBoltLoops0
import Derived.Test.YtglokdbiggbkjaaGreatMgBoltLoops11
import Derived.Test.YtglokdbiggbkjaaGreatMgBoltLoops16
import Derived.Test.YtglokdbiggbkjaaGreatMgBoltLoops18
import Derived.Test.YtglokdbiggbkjaaGreatMgBoltLoops19
import Derived.Test.YtglokdbiggbkjaaGreatMgBoltLoops21
import Derived.Test.YtglokdbiggbkjaaGreatMgBoltLoops25
import Derived.Test.YtglokdbiggbkjaaGreatMgBoltLoops26
set_option linter.unusedVariables false
set_option linter.unusedSimpArgs false
set_option linter.defProp false
set_option maxRecDepth 100000
set_option maxHeartbeats 16000000
open Go.Proofs.Tryz
namespace Go.Proofs.YtglokdbiggbkjaaGreat
open Go.IntKind(i64)
open Go.Value(int bool slice agg tuple pointer)
open Go.Ending(returned)
open Go.Obj(cells)
variable{w' w0:World}{P T:List Int}{BB y bud:Int}{n N L kl par j kg:Nat}{f:Nat->Nat}{S:List Nat}{BC:Nat->Prop}{u:Value}
section
open Go.RowKit
section
variable{B:Nat->Prop}{w:World}{a g:Nat}{x:Cox}{c:CoC}{st st':Co}{s':Ar}
def Ba(h:aC B w a g x c P T st)(C:dg BB x c st)(i:Nat)(hi:i<x.n)(u b z:Int)(hp:sv st.T i=⟨11,u,b,z⟩):E 243 #[↑x.l,J i] w (gU B w a g x c P T st i ⟨11,u,b,z⟩):=by
  obtain⟨y,v,S,hy,O,hS,hs,Kj⟩:=h.loc hi;have KN:st.T[i]? =some (⟨11,u,b,z⟩:Sp):=by rw[h.thr hi,hp]
  refine aiW ?_;intro hn c8 t2 Lo Kp LY Lm;obtain⟨ab,mb⟩:=LE (af st.s (c.cw (c.node i)));obtain⟨q,hq⟩:=LE (ldW st.s.W (c.cw (c.node i)));have i':=(λW (k:aC B W a g x c P T st)=>xw k C.ops (c.node i) O);rw[<-mb,<-hq]at i';have HO:=qh i';have HX:Kq (da c st i ⟨11,u,b,z⟩=(ab,st.G,st.L,⟨if c.bud<q then 14 else 12,q,b,z⟩)):=qh (by rw[mb,hq];rfl);refine ajD ?_;intro HC HP;clear i' mb hq;clear h C hp KN hy O hS hs Kj;obtain⟨bud,Y⟩:=LE c.bud;rw[<-Y]at HX;have HD:=qh Y;clear Y;cases hc:decide (bud<q)
  all_goals
    have MH:decide (q>bud)=decide (bud<q):=rfl;rw[hc]at MH;go_enter func243,ntmps243;go_wp2_with fail;refine aiY ?_;intro w1 b1 N1 KP e0 k0 k6;have V:=qh N1.o.drew;go_wp2_with fail
    go_region_held3 (λW=>W.cell? x.l=some ↑a/\Z W w1.heap.size 1 (J v))
      (first|with_reducible exact HC.o _ _ _ _ _ V.o|with_reducible exact HC.o _ _ _ _ _ I.o|with_reducible exact HC.o _ _ _ _ _ H.o)
      (first
        | (go_at_call 173;go_loud (refine Op (HO.o _ V.o.is) λw3 k3=>?_);have I:=qh (V.o.to k3.o.1 k3.o.2);have H:=qh (I.o.put (p':=(⟨11,q,b,z⟩:Sp)) HP.o (j:=1) (u:= J q) ahD rfl);have e1:=I.o.is.sp.cell HP.o 1 _ rfl;have z1:=I.o.is.sp.free (i*4+1)))
  all_goals have e4:=H.o.is.sp.cell (au HP.o _) 1 _ rfl;have e5:=CoN.bud H.o.is;rw[<-HD.o]at e5;clear e1 z1;go_wp2_with fail;go_quiet (fail);go_wp2;go_ret;first| (rw[if_pos ahI]at HX;exact qi i _ HX.o rfl rfl (H.o.drewN _).is (H.o.drewN _).tn)| (rw[if_neg ahI]at HX;exact qi i _ HX.o rfl rfl (H.o.drewN _).is (H.o.drewN _).tn)
def Bb(h:aC B w a g x c P T st)(C:dg BB x c st)(i:Nat)(hi:i<x.n)(u b z:Int)(h10:(lsp st.L (c.node i) (c.slot i)).pc=10)(H:sv st.T i=⟨12,u,b,z⟩):E 243 #[↑x.l,J i] w (gU B w a g x c P T st i ⟨12,u,b,z⟩):=by
  obtain⟨y,v,S,hy,O,hS,hs,Kj⟩:=h.loc hi;have KN:st.T[i]? =some (⟨12,u,b,z⟩:Sp):=by rw[h.thr hi,H]
  refine aiW ?_;intro hn c8 t2 Lo Kp LY Lm;obtain⟨r,I⟩:=LE (qO c st i);have i':=(λW (k:aC B W a g x c P T st)=>A7 k C i hi hy h10);rw[<-I]at i';have HO:=qh i';obtain⟨q,hq⟩:=LE (mW u c.bud r.2);have Y:=qh (λW=>wy u c.bud r.2 h.fx.bud W);rw[<-hq]at Y;have HX:Kq (da c st i ⟨12,u,b,z⟩=(r.1,st.G,st.L,⟨if q then 13 else 14,u,b,z⟩)):=qh (by rw[hq,I];rfl);have V:=qh (λW st (N:∃k,k=w.heap.size/\aC B W a g x c P T st) (H:st.T[i]? =some (⟨12,u,b,z⟩:Sp))=>And.intro (N.choose_spec.2.sp.cell H 1 _ rfl) (CoN.bud N.choose_spec.2));have HP:=qh KN;clear i' I hq V;have V:=qh (λW st (k y v) (N:CoN B w W a g x c P T st k y v) (H:st.T[i]? =some (⟨12,u,b,z⟩:Sp))=>And.intro (N.is.sp.cell H 1 _ rfl) (And.intro (CoN.bud N.is) N.n0));clear h C H KN hy O hS hs Kj;obtain⟨r1,r2⟩:=r;simp only at HO Y HX;cases q
  all_goals
    go_enter func243,ntmps243;go_wp2_with fail;refine aiY ?_;intro w1 b1 N1 KP e0 k0 k6;have LO:=qh N1.o.drew;go_wp2_with fail
    go_region_held3 (λW=>Z W x.qs (i*4+1) (J u)/\Z W x.l 5 (J c.bud)/\W.cell? w1.heap.size=some ↑y.p)
      (first|with_reducible exact V.o _ _ _ _ _ LO.o HP.o|with_reducible exact V.o _ _ _ _ _ N2.o HP.o)
      (first
        | (go_at_call 247;go_loud (refine Op (HO.o _ LO.o.is) λw3 k3=>?_);have N2:=qh (LO.o.to k3.o.1 k3.o.2))
        | (go_at_call 246;go_loud (refine LT (Y.o _) ?_)))
  all_goals go_wp2;go_ret;exact jI i _ HP.o HX.o rfl rfl rfl N2.o.is N2.o.tn
def Bc(h:aC B w a g x c P T st)(C:dg BB x c st)(i:Nat)(hi:i<x.n)(u b z:Int)(hu:0<=u/\u<=100000000000)(I:sv st.T i=⟨13,u,b,z⟩):E 243 #[↑x.l,J i] w (gU B w a g x c P T st i ⟨13,u,b,z⟩):=by
  obtain⟨y,v,S,hy,O,hS,hs,Kj⟩:=h.loc hi;have KN:st.T[i]? =some (⟨13,u,b,z⟩:Sp):=by rw[h.thr hi,I]
  refine aiW ?_;intro hn c8 t2 Lo Kp LY Lm;have x1:IntKind.i64.wrap (u+1)=u+1:=IntWalk.i64_in _ ahB;obtain⟨ab,mb⟩:=LE (ae st.s (c.cw (c.node i)) (u+1));have Y:=(λW (k:aC B W a g x c P T st)=>ov k C.ops (c.node i) O (u+1));rw[<-mb]at Y;have HO:=qh Y;have HA:=qh (λW (s:Ar) (k:aC B W a g x c P T ⟨s,st.G,st.L,st.T⟩)=>qk k i hi hy);have HX:Kq (da c st i ⟨13,u,b,z⟩=(ab,st.G,setL c st i (ba (lsp st.L (c.node i) (c.slot i))),⟨16,u,b,z⟩)):=qh ahV;have HC:=qh (λW st (k y v) (N:CoN B w W a g x c P T st k y v) (I:st.T[i]? =some (⟨13,u,b,z⟩:Sp))=>And.intro (CoN.ar N.is) (And.intro N.n1 (N.is.sp.cell I 1 _ rfl)));have HP:=qh KN;clear Y mb;clear h C I KN hy O hS hs Kj;go_enter func243,ntmps243;go_wp2_with fail;refine aiY ?_;intro w1 b1 N1 KP e0 k0 k6;have V:=qh N1.o.drew;go_wp2_with fail
  go_region_held3 (λW=>W.cell? x.l=some ↑a/\Z W w1.heap.size 1 (J v)/\Z W x.qs (i*4+1) (J u))
    (first|with_reducible exact HC.o _ _ _ _ _ V.o HP.o|with_reducible exact HC.o _ _ _ _ _ H.o HP.o)
    (first
      | (go_at_call 177;go_loud (refine Op (HO.o _ V.o.is) λw3 k3=>?_);have H:=qh (V.o.to k3.o.1 k3.o.2)))
  all_goals have ad:=H.o.n0;go_wp2_with fail;refine(HA.o _ _ H.o.is).mono ?_;rintro en w4 ⟨⟨bb,rfl⟩,k4,t4⟩;have N4:=qh (H.o.to k4 t4);clear k4 t4;go_wp2;go_ret;exact jI i _ HP.o HX.o rfl rfl rfl N4.o.is N4.o.tn
def Bd(h:aC B w a g x c P T st)(C:dg BB x c st)(i:Nat)(hi:i<x.n)(u b z:Int)(hp:sv st.T i=⟨14,u,b,z⟩):E 243 #[↑x.l,J i] w (gU B w a g x c P T st i ⟨14,u,b,z⟩):=by
  obtain⟨y,v,S,hy,O,hS,hs,Kj⟩:=h.loc hi;have KN:st.T[i]? =some (⟨14,u,b,z⟩:Sp):=by rw[h.thr hi,hp]
  refine aiW ?_;intro hn c8 t2 Lo Kp LY Lm;obtain⟨Y,mb⟩:=LE (ae st.s (c.cw (c.node i)) 0);have V:=(λW (k:aC B W a g x c P T st)=>ov k C.ops (c.node i) O 0);rw[<-mb]at V;have HO:=qh V;have HA:=qh (λW (s:Ar) (k:aC B W a g x c P T ⟨s,st.G,st.L,st.T⟩)=>yN k i hi);have HX:Kq (da c st i ⟨14,u,b,z⟩=(Y,st.G.set (c.node i) (ba (sv st.G (c.node i))),st.L,⟨15,u,b,z⟩)):=qh ahV;refine ajD ?_;intro HC HP;clear V mb;clear h C hp KN hy O hS hs Kj;go_enter func243,ntmps243;go_wp2_with fail;refine aiY ?_;intro w1 b1 N1 KP e0 k0 k6;have I:=qh N1.o.drew;go_wp2_with fail
  go_region_held3 (λW=>W.cell? x.l=some ↑a/\Z W w1.heap.size 1 (J v))
    (first|with_reducible exact HC.o _ _ _ _ _ I.o|with_reducible exact HC.o _ _ _ _ _ H.o)
    (first
      | (go_at_call 177;go_loud (refine Op (HO.o _ I.o.is) λw3 k3=>?_);have H:=qh (I.o.to k3.o.1 k3.o.2)))
  all_goals have ab:=CoN.glo H.o.is;go_wp2_with fail;refine(HA.o _ _ H.o.is).mono ?_;rintro en w4 ⟨⟨bb,rfl⟩,k4,t4⟩;have N4:=qh (H.o.to k4 t4);clear k4 t4;go_wp2;go_ret;exact jI i _ HP.o HX.o rfl rfl rfl N4.o.is N4.o.tn
def Be(h:aC B w a g x c P T st)(C:dg BB x c st)(i:Nat)(hi:i<x.n)(u b z:Int)(hp:sv st.T i=⟨15,u,b,z⟩):E 243 #[↑x.l,J i] w (gU B w a g x c P T st i ⟨15,u,b,z⟩):=by
  obtain⟨y,v,S,hy,O,hS,hs,Kj⟩:=h.loc hi;have Y:st.T[i]? =some (⟨15,u,b,z⟩:Sp):=by rw[h.thr hi,hp]
  refine aiW ?_;intro hn c8 t2 Lo Kp LY Lm;obtain⟨r,I⟩:=LE (stG c st i);obtain⟨q,V⟩:=LE (nV c st i);have H:=(λW (k:aC B W a g x c P T st)=>sS k C i hi);rw[<-I,<-V]at H;have HF:=qh H;have HA:=qh (λW (s:Ar) (G':List Sp) (k:aC B W a g x c P T ⟨s,G',st.L,st.T⟩)=>qk k i hi hy);have HX:Kq (da c st i ⟨15,u,b,z⟩=if q then(r.1,st.G.set (c.node i) r.2,setL c st i (ba (lsp st.L (c.node i) (c.slot i))),⟨16,u,b,z⟩)else(r.1,st.G.set (c.node i) r.2,st.L,⟨15,u,b,z⟩)):=qh (by rw[I,V];rfl);have HP:=qh Y;clear H I V;clear h C hp Y hy O hS hs Kj;cases q
  all_goals
    go_enter func243,ntmps243;go_wp2_with fail;refine aiY ?_;intro w1 b1 N1 KP e0 k0 k6;go_wp2_with fail;refine ajE ?_;intro w2 k2 N2 e2;have ab:=N2.o.n0;clear e0
    first
      | (go_wp2_with fail
         refine(HA.o _ _ _ N2.o.is).mono ?_
         rintro en w4 ⟨⟨bb,rfl⟩,k4,t4⟩
         have N4:=qh (N2.o.to k4 t4)
         clear k4 t4 e2
         go_wp2
         go_ret
         exact jI i _ HP.o HX.o rfl rfl rfl N4.o.is N4.o.tn)
      | (go_wp2
         go_ret
         exact jI i _ HP.o HX.o rfl rfl rfl N2.o.is N2.o.tn)
def Bf(h:aC B w a g x c P T st)(C:dg BB x c st)(i:Nat)(hi:i<x.n)(u b z:Int)(hp:sv st.T i=⟨16,u,b,z⟩):E 243 #[↑x.l,J i] w (gU B w a g x c P T st i ⟨16,u,b,z⟩):=by
  obtain⟨y,v,S,hy,O,hS,hs,Kj⟩:=h.loc hi;have Y:st.T[i]? =some (⟨16,u,b,z⟩:Sp):=by rw[h.thr hi,hp]
  refine aiW ?_;intro hn c8 t2 Lo Kp LY Lm;obtain⟨r,I⟩:=LE (stL c st i);obtain⟨q,V⟩:=LE (mn c st i);have H:=(λW (k:aC B W a g x c P T st)=>sT k C i hi hy);rw[<-I,<-V]at H;have HF:=qh H;have HX:Kq (da c st i ⟨16,u,b,z⟩=(r.1,st.G,setL c st i r.2,if q then⟨0,u,b,z⟩else⟨16,u,b,z⟩)):=qh (by rw[I,V];rfl);have HP:=qh Y;clear H I V;clear h C hp Y hy O hS hs Kj;cases q;all_goals go_enter func243,ntmps243;go_wp2_with fail;refine aiY ?_;intro w1 b1 N1 KP e0 k0 k6;go_wp2_with fail;refine ajE ?_;intro w2 k2 N2 e2;clear e0;go_wp2;go_ret;exact jI i _ HP.o HX.o rfl rfl rfl N2.o.is N2.o.tn
end
end
section
open Go.RowKit
section
variable{B:Nat->Prop}{w:World}{a g:Nat}{x:Cox}{c:CoC}{st st':Co}{s':Ar}
def Hs(h:aC B w a g x c P T st)(C:dg BB x c st)(i:Nat)(hi:i<x.n)(p:Sp)(H:sv st.T i=p)(O:0<p.pc)(h1:p.pc<10):E 242 #[↑x.l,J i] w (gU B w a g x c P T st i p):=by
  have I:=C.v.k i hi;rw[H]at I;obtain⟨pc,u,b,z⟩:=p;simp only at O h1;have hc:pc=1\/pc=2\/pc=3\/pc=4:=by unfold dp at I;simp only at I;omega
  rcases hc with rfl|rfl|rfl|rfl
  . exact FQ h C i hi u b z H
  . exact FR h C i hi u b z H
  . exact FS h C i hi u b z H
  . exact FT h C i hi u b z H
def FU(h:aC B w a g x c P T st)(C:dg BB x c st)(i:Nat)(hi:i<x.n)(p:Sp)(H:sv st.T i=p)(h1:10<p.pc):E 243 #[↑x.l,J i] w (gU B w a g x c P T st i p):=by
  have I:=C.v.k i hi;have O:=C.bd.tsp (by have:=C.B0;omega) i;have V:=C.B1;rw[H]at I O;obtain⟨pc,u,b,z⟩:=p;simp only at h1 O;have hc:pc=11\/pc=12\/pc=13\/pc=14\/pc=15\/pc=16:=by unfold dp at I;simp only at I;omega
  rcases hc with rfl|rfl|rfl|rfl|rfl|rfl
  . exact Ba h C i hi u b z H
  . exact Bb h C i hi u b z (by unfold dp at I;simp only at I;omega) H
  . exact Bc h C i hi u b z ahB H
  . exact Bd h C i hi u b z H
  . exact Be h C i hi u b z H
  . exact Bf h C i hi u b z H
def mO(B:Nat->Prop)(w:World)(a g:Nat)(x:Cox)(c:CoC)(P T:List Int)(st':Co)(r:Bool)(e:Ending)(w':World):Prop:=
 e= returned (.bool r)/\aC B w' a g x c P T st'/\aa (CoS a g x) w w'
def Bg(h:aC B w a g x c P T st)(i:Nat)(hi:i<x.n)(hc:(sv st.T i).pc=0\/(sv st.T i).pc=10):E 237 #[↑x.l,J i] w (mO B w a g x c P T (ak c st i) (bv (sv st.T i) (sv (ak c st i).T i))):=by
  have I:=qh (mI h i hi);have H:=qh h;have V:ak c st i=st:=by unfold ak;rw[if_pos hc]
  rw[V];have Y:bv (sv st.T i) (sv st.T i)=false:=by unfold bv;rcases hc with hc|hc<;>simp[hc]
  rw[Y];obtain⟨p,hp⟩:=LE (sv st.T i);rw[<-hp]at hc I;clear V Y hp h;obtain⟨pc,u,b,z⟩:=p;simp only at hc;unfold aF at I;have LI:=aP;rcases hc with rfl|rfl
  all_goals go_enter func237,ntmps237;go_wp2_with fail;refine Op I.o λw1 O=>?_;go_wp2;go_ret;exact⟨rfl,H.o.below O.o,aa.of_below O.o⟩
def vr(h:aC B w a g x c P T st)(C:dg BB x c st)(i:Nat)(hi:i<x.n)(hc:0<(sv st.T i).pc/\(sv st.T i).pc<10):E 237 #[↑x.l,J i] w (mO B w a g x c P T (ak c st i) (bv (sv st.T i) (sv (ak c st i).T i))):=by
  have hT:=h.thr hi;have KW:i<st.T.length:=by rw[h.lS];exact hi
  have HS:=qh (mI h i hi);have hn:=h.fx.n32;have Lo:=h.lk.lt;have Kp:=h.sp.lt;have t2:¬(i:Int)<0:=by omega
  obtain⟨p,hp⟩:=LE (sv st.T i);have hI:=(λW (k:aC B W a g x c P T st)=>Hs k C i hi p hp.symm);rw[<-hp]at hc HS hT;have HI:=qh (λW (k:aC B W a g x c P T st)=>hI W k hc.1 hc.2);refine ajJ ?_;intro m hm HM e1 e2 q1 q2
  have HQ:Kq (bv p m.2.2.2=((m.2.2.2.pc==10)||(m.2.2.2.pc==0))):=qh (by
    unfold bv;simp only[q1,q2,ne_eq,not_false_eq_true,and_true,Bool.decide_or]
    rfl)
  have u1:(p.pc==0)=false:=by simpa using q1
  have u2:(p.pc==10)=false:=by simpa using q2
  have u3:decide (p.pc<10)=true:=by simpa using hc.2
  obtain⟨s1,G1,L1,r⟩:=m;simp only at HQ e1;refine ajQ ?_;intro HC HT H HX HR;clear hI h C hp hT hm e1 e2 q1 q2 hc KW;obtain⟨pc,u,b,z⟩:=p;obtain⟨I,u',b',z'⟩:=r;simp only at u1 u2 u3 HQ HR;unfold aF at HS;have LI:=aP;cases v1:(I==10)<;>cases v2:(I==0)
  all_goals
    go_enter func237,ntmps237;go_wp2_with fail;refine Op HS.o λw1 b1=>?_;have K1:=qh (H.o.below b1.o.drew);have T1:=qh (aa.of_below (S:=CoS a g x) b1.o.drew);have KP:=b1.o.size;go_wp2_with fail
    go_region_held3 (λW=>Z W x.l 8 (slice (some ⟨x.qs,0,none⟩) x.n x.n))
      (first|with_reducible exact HC.o _ _ K1.o|with_reducible exact HC.o _ _ O.o|with_reducible exact HC.o _ _ V.o)
      (first
        | (go_at_call 242;go_loud (refine(HI.o _ K1.o).mono ?_);rintro en w3 ⟨he,k3,Y⟩;rw[HR.o]at he;subst he;rw[HX.o]at k3;have O:=qh k3;have T2:=qh (T1.o.trans Y);have V:=qh (O.o.put0 (p':=(⟨I,u',b',z'⟩:Sp)) (au HT.o _) (u:= J I) rfl);have e1:=O.o.sp.cell (au HT.o _) 0 _ rfl;have z1:=O.o.sp.free (i*4);simp only[Nat.add_zero]at e1;clear k3 Y))
  all_goals have e4:=V.o.sp.cell (au (au HT.o _) _) 0 _ rfl;have TJ:=HC.o _ _ V.o;simp only[Nat.add_zero]at e4;clear e1 z1;go_wp2;go_ret;refine⟨by rw[HQ.o,v1,v2];rfl,?_,T2.o.trans (uI _ _)⟩;have k:=V.o;rw[show(({s:=s1,G:=G1,L:=L1,T:=(st.T.set i {(⟨I,u',b',z'⟩:Sp)with pc:=pc}).set i ⟨I,u',b',z'⟩}:Co))=iM st i (s1,G1,L1,⟨I,u',b',z'⟩)from by unfold iM;simp]at k;exact k
def sU(h:aC B w a g x c P T st)(C:dg BB x c st)(i:Nat)(hi:i<x.n)(hc:10<(sv st.T i).pc):E 237 #[↑x.l,J i] w (mO B w a g x c P T (ak c st i) (bv (sv st.T i) (sv (ak c st i).T i))):=by
  have hT:=h.thr hi;have KW:i<st.T.length:=by rw[h.lS];exact hi
  have HS:=qh (mI h i hi);have hn:=h.fx.n32;have Lo:=h.lk.lt;have Kp:=h.sp.lt;have t2:¬(i:Int)<0:=by omega
  obtain⟨p,hp⟩:=LE (sv st.T i);have hI:=(λW (k:aC B W a g x c P T st)=>FU k C i hi p hp.symm);rw[<-hp]at hc HS hT;have HI:=qh (λW (k:aC B W a g x c P T st)=>hI W k hc);refine ajJ ?_;intro m hm HM e1 e2 q1 q2
  have HQ:Kq (bv p m.2.2.2=((m.2.2.2.pc==10)||(m.2.2.2.pc==0))):=qh (by
    unfold bv;simp only[q1,q2,ne_eq,not_false_eq_true,and_true,Bool.decide_or]
    rfl)
  have u1:(p.pc==0)=false:=by simpa using q1
  have u2:(p.pc==10)=false:=by simpa using q2
  have u3:decide (p.pc<10)=false:=by simp;omega
  obtain⟨s1,G1,L1,r⟩:=m;simp only at HQ e1;refine ajQ ?_;intro HC HT H HX HR;clear hI h C hp hT hm e1 e2 q1 q2 hc KW;obtain⟨pc,u,b,z⟩:=p;obtain⟨I,u',b',z'⟩:=r;simp only at u1 u2 u3 HQ HR;unfold aF at HS;have LI:=aP;cases v1:(I==10)<;>cases v2:(I==0)
  all_goals
    go_enter func237,ntmps237;go_wp2_with fail;refine Op HS.o λw1 b1=>?_;have K1:=qh (H.o.below b1.o.drew);have T1:=qh (aa.of_below (S:=CoS a g x) b1.o.drew);have KP:=b1.o.size;go_wp2_with fail
    go_region_held3 (λW=>Z W x.l 8 (slice (some ⟨x.qs,0,none⟩) x.n x.n))
      (first|with_reducible exact HC.o _ _ K1.o|with_reducible exact HC.o _ _ O.o|with_reducible exact HC.o _ _ V.o)
      (first
        | (go_at_call 243;go_loud (refine(HI.o _ K1.o).mono ?_);rintro en w3 ⟨he,k3,Y⟩;rw[HR.o]at he;subst he;rw[HX.o]at k3;have O:=qh k3;have T2:=qh (T1.o.trans Y);have V:=qh (O.o.put0 (p':=(⟨I,u',b',z'⟩:Sp)) (au HT.o _) (u:= J I) rfl);have e1:=O.o.sp.cell (au HT.o _) 0 _ rfl;have z1:=O.o.sp.free (i*4);simp only[Nat.add_zero]at e1;clear k3 Y))
  all_goals have e4:=V.o.sp.cell (au (au HT.o _) _) 0 _ rfl;have TJ:=HC.o _ _ V.o;simp only[Nat.add_zero]at e4;clear e1 z1;go_wp2;go_ret;refine⟨by rw[HQ.o,v1,v2];rfl,?_,T2.o.trans (uI _ _)⟩;have k:=V.o;rw[show(({s:=s1,G:=G1,L:=L1,T:=(st.T.set i {(⟨I,u',b',z'⟩:Sp)with pc:=pc}).set i ⟨I,u',b',z'⟩}:Co))=iM st i (s1,G1,L1,⟨I,u',b',z'⟩)from by unfold iM;simp]at k;exact k
def mK(h:aC B w a g x c P T st)(C:dg BB x c st)(i:Nat)(hi:i<x.n):E 237 #[↑x.l,J i] w (mO B w a g x c P T (ak c st i) (bv (sv st.T i) (sv (ak c st i).T i))):=by
  have I:=C.v.k i hi;by_cases H:(sv st.T i).pc=0\/(sv st.T i).pc=10;. exact Bg h i hi H
  by_cases h1:(sv st.T i).pc<10;. exact vr h C i hi (by unfold dp at I;omega)
  . exact sU h C i hi ahB
def sC(h:aC B w a g x c P T st)(i:Nat)(hi:i<x.n):E 233 #[↑x.l,J i] w (mO B w a g x c P T (bC c st i) (decide ((sv st.T i).pc=0))):=by
  obtain⟨y,v,S,hy,O,hS,hs,Kj⟩:=h.loc hi;have hT:=h.thr hi;have e0:=ST (h.sp.cell hT 0 _ rfl);have hn:=h.fx.n32;have c8:=CoN.spots h;have Lo:=h.lk.lt;have Kp:=h.sp.lt;have t2:¬(i:Int)<0:=by omega
  have HH:=qh (Fc h i hi);have LY:=qh (pf h i hi hy O);have Lm:=qh (λw1 (b1:Below w.heap.size w w1)=>CoN.mk' h b1 y v);have HA:=qh (λW (k:aC B W a g x c P T st)=>DH k i hi hy);have H:=qh h;obtain⟨Qr,I⟩:=LE (bC c st i);rw[<-I];unfold bC at I;obtain⟨L1,VW⟩:=LE (setL c st i (askK c.kl (lsp st.L (c.node i) (c.slot i))));rw[<-VW]at I HA;obtain⟨p,hp⟩:=LE (sv st.T i);rw[<-hp]at I e0 hT ⊢;have HT:=qh hT;have HE:=qh I;clear h hy O hS hs Kj hp VW I hT;obtain⟨pc,u,b,z⟩:=p;simp only at HE;by_cases Y:pc=0;. subst Y;go_enter func233,ntmps233;go_wp2_with fail;refine LT HH.o ?_;go_wp2_with fail;refine Op LY.o λw1 b1=>?_;have N1:=qh (Lm.o w1 b1.o);have KP:=b1.o.size;have k0:=N1.o.n0;go_wp2_with fail;refine(HA.o _ N1.o.is).mono ?_;rintro en w2 ⟨⟨bb,rfl⟩,k2,Le⟩;have V:=qh (N1.o.to k2 Le);have TJ:=CoN.spots V.o.is;have e2:=ST (V.o.is.sp.cell HT.o 0 _ rfl);have z2:=V.o.is.sp.free (i*4);clear k2 Le k0;have N3:=qh (V.o.is.put0 (p':=(⟨1,u,b,z⟩:Sp)) HT.o (u:= J 1) rfl);have T3:=qh (V.o.tn.trans (uI (a:=a) (g:=g) (x:=x) (w:=w2) (i*4) (J 1)));go_wp2;go_ret;refine⟨rfl,?_,T3.o⟩;rw[HE.o];exact N3.o
  . have u1:(pc !=0)=true:=(by simpa using Y);have e9:decide (pc=0)=false:=(by simpa using Y);show Calls _ _ _ _ (mO B w a g x c P T Qr (decide (pc=0)));rw[e9];go_enter func233,ntmps233;go_wp2_with fail;refine LT HH.o ?_;go_wp2;go_ret;refine⟨rfl,?_,aa.refl _ _⟩;rw[HE.o,if_neg Y];exact H.o
def lx(h:aC B w a g x c P T st)(i:Nat)(hi:i<x.n):E 235 #[↑x.l,J i] w (mO B w a g x c P T (aA st i) (decide ((sv st.T i).pc=10))):=by
  have hT:=h.thr hi;have hn:=h.fx.n32;have t2:¬(i:Int)<0:=by omega
  have O:=qh (mI h i hi);have H:=qh h;obtain⟨Qr,I⟩:=LE (aA st i);rw[<-I];unfold aA at I;obtain⟨p,hp⟩:=LE (sv st.T i);rw[<-hp]at I hT O ⊢;have HT:=qh hT;have HE:=qh I;clear h hp I hT;obtain⟨pc,u,b,z⟩:=p;simp only at HE;unfold aF at O;have LI:=aP;by_cases Y:pc=10;. subst Y;go_enter func235,ntmps235;go_wp2_with fail;refine Op O.o λw1 b1=>?_;have V:=qh (H.o.below b1.o);have T1:=qh (aa.of_below (S:=CoS a g x) b1.o);have TJ:=CoN.spots V.o;have e2:=ST (V.o.sp.cell HT.o 0 _ rfl);have z2:=V.o.sp.free (i*4);have N3:=qh (V.o.put0 (p':=(⟨11,u,b,z⟩:Sp)) HT.o (u:= J 11) rfl);have T3:=qh (T1.o.trans (uI (a:=a) (g:=g) (x:=x) (w:=w1) (i*4) (J 11)));go_wp2;go_ret;refine⟨rfl,?_,T3.o⟩;rw[HE.o];exact N3.o
  . have u1:(pc !=10)=true:=(by simpa using Y);have e9:decide (pc=10)=false:=(by simpa using Y);show Calls _ _ _ _ (mO B w a g x c P T Qr (decide (pc=10)));rw[e9];go_enter func235,ntmps235;go_wp2_with fail;refine Op O.o λw1 HB=>?_;go_wp2;go_ret;refine⟨rfl,?_,aa.of_below HB.o⟩;rw[HE.o,if_neg Y];exact H.o.below HB.o
end
end
section
open Go.RowKit
structure kZ(c:CoC)(n N L:Nat):Prop where
 k:(1<=c.kg/\c.kg<=5)/\1<=c.kl/\c.kl<=5
 inj:Inj c n
 nd:∀i,i<n->c.node i<N/\c.slot i<32
 N32:N<=32
 m:1<=c.m/\c.m<=4
 tg:1<=c.tg/\c.tg<=L
 tl:∀j,j<N->1<=c.tl j/\c.tl j<=L
structure bO(c:CoC)(n L:Nat)(B:Int)(o:Nat)(st:Co):Prop where
 bd:CoB c B st
 v:CoV c n st
 len:st.s.W.length=L
 ops:st.s.ops<=o
section
variable{c:CoC}{o:Nat}{B:Int}{st:Co}
def bO.step(h:bO c n L B o st)(k:kZ c n N L)(Y:40<=B)(I:B<=10000000000000){i:Nat}(hi:i<n):bO c n L (B+2) (o+1) (ak c st i):=by have h1:=k.nd i hi;have O:=k.N32;have V:=k.m;have H:=mU (c:=c) (st:=st) i;exact⟨yM h.bd ahB I i ahB ahB ahB,sR h.v k.inj k.k hi,by rw[H.2,h.len],by have:=H.1;have:=h.ops;omega⟩
def bO.ask(h:bO c n L B o st)(k:kZ c n N L)(I:40<=B){i:Nat}(hi:i<n):bO c n L (B+2) (o+1) (bC c st i):=by have H:=wh (c:=c) (st:=st) i;exact⟨AY h.bd ahB i,xv h.v k.inj hi,by rw[H.2,h.len],by have:=H.1;have:=h.ops;omega⟩
def bO.leave(h:bO c n L B o st)(k:kZ c n N L)(I:40<=B){i:Nat}(hi:i<n):bO c n L (B+2) (o+1) (aA st i):=by have H:=rF (st:=st) i;exact⟨vo h.bd ahB i,qf h.v k.inj hi,by rw[H.2,h.len],by have:=H.1;have:=h.ops;omega⟩
def bO.mono(h:bO c n L B o st){C:Int}(H:B<=C):bO c n L C o st:=⟨h.bd.mono H,h.v,h.len,h.ops⟩
end
section
variable{BD:Nat->Prop}{w:World}{a g:Nat}{x:Cox}{c:CoC}{st:Co}{o:Nat}{B:Int}
def bO.pre(h:bO c x.n L B o st)(k:kZ c x.n x.N L)(f:yf BD a g x c P T)(Y:40<=B)(I:B<=10000000000)(V:o+1<=1000000000000):dg B x c st:=by
 refine⟨by have:=h.ops;omega,h.bd,by omega,I,?_,λn y H=>?_,h.v⟩;.rw[<-f.tg];exact aT.2 (by rw[h.len];exact k.tg)
 .rw[<-(f.tl n y H).1];have O:n<x.N:=by rw[<-f.lX];exact(List.getElem?_eq_some_iff.1 H).1
  exact aT.2 (by rw[h.len];exact k.tl n O)
end
def nU{s:Ar}{k m:Nat}{B:Int}(h:WdB B s)(V:40<=B)(Y:n<=32):WdB B (aG k s n m):=by
 have h1:∀j,WdB B (bz s j):=λj v O=>by
  have I:v∈s.W++List.replicate j 0:=O;rcases List.mem_append.1 I with H|H
  .exact h v H
  .rw[(List.mem_replicate.1 H).2];omega
 unfold aG;split;.exact(h1 _).store _ _ ahB
 split;.exact(h1 _).store _ _ ahB
 .exact h1 _
def ym{s:Ar}{B:Int}(h:WdB B s)(V:40<=B)(Y:∀n,f n<=32)(k:Nat):WdB B (aK kl par f s k):=by
 induction k with
 |zero=>exact h
 |succ k ih=>
  have h1:=nU (k:=kl) (m:=par) ih V (Y k);intro v O;have I:v∈(aG kl (aK kl par f s k) (f k) par).W++List.replicate 1 0:=O;rcases List.mem_append.1 I with H|H
  .exact h1 v H
  .rw[(List.mem_replicate.1 H).2];omega
def i2(k n:Nat):∀p∈a9 k n,p.pc=0/\0<=p.a/\p.a<=n/\p.b=0:=by
 intro p h;unfold a9 at h;split at h;.obtain⟨i,hi,rfl⟩:=List.mem_map.1 h;have:=List.mem_range.1 hi;exact⟨rfl,by show(0:Int)<=(i:Int)+1;omega,by show(i:Int)+1<=n;omega,rfl⟩
 .rw[(List.mem_replicate.1 h).2];exact⟨rfl,Int.le_refl _,by show(0:Int)<=n;omega,rfl⟩
def GC(k:Nat){p:Sp}(h:p.pc=0):pcK k p:=by unfold pcK iY;rw[h];exact aaN
def wM{k:Nat}{B:Int}(V:n<=32)(O:40<=B):∀p∈a9 k n,SpB k B p:=λp h=>by
 obtain⟨_,h1,H,I⟩:=i2 k n p h
 exact⟨h1,by omega,by omega,by omega,λ_=>by omega⟩
def gr(kl par:Nat)(f:Nat->Nat)(s:Ar){k:Nat}(h:j<=k):(aK kl par f s j).W.length<=(aK kl par f s k).W.length:=by
 induction k with
 |zero=>obtain rfl:j=0:=ahB;exact Nat.le_refl _
 |succ k H=>
  by_cases e:j=k+1;.subst e;exact Nat.le_refl _
  .have:=H ahB;show _<=(bz (aG _ _ _ _) 1).W.length;rw[eF,bf];omega
def kx(kl par:Nat)(f:Nat->Nat)(s:Ar){k:Nat}(h:j<k):(aK kl par f s j).W.length+szK kl (f j) par+1<=(aK kl par f s k).W.length:=by refine Nat.le_trans ?_ (gr kl par f s (show j+1<=k from h));show _<=(bz (aG _ _ _ _) 1).W.length;rw[eF,bf];omega
def EV(k n m:Nat):1<=szK k n m:=by exact aa7
def sV{k:Nat}(h:T[k]? =some y)(x:Int):(T.take (k+1)).count x=(T.take k).count x+if y==x then 1 else 0:=by rw[List.take_add_one,h,List.count_append,Option.toList_some,List.count_cons,List.count_nil,Nat.zero_add]
def CU(hc:a5 P T=0){i:Nat}(hi:i<T.length)(Y:j<T.length)(h1:gx P T i=gx P T j)(V:cO T i=cO T j):i=j:=by
 have e:T.getD i 0=T.getD j 0:=by rw[<-(eE hc hi).2.1,<-(eE hc Y).2.1,h1]
 obtain⟨y,H⟩:=ai hi;obtain⟨z,I⟩:=ai Y;rw[bm H,bm I]at e;subst e;unfold cO at V;rw[bm H,bm I]at V
 have O:∀(i j:Nat),i<j->T[i]? =some y->(T.take i).count y<(T.take j).count y:=λi j ab H=>by
  have e1:=sV H y;simp only[beq_self_eq_true,↓reduceIte]at e1;have e2:(T.take (i+1)).count y<=(T.take j).count y:=by have:(T.take (i+1)).Sublist (T.take j):=(List.take_prefix_take_left ahB).sublist;exact this.count_le y
  omega
 rcases Nat.lt_trichotomy i j with h|h|h
 .have:=O i j h H;omega
 .exact h
 .have:=O j i h I;omega
section
variable{s:Ar}
def ws(hc:a5 P T=0)(V:1<=kg/\kg<=5)(O:1<=kl/\kl<=5)(hp:1<=par/\par<=4):kZ (fm kg kl par bud P T s) T.length (ac P).length (bG kg kl par P T s).s.W.length:=by
  have I:=bh (aR hc).1;have My:T.length<=32:=I.2.2.2;have Y:(ac P).length<=32:=by exact aaC
  refine⟨⟨V,O⟩,λi j hi h h1 H=>?_,λi hi=>?_,Y,?_,?_,λj h=>?_⟩;. have e1:=(eE hc hi).2.2.1;have e2:=(eE hc h).2.2.1;have TP:(cO T i).toNat=(cO T j).toNat:=H;exact CU hc hi h h1 ahB
  . obtain⟨h1,_,h3,h4⟩:=eE hc hi;have:=(oZ (P:=P) My (gx P T i)).2;exact⟨h1,by show(cO T i).toNat<32;omega⟩
  . show 1<=(par:Int)/\(par:Int)<=4;omega
  . show 1<=((s.W.length+1:Nat):Int)/\((s.W.length+1:Nat):Int)<=((aK _ _ _ _ _).W.length:Int);have h1:=gr kl par (mtQ P T) (aG kg s (ac P).length par) (Nat.zero_le (ac P).length);have H:(aK kl par (mtQ P T) (aG kg s (ac P).length par) 0).W.length=s.W.length+szK kg (ac P).length par:=bf _ _ _ _;have h3:=EV kg (ac P).length par;omega
  . show 1<=(((aK _ _ _ _ j).W.length+1:Nat):Int)/\(((aK _ _ _ _ j).W.length+1:Nat):Int)<=((aK _ _ _ _ _).W.length:Int);have h1:=kx kl par (mtQ P T) (aG kg s (ac P).length par) h;omega
def pd(hc:a5 P T=0)(hs:WdB 40 s):bO (fm kg kl par bud P T s) T.length (bG kg kl par P T s).s.W.length 40 (s.ops+40) (bG kg kl par P T s):=by
  have KX:=bh (aR hc).1;have My:T.length<=32:=KX.2.2.2;have V:(ac P).length<=32:=by exact aaC
  have hf:∀n,mtQ P T n<=32:=λn=>(oZ My n).2;have Y:∀x∈(bG kg kl par P T s).L,∃n,x=a9 kl (mtQ P T n):=λx I=>by obtain⟨n,_,rfl⟩:=List.mem_map.1 I;exact⟨n,rfl⟩
  have KW:(bG kg kl par P T s).L.length=(ac P).length:=by simp[bG,iB]
  have O:∀n,n<(ac P).length->(bG kg kl par P T s).L.getD n []=a9 kl (mtQ P T n):=λn hn=>by rw[List.getD_eq_getElem?_getD];simp[bG,iB,hn]
  refine⟨⟨ym (nU hs ahB V) ahB hf _,wM V ahB,λx I=>?_,λp h=>?_⟩,⟨λp h=>GC _ (i2 _ _ p h).1,λx I p h=>?_,λi hi=>?_,by simp[bG],λi hi=>?_,λi hi=>?_⟩,rfl,?_⟩;. obtain⟨n,rfl⟩:=Y x I;exact wM (hf n) ahB
  . rw[(List.mem_replicate.1 h).2];exact⟨Int.le_refl _,by show(0:Int)<=40;omega⟩
  . obtain⟨n,rfl⟩:=Y x I;exact GC _ (i2 _ _ p h).1
  . left;refine⟨?_,?_⟩;. show(sv (List.replicate T.length Sp.zero) i).pc=0;unfold sv;rw[List.getD_eq_getElem?_getD,List.getElem?_replicate];split<;>rfl
    . have H:=eE hc hi;show(((bG kg kl par P T s).L.getD (gx P T i) []).getD (cO T i).toNat Sp.zero).pc=0;rw[O _ H.1];exact iS (P:=λp=>p.pc=0) (λp h=>(i2 _ _ p h).1) rfl _
  . show gx P T i<(a9 _ _).length;rw[ic];exact(eE hc hi).1
  . show gx P T i<_/\(cO T i).toNat<_;have H:=eE hc hi;rw[KW];refine⟨H.1,?_⟩;show _<((bG kg kl par P T s).L.getD (gx P T i) []).length;rw[O _ H.1,ic];exact H.2.2.2
  . have h1:=ph kl par (mtQ P T) (aG kg s (ac P).length par) (ac P).length;have h2:=kE kg s (ac P).length par;show(aK _ _ _ _ _).ops<=_;omega
end
end
section
open Go
def ri(W X:List Int)(I:y<=(W.length:Int)):ldW (W++X) y=ldW W y:=by
 by_cases h:1<=y;.have h1:inR W y=true:=aT.2 ⟨h,I⟩;have H:inR (W++X) y=true:=aT.2 ⟨h,by rw[List.length_append];omega⟩;rw[js h1,js H,List.getD_eq_getElem?_getD,List.getElem?_append_left ahB,<-List.getD_eq_getElem?_getD]
 .rw[lw (iV.2 ahB),lw (iV.2 ahB)]
def xI(W:List Int)(j:Nat)(I:(W.length:Int)<y):ldW (W++List.replicate j 0) y=0:=by
 unfold ldW;split;.rw[List.getD_eq_getElem?_getD];rename_i h;have H:=aT.1 h;rw[List.getElem?_append_right ahB,List.getElem?_replicate];split<;>rfl
 .rfl
def kC(k:Nat)(s:Ar)(n m:Nat)(I:y<=(s.W.length:Int)):ldW (aG k s n m).W y=ldW s.W y:=by
 have e:ldW (bz s (szK k n m)).W y=ldW s.W y:=ri _ _ I
 have H:∀x v:Int,(s.W.length:Int)<x->ldW (ae (bz s (szK k n m)) x v).W y=ldW s.W y:=λx v O=>by
  rw[ay,<-e];unfold stW;split;.rename_i h;have:=gC h v y;unfold stW at this;rw[if_pos h]at this;rw[this,if_neg ahB]
  .rfl
 unfold aG;split;.exact H _ _ ahB
 split;.exact H _ _ ahB
 .exact e
section
variable{s:Ar}
def fP{k:Nat}(h:j<=k)(O:y<=((aK kl par f s j).W.length:Int)):ldW (aK kl par f s k).W y=ldW (aK kl par f s j).W y:=by
 induction k with
 |zero=>obtain rfl:j=0:=ahB;rfl
 |succ k I=>
  by_cases e:j=k+1;.subst e;rfl
  .have H:j<=k:=(by omega);have hm:=gr kl par f s H;rw[<-I H];show ldW (bz (aG kl (aK kl par f s k) (f k) par) 1).W y=_;have h1:ldW (bz (aG kl (aK kl par f s k) (f k) par) 1).W y=ldW (aG kl (aK kl par f s k) (f k) par).W y:=ri _ _ (by rw[bf];omega);rw[h1];exact kC _ _ _ _ ahB
def vp{k:Nat}(h:j<k):ldW (aK kl par f s k).W (cwN kl par f s j:Nat)=0:=by
 rw[fP (j:=j+1) (k:=k) h];.show ldW (bz (aG kl (aK kl par f s j) (f j) par) 1).W _=0;exact xI _ _ (by unfold cwN;omega)
 .show _<=((bz (aG kl (aK kl par f s j) (f j) par) 1).W.length:Int);rw[eF];unfold cwN;omega
end
def qJ{k m:Nat}:szI k n (m:Int)=(szK k n m:Nat):=by
 unfold szI szK;split;.rfl
 split;.rfl
 exact aaN
def qw(k n i:Nat):(sv (a9 k n) i).pc=0:=iS (P:=λp=>p.pc=0) (λp h=>(i2 k n p h).1) rfl i
def oJ{k:Nat}(hk:1<=k/\k<=5)(s:Ar){m:Nat}(hm:1<=m):cy k (s.W.length+1:Nat) (m:Int) n (aG k s n m).W (a9 k n):=by
 have hz:=bf k s n m;refine⟨ic k n,by omega,by omega,by rw[hz,qJ];omega,?_⟩;have p0:=qw k n;have I:∀y:Int,(s.W.length:Int)<y->y<=s.W.length+szK k n m->inR (bz s (szK k n m)).W y=true:=λy h1 h2=>aT.2 ⟨by omega,by rw[eF];omega⟩;have H:∀y:Int,(s.W.length:Int)<y->ldW (bz s (szK k n m)).W y=0:=λy hy=>xI _ _ hy;have KL:k=1\/k=2\/k=3\/k=4\/k=5:=by omega
 rcases KL with rfl|rfl|rfl|rfl|rfl
 .show gG _ n _ _;intro i hi hc;rw[p0]at hc;omega
 .show dH _ n (ldW (bz s 2).W) _;refine⟨?_,λi hi hc=>by rw[p0]at hc;omega,λi hi hc=>by rw[p0]at hc;omega,λi j hi V Y hc _=>by rw[p0]at hc;omega⟩;have e1:=H ((s.W.length+1:Nat)+1) ahB;have e2:=H (s.W.length+1:Nat) ahB;show ldW (bz s (szK 2 n m)).W _<=ldW (bz s (szK 2 n m)).W _;rw[e1,e2];exact Int.le_refl _
 .show ∃v,dZ _ _ n (ldW (ae (bz s (szK 3 n m)) ((s.W.length:Int)+2) 1).W) _ v;rw[ay];have hw:=gC (I ((s.W.length:Int)+2) ahB (by show(s.W.length:Int)+2<=s.W.length+(1+m:Nat);omega)) 1;refine⟨0,Int.le_refl _,?_,λi hi hc=>by rw[p0]at hc;omega,λi hi hc=>by rw[p0]at hc;omega,λi j hi V Y hc _=>by rw[p0]at hc;omega,λq q0 q1=>?_,?_⟩;.rw[hw,if_neg ahB,H _ ahB];exact Int.le_refl _
  .rw[hw];split;.omega
   .rw[H _ ahB];omega
  .rw[hw,if_pos (by unfold pPl;rw[Int.zero_emod];omega)];rfl
 .have eN:∀x,fN (s.W.length+1:Nat) n (ldW (bz s (szK 4 n m)).W) x=0:=λx=>by unfold fN mNx;split<;>first|exact H _ ahB|rfl
  have nk:∀i,¬Fs (fW (s.W.length+1:Nat) n (ldW (bz s (szK 4 n m)).W)) (sv (a9 4 n)) i:=λi h=>by have h:10<=(sv (a9 4 n) i).pc\/(3<=(sv (a9 4 n) i).pc/\_):=h;rw[p0]at h;omega
  show McA n (ldW (bz s (szK 4 n m)).W _) (fN _ n (ldW (bz s (szK 4 n m)).W)) (fW _ n (ldW (bz s (szK 4 n m)).W)) _;refine⟨⟨λi j _ _ h=>absurd h (nk i),λ_ i _=>nk i⟩,by rw[H _ ahB];omega,?_,?_,λi _ hc=>by rw[H _ ahB]at hc;unfold numT at hc;omega,?_,λi j _ _ hc=>by rw[p0]at hc;omega,?_,λi j _ _ hc=>by rw[p0]at hc;omega,?_⟩;all_goals intro i _ hc;rw[p0]at hc;omega
 .show ∃e,ClA n (ldW (ae (bz s (szK 5 n m)) ((s.W.length:Int)+1) ((n:Int)+1)).W _) (fC _ n (ldW (ae (bz s (szK 5 n m)) ((s.W.length:Int)+1) ((n:Int)+1)).W)) _ e;rw[ay];have hw:=gC (I ((s.W.length:Int)+1) ahB (by show(s.W.length:Int)+1<=s.W.length+(n+2:Nat);omega)) ((n:Int)+1);have O:∀i,i<n->(sv (a9 5 n) i).a=(i:Int)+1:=λi hi=>by unfold sv a9;rw[List.getD_eq_getElem?_getD];simp[hi]
  refine⟨(n:Int)+1,by omega,λi hi=>by rw[O i hi];omega,λi j hi V Y=>by rw[O i hi,O j V]at Y;omega,λi hi=>by rw[O i hi];omega,?_,?_,?_,λi j _ _ hc=>by rw[p0]at hc;omega,.inl (by rw[hw,if_pos ahB]),?_,?_⟩
  .unfold fC;split;.rw[hw,if_neg ahB,H _ ahB]
   .rfl
  all_goals intro i _ hc;rw[p0]at hc;omega
def cy.grow{k:Nat}{t m:Int}{W H:List Int}{S:List Sp}(h:cy k t m n W S)(O:W.length<=H.length)(I:∀y,t<=y->y<t+szI k n m->ldW H y=ldW W y):cy k t m n H S:=
 ⟨h.len,h.m1,h.t1,by have:=h.t2;omega,h.i.congr h.m1 I⟩
section
variable{s:Ar}
def vW(hc:a5 P T=0)(LG:1<=kg/\kg<=5)(LB:1<=kl/\kl<=5)(hp:1<=par/\par<=4):cK (fm kg kl par bud P T s) T.length (ac P).length (mtQ P T):=by
 have h0:=ws (bud:=bud) (s:=s) hc LG LB hp;obtain⟨s7,H⟩:=LE (aG kg s (ac P).length par);have Y:∀a,(fm kg kl par bud P T s).cw a=((cwN kl par (mtQ P T) s7 a:Nat):Int):=λa=>by rw[H];rfl
 have I:∀a,(fm kg kl par bud P T s).tl a=(((aK kl par (mtQ P T) s7 a).W.length+1:Nat):Int):=λa=>by rw[H];rfl
 have Om:∀a,(fm kg kl par bud P T s).cw a=(fm kg kl par bud P T s).tl a+(szK kl (mtQ P T a) par:Nat):=λa=>by rw[Y,I];unfold cwN;rw[bf];omega
 refine⟨h0.k,h0.inj,λi hi=>?_,λa O=>?_,λa O=>?_,λa O=>?_,λa b O hb hn=>?_⟩;.have:=eE hc hi;exact⟨this.1,this.2.2.2⟩
 .rw[Om];show _=_+szI kl (mtQ P T a) ((par:Nat):Int);rw[qJ]
 .show((s.W.length+1:Nat):Int)+szI kg (ac P).length ((par:Nat):Int)<=_;rw[qJ,I];have h1:=gr kl par (mtQ P T) s7 (Nat.zero_le a);have h2:(aK kl par (mtQ P T) s7 0).W.length=s.W.length+szK kg (ac P).length par:=by rw[H];exact bf _ _ _ _
  omega
 .show 0<=szI kl (mtQ P T a) ((par:Nat):Int);rw[qJ];omega
 .have V:∀a b,a<b->(fm kg kl par bud P T s).cw a<(fm kg kl par bud P T s).tl b:=λa b h=>by rw[Y,I];have:=kx kl par (mtQ P T) s7 h;unfold cwN;rw[bf];omega
  rcases Nat.lt_or_gt_of_ne hn with h|h
  .exact .inl (V a b h)
  .exact .inr (V b a h)
def xN(hc:a5 P T=0)(LG:1<=kg/\kg<=5)(LB:1<=kl/\kl<=5)(Y:1<=par/\par<=4)(hs:WdB 40 s):CoM (fm kg kl par bud P T s) T.length (ac P).length (mtQ P T) (bG kg kl par P T s):=by
 have mT:=pd (kg:=kg) (kl:=kl) (par:=par) (bud:=bud) hc hs;have y:=vW (bud:=bud) (s:=s) hc LG LB Y;obtain⟨s7,H⟩:=LE (aG kg s (ac P).length par);have I:(bG kg kl par P T s).s=aK kl par (mtQ P T) s7 (ac P).length:=by rw[H];rfl
 have ZP:(aK kl par (mtQ P T) s7 0).W.length=s.W.length+szK kg (ac P).length par:=by rw[H];exact bf _ _ _ _
 have KV:∀n,n<(ac P).length->(bG kg kl par P T s).L.getD n []=a9 kl (mtQ P T n):=λn hn=>by rw[List.getD_eq_getElem?_getD];simp[bG,iB,hn]
 have QZ:∀j,(sv (bG kg kl par P T s).T j).pc=0:=λj=>by show(sv (List.replicate T.length Sp.zero) j).pc=0;exact aa9
 have Po:∀j,¬cX (sv (bG kg kl par P T s).T j):=λj hb=>by unfold cX at hb;rw[QZ]at hb;omega
 refine⟨?_,λa h=>?_,by simp[bG,iB],λa h=>?_,mT.v,λj hj=>j5 (Po j),λa h _=>?_⟩
 .have h1:=oJ LG s (n:=(ac P).length) Y.1;rw[I];refine h1.grow ?_ (λx h2 V=>?_);.have:=gr kl par (mtQ P T) s7 (Nat.zero_le (ac P).length);rw[bf];omega
  .rw[qJ]at V;rw[fP (Nat.zero_le _) (by rw[ZP];omega),H];rfl
 .rw[KV a h,I];have h1:=oJ LB (aK kl par (mtQ P T) s7 a) (n:=mtQ P T a) Y.1;have et:(fm kg kl par bud P T s).tl a=(((aK kl par (mtQ P T) s7 a).W.length+1:Nat):Int):=by rw[H];rfl
  rw[et];refine h1.grow ?_ (λx h2 V=>?_);.have:=kx kl par (mtQ P T) s7 h;rw[bf];omega
  .rw[qJ]at V;have e1:((aK kl par (mtQ P T) s7 (a+1)).W.length:Int)=(aK kl par (mtQ P T) s7 a).W.length+szK kl (mtQ P T a) par+1:=(by show((bz (aG _ _ _ _) 1).W.length:Int)=_;rw[eF,bf];omega);rw[fP (j:=a+1) h ahB];show ldW (bz (aG kl (aK kl par (mtQ P T) s7 a) (mtQ P T a) par) 1).W x=_;exact ri _ _ (by rw[bf];omega)
 .have O:(fm kg kl par bud P T s).cw a=((cwN kl par (mtQ P T) s7 a:Nat):Int):=by rw[H];rfl
  rw[O,I];have:=kx kl par (mtQ P T) s7 h;unfold cwN;rw[bf];omega
 .have O:(fm kg kl par bud P T s).cw a=((cwN kl par (mtQ P T) s7 a:Nat):Int):=by rw[H];rfl
  rw[O,I,vp h];show FrP (sv (a9 kg (ac P).length) a) 0;unfold FrP;rw[qw];rfl
end
end
section
open Go Go.RowKit
def flV(l:Nat):Value:= .iface 181 (agg #[.iface 193 ↑l])
def bdF(N:Nat):Int:=40+2*(N:Int)
structure im(k n m:Nat)(st:Ar×List Sp)(N:Nat):Prop where
 i:cy k 1 m n st.1.W st.2
 w:WdB (bdF N) st.1
 p:∀p∈st.2,SpB k (bdF N) p/\pcK k p
 o:st.1.ops<=N+1
def flS(k m:Nat)(st:Ar×List Sp)(i:Nat):Ar×List Sp:=((bN k 1 m st.1 i (sv st.2 i)).1,st.2.set i (bN k 1 m st.1 i (sv st.2 i)).2)
structure FlB where
 x:Fx
 hi:Nat
 bt:Nat
 a:Nat
 g:Nat
def Eg(k n m:Nat):LkM n where
 σ:=Ar×List Sp
 β:=FlB
 ok:=λst N=>im k n m st N
 ar:=λst=>st.1
 sp:=λst i=>sv st.2 i
 cn:=λst i=>if (sv st.2 i).pc=10 then 1 else 0
 rd:=false
 step:=flS k m
 ask:=λst i r=>if r then st else(st.1,st.2.set i (askK k (sv st.2 i)))
 leave:=λst i=>(st.1,st.2.set i (ba (sv st.2 i)))
 bt:=λb=>b.bt
 hi:=λb=>b.hi
 fp:=λb=>[b.a,b.g,b.x.q]
 is:=λb w a g lb st=>dx w a g k b.x st.1 st.2/\(b.a=a/\b.g=g/\b.x.n=n/\b.x.m=m/\b.x.t=1)/\jE w lb n k (flV b.x.p) [b.a,b.g,b.x.q] b.bt b.hi/\(b.bt<=b.x.p/\b.x.p<b.hi)/\b.bt<=b.x.l/\b.x.l<b.hi
section
variable{k m:Nat}{st:Ar×List Sp}
def im.at(h:im k n m st N){i:Nat}(hi:i<n):SpB k (bdF N) (sv st.2 i)/\pcK k (sv st.2 i):=by
 have H:i<st.2.length:=by rw[h.i.len];exact hi
 exact h.p _ (List.mem_of_getElem? (qH H))
def im.mono(h:im k n m st N):im k n m st (N+1):=⟨h.i,h.w.mono ahX,λp H=>⟨(h.p p H).1.mono ahX,(h.p p H).2⟩,by have:=h.o;omega⟩
def im.set{s':Ar}{H:List Sp}(h:im k n m st N){i:Nat}{q:Sp}(hi:cy k 1 m n s'.W H)(O:H=st.2.set i q)(hw:WdB (bdF N+2) s')(Y:SpB k (bdF N+2) q/\pcK k q)(V:s'.ops<=N+2):im k n m (s',H) (N+1):=by
 have e:bdF (N+1)=bdF N+2:=by unfold bdF;omega
 refine⟨hi,by rw[e];exact hw,λp I=>?_,V⟩;rw[e];rw[O]at I;rcases List.mem_or_eq_of_mem_set I with h1|rfl
 .exact⟨(h.p p h1).1.mono ahB,(h.p p h1).2⟩
 .exact Y
def im.pre(h:im k n m st N)(hN:N<lkB)(V:1<=k/\k<=5){x:Fx}(I:x.n=n/\x.m=m/\x.t=1):k7 k x st.1 st.2 (bdF N):=
 ⟨by have:=h.o;unfold lkB at hN;omega,h.w,λp H=>(h.p p H).1,by unfold bdF;omega,by unfold bdF;unfold lkB at hN;omega,aT.2 (by
  have O:=h.i.t2
  have hm:=h.i.m1
  have Y:(1:Int)<=szI k n m:=by unfold szI;(repeat' split)<;>omega
  rw[I.2.2];omega)⟩
end
def zb{k m:Nat}(V:1<=k/\k<=5)(hn:1<=n/\n<=32)(hm:1<=m/\m<=4):(Eg k n m).Good where
 n32:=hn
 okS:=fun(st:Ar×List Sp) N i h hN hi=>by
  show im k n m (flS k m st i) (N+1)
  replace h:im k n m st N:=h
  obtain⟨hp,hc⟩:=h.at hi
  have hb:bdF N<=10000000000000:=by unfold bdF;unfold lkB at hN;omega
  have Kh:=qQ (t:=1) (m:=m) (i:=(i:Int)) h.w hp ahX hb ahX ahX
  exact h.set (h.i.step V h.w ahX hb hi hc).1 rfl Kh.1 ⟨Kh.2,(jb V hc).1⟩ (Nat.le_trans (db k 1 m st.1 i _).1 (by have:=h.o;omega))
 okA:=fun(st:Ar×List Sp) N i r h _ hi=>by
  replace h:im k n m st N:=h
  cases r
  .obtain⟨hp,hc⟩:=h.at hi
   exact h.set (h.i.ask V hi) rfl (h.w.mono ahB) ⟨(uY hp ahX).mono ahB,nQ hc⟩ (by have:=h.o;omega)
  .exact h.mono
 okL:=fun(st:Ar×List Sp) N i h _ hi=>by
  replace h:im k n m st N:=h
  obtain⟨hp,hc⟩:=h.at hi
  exact h.set (h.i.leave V hi) rfl (h.w.mono ahB) ⟨(nR hp).mono ahB,ju hc⟩ (by have:=h.o;omega)
 okm:=fun(st:Ar×List Sp) N (h:im k n m st N)=>h.mono
 one:=fun(st:Ar×List Sp) N i j (h:im k n m st N) hi hj h1 h2 _=>h.i.one V hi hj h1 h2
 pcs:=fun(st:Ar×List Sp) N i (h:im k n m st N) hi=>by
  have:=(h.at hi).2
  show 0<=(sv st.2 i).pc
  unfold pcK iY at this
  (repeat' split at this)<;>omega
 cnt:=fun(st:Ar×List Sp) N i h hi=>by
  show(sv st.2 i).pc=10↔0<(if (sv st.2 i).pc=10 then(1:Int)else 0)
  split<;>simp[*]
 opsS:=fun(st:Ar×List Sp) N i _ _ _=>(db k 1 m st.1 i _).1
 arA:=fun(st:Ar×List Sp) i r=>by cases r<;>rfl
 arL:=fun(st:Ar×List Sp) i=>rfl
 ais:=fun(b:FlB) w a g lb (st:Ar×List Sp) h=>h.1.ki.ar
 lk:=fun(b:FlB) w a g lb (st:Ar×List Sp) h=>h.2.2.1.c1
 kd:=fun(b:FlB) w a g lb (st:Ar×List Sp) h=>⟨k,h.2.2.1.blk.cell 0,(decide_eq_false ahB).symm⟩
 fpa:=fun(b:FlB) w a g lb (st:Ar×List Sp) h=>⟨λx hx=>(h.2.2.1.fl x hx).2,h.2.2.1.hw⟩
 far:=fun(b:FlB) w a g lb (st:Ar×List Sp) w' S h t hS=>by
  obtain⟨Y,⟨rfl,rfl,hc⟩,hd,hp,hl⟩:=h
  have h9:∀x∈S,b.hi<=x\/x<b.bt:=hS
  have ha:=hd.fl b.a ahC
  have hg:=hd.fl b.g ahC
  have hq:=hd.fl b.x.q ahC
  exact⟨Y.turns t (λm=>by have:=h9 _ m;omega) (λm=>by have:=h9 _ m;omega) (λm=>by have:=h9 _ m;omega) (λm=>by have:=h9 _ m;omega) (λm=>by have:=h9 _ m;omega),⟨rfl,rfl,hc⟩,hd.far t h9,hp,hl⟩
 cS:=fun(b:FlB) w a g lb (st:Ar×List Sp) N i h O hN hi=>by
  obtain⟨Y,⟨rfl,rfl,hc⟩,hd,hp,hl⟩:=h
  replace O:im k n m st N:=O
  have Mi:i<st.2.length:=by rw[O.i.len];exact hi
  refine(oC .fl hd.c1 hd.c2 hi (R:=λr w'=>r=di (sv st.2 i) (sv (flS k m st i).2 i)/\dx w' b.a b.g k b.x (flS k m st i).1 (flS k m st i).2/\aa [b.a,b.g,b.x.q] w w') λW H=>?_).mono ?_
  .have hx:=qZ (Y.below H) (KOk.of V) i _ (qH Mi) (O.pre hN V hc) (O.at hi).2
   unfold Ai at hx
   rw[hc.2.2,hc.2.1]at hx
   refine hx.mono ?_
   rintro e w' ⟨rfl,k2,t2⟩
   refine⟨_,rfl,?_,k2,(aa.of_below H).trans t2⟩
   rw[show(flS k m st i).2=st.2.set i (bN k 1 m st.1 i (sv st.2 i)).2 from rfl,gk Mi,if_pos rfl]
   rfl
  .exact aba
 cA:=fun(b:FlB) w a g lb (st:Ar×List Sp) N i r h O hN hi=>by
  obtain⟨Y,⟨rfl,rfl,hc⟩,hd,hp,hl⟩:=h
  replace O:im k n m st N:=O
  have Mi:i<st.2.length:=by rw[O.i.len];exact hi
  have tq:∀{w w':World},aa [b.x.q] w w'->aa [b.a,b.g,b.x.q] w w':=λt=>t.mono ahC
  refine(yO .fl hd.c1 hd.c2 hi r (R:=λq w'=>q=decide ((sv st.2 i).pc=0/\(r=true->(false:Bool)=true))/\dx w' b.a b.g k b.x (if r then st else(st.1,st.2.set i (askK k (sv st.2 i)))).1 (if r then st else(st.1,st.2.set i (askK k (sv st.2 i)))).2/\aa [b.a,b.g,b.x.q] w w') (λI W H=>?_) (λI W H=>?_)).mono ?_
  .subst I
   refine(vD (Y.below H) (KOk.of V) i _ (qH Mi)).mono ?_
   rintro e w' ⟨rfl,k2,t2⟩
   exact⟨_,rfl,by simp,k2,(aa.of_below H).trans (tq t2)⟩
  .subst I
   exact⟨by simp,Y.below H,aa.of_below H⟩
  .exact aba
 cL:=fun(b:FlB) w a g lb (st:Ar×List Sp) N i h O hN hi=>by
  obtain⟨Y,⟨rfl,rfl,hc⟩,hd,hp,hl⟩:=h
  replace O:im k n m st N:=O
  have Mi:i<st.2.length:=by rw[O.i.len];exact hi
  have tq:∀{w w':World},aa [b.x.q] w w'->aa [b.a,b.g,b.x.q] w w':=λt=>t.mono ahC
  refine(kT .fl hd.c1 hd.c2 hi (R:=λq w'=>q=decide ((sv st.2 i).pc=10)/\dx w' b.a b.g k b.x st.1 (st.2.set i (ba (sv st.2 i)))/\aa [b.a,b.g,b.x.q] w w') λW H=>?_).mono ?_
  .refine(oK (Y.below H) (KOk.of V) i _ (qH Mi)).mono ?_
   rintro e w' ⟨rfl,k2,t2⟩
   exact⟨_,rfl,rfl,k2,(aa.of_below H).trans (tq t2)⟩
  .exact aba
 cP:=fun(b:FlB) w a g lb (st:Ar×List Sp) i h hi=>oA .fl h.2.2.1.c1 h.2.2.1.c2 hi _ λW H=>xD (h.1.below H) (KOk.of V) i _ (qH (by rw[h.1.ki.n,h.2.1.2.2.1];exact hi))
 cC:=fun(b:FlB) w a g lb (st:Ar×List Sp) i h hi=>oz .fl h.2.2.1.c1 h.2.2.1.c2 hi _ λW H=>xD (h.1.below H) (KOk.of V) i _ (qH (by rw[h.1.ki.n,h.2.1.2.2.1];exact hi))
end
section
open Go Go.RowKit
variable{w:World}{c:CoC}{st:Co}
def AZ(xl:Nat):Value:= .iface 173 (agg #[.iface 169 ↑xl])
structure nK where
 x:Cox
 B:Nat->Prop
 a:Nat
 g:Nat
 bt:Nat
 hi:Nat
def G5(c:CoC)(n Nn:Nat)(ml:Nat->Nat)(L:Nat)(st:Co)(N:Nat):Prop:=
 CoM c n Nn ml st/\bO c n L (40+2*N) (N+40) st/\∀i,(sv st.T i).pc=10->0<(sv st.T i).a
def Ef(c:CoC)(P T:List Int)(L:Nat):LkM T.length where
 σ:=Co
 β:=nK
 ok:=G5 c T.length (ac P).length (mtQ P T) L
 ar:=λst=>st.s
 sp:=λst i=>sv st.T i
 cn:=λst i=>if (sv st.T i).pc=10 then(sv st.T i).a else 0
 rd:=false
 step:=ak c
 ask:=λst i r=>if r then st else bC c st i
 leave:=aA
 bt:=λb=>b.bt
 hi:=λb=>b.hi
 fp:=λb=>CoS b.a b.g b.x
 is:=λb w a g lb st=>aC b.B w a g b.x c P T st/\(b.a=a/\b.g=g)/\jE w lb T.length 6 (AZ b.x.l) (CoS b.a b.g b.x) b.bt b.hi/\∀i,fb b.x b.B i->b.bt<=i/\i<b.hi
def aC.farK{B:Nat->Prop}{a g:Nat}{x:Cox}(h:aC B w a g x c P T st)(t:aa S w w')(ha:a∉S)(hg:g∉S)(Y:∀i∈S,¬fb x B i):aC B w' a g x c P T st:=by
 have ar:=h.ar.turns t ha hg;have nb:∀r,fb x B r->r∉S:=λr hb hm=>Y r hm hb;obtain⟨V,z⟩:=h.nd
 refine⟨h.fx,ar,t.blk h.lk (nb _ (.inl rfl)),h.tb.turns t (λi hi hb=>nb i (.inr (.inr (.inr (.inr (.inr hb))))) hi),⟨V,t.blk z (nb _ (.inr (.inl rfl)))⟩,
  h.sp.turns t (nb _ (.inr (.inr (.inl rfl)))),
  h.gl.oth t ar (nb _ (.inr (.inr (.inr (.inl (.inl rfl)))))) (nb _ (.inr (.inr (.inr (.inl (.inr (.inl rfl))))))) (nb _ (.inr (.inr (.inr (.inl (.inr (.inr rfl))))))),
  λn y O H I=>?_,h.lL,h.lG,h.lS,h.sl⟩
 have hm:y∈x.X:=List.mem_of_getElem? H;exact(h.lo n y O H I).oth t ar (nb _ (.inr (.inr (.inr (.inr (.inl ⟨y,hm,.inl rfl⟩)))))) (nb _ (.inr (.inr (.inr (.inr (.inl ⟨y,hm,.inr (.inl rfl)⟩)))))) (nb _ (.inr (.inr (.inr (.inr (.inl ⟨y,hm,.inr (.inr rfl)⟩))))))
def A4(c:CoC)(st:Co)(i:Nat)(p:Sp)(H:p.pc≠10)(h:(da c st i p).2.2.2.pc=10):0<(da c st i p).2.2.2.a:=by
 revert h;unfold da yK qj;repeat' split
 all_goals (intro h;simp only at h ⊢;omega)
def FP(st:Co)(i:Nat)(q:Sp)(j:Nat)(h:(sv st.T j).pc=10->0<(sv st.T j).a)(H:q.pc=10->0<q.a):(sv (st.T.set i q) j).pc=10->0<(sv (st.T.set i q) j).a:=by
 rw[be];split;.exact H
 .exact h
def Bh{B:Nat->Prop}{a g:Nat}{x:Cox}(h:aC B w a g x c P T st)(i:Nat)(hi:i<x.n):E 234 #[↑x.l,J i] w λe w'=>e= returned (J (if (sv st.T i).pc=10 then(sv st.T i).a else 0))/\Below w.heap.size w w':=by
  have Y:=aP;have H:=qh (λw' (b:Below w.heap.size w w')=>mI (h.below b) i hi);obtain⟨p,V⟩:=LE (sv st.T i);rw[<-V]at H ⊢;clear h V;obtain⟨pc,u,b,z⟩:=p;unfold aF at H;simp only;by_cases O:pc=10;. subst O;rw[if_pos rfl];go_enter func234,ntmps234;go_wp2_with fail;refine Op (H.o _ (Below.refl _ _)) λw1 b1=>?_;have I:=qh (((((b1.o.alloc b1.o.size (cells #[J 10,J u,J b,J z] 113))))));go_wp2;go_ret;exact⟨rfl,I.o⟩
  . rw[if_neg O];have t0:(pc !=10)=true:=(by simpa using O);go_enter func234,ntmps234;go_wp2_with fail;refine Op (H.o _ (Below.refl _ _)) λw1 b1=>?_;have I:=qh (((((b1.o.alloc b1.o.size (cells #[J pc,J u,J b,J z] 113))))));go_wp2;go_ret;exact⟨rfl,I.o⟩
def za(hc:a5 P T=0)(Y:cK c T.length (ac P).length (mtQ P T))(O:kZ c T.length (ac P).length L):(Ef c P T L).Good where
 n32:=by have:=bh (aR hc).1;exact⟨this.2.2.1,this.2.2.2⟩
 okS:=fun(st:Co) N i h hN hi=>by
  unfold lkB at hN
  obtain⟨h1,h2,h3⟩:=h
  have k2:=h2.step O ahB ahB hi
  refine⟨h1.step Y h2.bd ahB ahB hi,⟨k2.bd.mono ahY,k2.v,k2.len,by have:=k2.ops;show(ak c st i).s.ops<=_;omega⟩,λj=>?_⟩
  show(sv (ak c st i).T j).pc=10->0<(sv (ak c st i).T j).a
  unfold ak
  split
  .exact h3 j
  .rename_i e
   exact FP st i _ j (h3 j) (A4 c st i _ ahB)
 okA:=fun(st:Co) N i r h hN hi=>by
  unfold lkB at hN
  obtain⟨h1,h2,h3⟩:=h
  cases r
  .have k2:=h2.ask O ahB hi
   refine⟨h1.ask Y hi,⟨k2.bd.mono ahY,k2.v,k2.len,by have:=k2.ops;show(bC c st i).s.ops<=_;omega⟩,λj=>?_⟩
   show(sv (bC c st i).T j).pc=10->0<(sv (bC c st i).T j).a
   unfold bC
   exact abo
  .exact⟨h1,⟨h2.bd.mono ahY,h2.v,h2.len,by have:=h2.ops;show st.s.ops<=_;omega⟩,h3⟩
 okL:=fun(st:Co) N i h hN hi=>by
  unfold lkB at hN
  obtain⟨h1,h2,h3⟩:=h
  have k2:=h2.leave O ahB hi
  refine⟨h1.leave Y hi,⟨k2.bd.mono ahY,k2.v,k2.len,by have:=k2.ops;show(aA st i).s.ops<=_;omega⟩,λj=>?_⟩
  show(sv (aA st i).T j).pc=10->0<(sv (aA st i).T j).a
  unfold aA
  exact abo
 okm:=fun(st:Co) N h=>⟨h.1,⟨h.2.1.bd.mono ahY,h.2.1.v,h.2.1.len,by have:=h.2.1.ops;show st.s.ops<=_;omega⟩,h.2.2⟩
 one:=fun(st:Co) N i j h hi hj h1 h2 _=>h.1.one Y hi hj (by have e:(sv st.T i).pc=10:=h1;omega) (by have e:(sv st.T j).pc=10:=h2;omega)
 pcs:=fun(st:Co) N i h hi=>by
  have:=h.1.v.k i hi
  unfold dp at this
  show 0<=(sv st.T i).pc
  omega
 cnt:=fun(st:Co) N i h hi=>by
  show(sv st.T i).pc=10↔0<(if (sv st.T i).pc=10 then(sv st.T i).a else 0)
  have:=h.2.2 i
  split
  .rename_i e;exact⟨λ_=>this e,λ_=>e⟩
  .rename_i e;exact⟨λq=>absurd q e,λq=>by omega⟩
 opsS:=fun(st:Co) N i _ _ _=>(mU i).1
 arA:=fun(st:Co) i r=>by
  cases r
  .show(bC c st i).s=st.s
   unfold bC;split<;>rfl
  .rfl
 arL:=fun(st:Co) i=>by
  show(aA st i).s=st.s
  unfold aA;split<;>rfl
 ais:=fun(b:nK) w a g lb (st:Co) h=>h.1.ar
 lk:=fun(b:nK) w a g lb (st:Co) h=>h.2.2.1.c1
 kd:=fun(b:nK) w a g lb (st:Co) h=>⟨6,h.2.2.1.blk.cell 0,rfl⟩
 fpa:=fun(b:nK) w a g lb (st:Co) h=>⟨λx hx=>(h.2.2.1.fl x hx).2,h.2.2.1.hw⟩
 far:=fun(b:nK) w a g lb (st:Co) w' S h t hS=>by
  obtain⟨k,⟨rfl,rfl⟩,hd,hl⟩:=h
  have V:∀x∈S,b.hi<=x\/x<b.bt:=hS
  have hf:=hd.fl
  refine⟨k.farK t (λm=>?_) (λm=>?_) (λi m hb=>?_),⟨rfl,rfl⟩,hd.far t V,hl⟩
  .have:=V _ m;have:=hf b.a aid;omega
  .have:=V _ m;have:=hf b.g aid;omega
  .have:=V _ m;have:=hl _ hb;omega
 cS:=fun(b:nK) w a g lb (st:Co) N i h hk hN hi=>by
  unfold lkB at hN
  obtain⟨k,⟨rfl,rfl⟩,hd,hl⟩:=h
  have en:=k.fx.nT
  have eN:=k.fx.nN
  have C:=(en ▸ hk.2.1:bO c b.x.n L (40+2*N) (N+40) st).pre (by rw[en,eN];exact O) k.fx ahB ahB ahB
  have H:i<b.x.n:=by rw[en];exact hi
  refine(oC .co hd.c1 hd.c2 hi (R:=λr w'=>r=di (sv st.T i) (sv (ak c st i).T i)/\aC b.B w' b.a b.g b.x c P T (ak c st i)/\aa (CoS b.a b.g b.x) w w') λW bw=>?_).mono ?_
  .refine(mK (k.below bw) C i H).mono ?_
   exact abp
  .exact abq
 cA:=fun(b:nK) w a g lb (st:Co) N i r h hk hN hi=>by
  obtain⟨k,⟨rfl,rfl⟩,hd,hl⟩:=h
  have H:i<b.x.n:=by rw[k.fx.nT];exact hi
  refine(yO .co hd.c1 hd.c2 hi r (R:=λq w'=>q=decide ((sv st.T i).pc=0/\(r=true->(false:Bool)=true))/\aC b.B w' b.a b.g b.x c P T (if r then st else bC c st i)/\aa (CoS b.a b.g b.x) w w') (λI W bw=>?_) (λI W bw=>?_)).mono ?_
  .subst I
   refine(sC (k.below bw) i H).mono ?_
   exact abr
  .exact aaI
  .exact abq
 cL:=fun(b:nK) w a g lb (st:Co) N i h hk hN hi=>by
  obtain⟨k,⟨rfl,rfl⟩,hd,hl⟩:=h
  have H:i<b.x.n:=by rw[k.fx.nT];exact hi
  refine(kT .co hd.c1 hd.c2 hi (R:=λq w'=>q=decide ((sv st.T i).pc=10)/\aC b.B w' b.a b.g b.x c P T (aA st i)/\aa (CoS b.a b.g b.x) w w') λW bw=>?_).mono ?_
  .refine(lx (k.below bw) i H).mono ?_
   exact abp
  .exact abq
 cP:=fun(b:nK) w a g lb (st:Co) i h hi=>oA .co h.2.2.1.c1 h.2.2.1.c2 hi _ λW bw=>mI (h.1.below bw) i (by rw[h.1.fx.nT];exact hi)
 cC:=fun(b:nK) w a g lb (st:Co) i h hi=>sW .co h.2.2.1.c1 h.2.2.1.c2 hi _ λW bw=>Bh (h.1.below bw) i (by rw[h.1.fx.nT];exact hi)
end
section
open Go Go.RowKit
def qN(w:World)(a g n:Nat)(k:Int)(v:Value)(ms:MS n)(w':World):Prop:=
 ∀(w2:World) (lb:Nat),aa [lb] w' w2->lb<w.heap.size->lb≠a->lb≠g->Blk w2 lb 110 #[J k,J n,v]->∃b:ms.1.β,ms.1.Good/\ms.1.ok ms.2 0/\ms.1.is b w2 a g lb ms.2/\(∀x∈ms.1.fp b,w.heap.size<=x\/x=a\/x=g)/\min lb (min a g)<=ms.1.bt b
section
variable{w:World}{a g:Nat}{s:Ar}
def Io(O:1<=n/\n<=32)(hs:s.ops=0){c:Mx}(k:bQ w' c bud (ma0 s n))(hc:c.b.a=a/\c.b.g=g/\c.b.n=n/\(c.b.F:Int)=maF n)(h1:w.heap.size<=c.l)(Y:w.heap.size<=c.q)(h3:w.heap.size<=c.b.k):qN w a g n 10 (maV c.l) ⟨xM n bud,ma0 s n⟩ w':=by
 intro w2 lb t V ha hg hb;have I:∀x∈mS c,w.heap.size<=x\/x=a\/x=g:=λx h=>by unfold mS at h;simp at h;omega
 have H:=k.far t (λx h m=>by have:=I x h;simp at m;omega);have l1:=H.lk.lt;have l2:=H.sp.lt;have l3:=H.bn.blk.lt;have l4:=H.bn.ar.blk.lt;have l5:=H.bn.ar.wds.lt;exact⟨(c,min lb (min a g),w2.heap.size),vQ bud O,⟨Iy _ O.1,by show s.ops<=0;omega⟩,⟨H,hc,hb,λm=>by have:=I _ m;omega,⟨Nat.min_le_left _ _,hb.lt⟩,λx h=>by unfold mS at h;simp at h;show min lb (min a g)<=x/\x<w2.heap.size;omega,Nat.le_refl _⟩,I,Nat.le_refl _⟩
def Im(hc:a5 P T=0)(hd:0<=bud/\bud<=3)(hs:s.ops=0){l q b u lo hi:Nat}(k:bB w' l a g q b u lo hi bud P T (hc0 s (ac P).length T.length))(h1:w.heap.size<=l)(h2:w.heap.size<=q)(h4:w.heap.size<=u)(h5:w.heap.size<=lo):qN w a g T.length 8 (hcV l) ⟨Eh bud P T,hc0 s (ac P).length T.length⟩ w':=by
 intro w2 lb t Y ha hg hb;have O:1<=T.length/\T.length<=32:=by have:=bh (aR hc).1;exact⟨this.2.2.1,this.2.2.2⟩
 have I:∀x∈[a,g,q,u],w.heap.size<=x\/x=a\/x=g:=λx H=>by simp at H;omega
 have h:=k.far t (λx H m=>by simp at H m;omega) (λx m=>by simp at m;omega);have l1:=h.lk.lt;have l2:=h.sp.lt;have l3:=h.tu.blk.lt;have l4:=h.ar.blk.lt;have l5:=h.ar.wds.lt;refine⟨⟨l,a,g,q,b,u,lo,hi,min lb (min a g),w2.heap.size⟩,zc hc hd,⟨⟨_,HOk.start _ O.2 (λt V=>(ug k V).2) hs rfl⟩,λi=>?_⟩,⟨h,⟨rfl,rfl⟩,⟨hb,λm=>by have:=I _ m;omega,⟨Nat.min_le_left _ _,hb.lt⟩,λx H=>by simp at H;show min lb (min a g)<=x/\x<w2.heap.size;omega,Nat.le_refl _⟩,⟨by show min lb (min a g)<=l;omega,l1⟩,by show min lb (min a g)<=lo;omega,h.hs⟩,I,Nat.le_refl _⟩;show lr (sv (List.replicate T.length Sp.zero) i);rw[rX];unfold lr Sp.zero;simp
def ct0(s:Ar):CtS n (cn0 s n):=by
 have e:∀i,sv (List.replicate n Sp.zero) i=Sp.zero:=λi=>rX n i
 have w0:∀y,ldW (List.replicate (2+3*n) (0:Int)) y=0:=λy=>by
  unfold ldW;split;.exact iT _ _ _
  .rfl
 have H:∀x,aN (List.replicate (2+3*n) (0:Int)) x=0:=λx=>by unfold aN;rw[w0];split<;>rfl
 have I:∀x,aS (List.replicate (2+3*n) (0:Int)) x=0:=λx=>by unfold aS;rw[w0];split<;>rfl
 have h:∀x,aL (List.replicate (2+3*n) (0:Int)) x=0:=λx=>by unfold aL;rw[w0];split<;>rfl
 refine⟨⟨?_,?_,?_,?_,?_,?_,?_,?_,?_,?_,?_,?_,?_,?_,?_⟩,by simp[cn0],by simp[cn0]⟩;all_goals simp only[cn0,e,w0,H,I,h,WkB]
 .refine⟨?_,?_⟩<;>intros<;>simp_all [G0,jg,Sp.zero]
 all_goals try simp only[Sp.zero]
 all_goals first|omega|(intros;omega)
def Ik(nd:List Int)(hs:s.ops=0){c:Cx}{cap:Nat}(k:ao w' c cap bud nd (cn0 s nd.length))(hc:c.a=a/\c.g=g)(h1:w.heap.size<=c.l)(h2:w.heap.size<=c.q)(h3:w.heap.size<=c.k)(O:∀x∈[c.n1,c.nb,c.b0,c.b1,c.b2],w.heap.size<=x):qN w a g nd.length 9 (cnV c.l) ⟨xL bud nd nd.length,cn0 s nd.length⟩ w':=by
 intro w2 lb t Nc ha hg hb;simp only[List.mem_cons,List.not_mem_nil,or_false,forall_eq_or_imp,forall_eq]at O;have h:=k.far t (λx H m=>by simp at H m;omega) (λx H m=>by simp at H m;omega);have l1:=h.lk.lt;have l2:=h.sp.lt;have l3:=h.wk.blk.lt;have l4:=h.ar.blk.lt;have l5:=h.ar.wds.lt;have l6:=h.wk.row.lt;have V:=aI (h.row 0 (by have:=h.n32;omega));have Y:=h.p0.lt;have l9:=h.p1.lt;have l0:=h.p2.lt;have I:∀x∈cnF ⟨c,cap,min lb (min a g),w2.heap.size⟩,(w.heap.size<=x\/x=a\/x=g)/\x<w2.heap.size:=λx H=>by unfold cnF at H;simp at H;omega
 refine⟨⟨c,cap,min lb (min a g),w2.heap.size⟩,vO h.n32,⟨ct0 s,by show s.ops<=0;omega⟩,⟨h,hc,⟨hb,λm=>by have:=I _ m;omega,⟨Nat.min_le_left _ _,hb.lt⟩,λx H=>by have:=I x H;show min lb (min a g)<=x/\x<w2.heap.size;omega,Nat.le_refl _⟩,λx H=>by simp at H V Y l9 l0;show min lb (min a g)<=x/\x<w2.heap.size;omega⟩,λx H=>(I x H).1,Nat.le_refl _⟩
end
end
section
open Go.RowKit
structure SmX where
 l:Nat
 q:Nat
 b:Nat
 gg:Nat
 dd:Nat
 x:Cox
def smC(a:Nat)(X:SmX)(N n:Nat):Array Value:=#[↑a,↑X.b,↑X.gg,↑X.dd,J (2*(N:Int)+1),↑X.x.l,slice (some ⟨X.q,0,none⟩) n n]
structure aw(ty:TypeId)(B BC:Nat->Prop)(w:World)(a g:Nat)(X:SmX)(c:CoC)(P T:List Int)(st:Co)(d:Dr)(U:List Sp):Prop where
 lk:Blk w X.l ty (smC a X (ac P).length T.length)
 gd:GD w a g X.gg X.dd (ac P).length st.s d
 tb:eX B w X.b P T
 sp:SpR w X.q U
 co:aC BC w a g X.x c P T st
 lU:U.length=T.length
 o1:∀i∈CoS a g X.x,i≠X.l/\i≠X.q/\i≠X.gg/\i≠X.dd/\¬B i
 o2:¬fb X.x BC X.q/\¬fb X.x BC X.dd
 o3:X.q≠X.l/\X.q≠X.gg/\X.q≠X.dd/\¬B X.q
 o4:X.dd≠X.l/\X.dd≠X.gg/\¬B X.dd
section
variable{ty:TypeId}{B:Nat->Prop}{w:World}{a g:Nat}{X:SmX}{x:Cox}{c:CoC}{st st':Co}{d d':Dr}{U:List Sp}{s':Ar}
def aC.arAway(h:aC BC w a g x c P T st)(t:aa S w w')(I:aB w' a g s')(hS:∀i∈S,i=a\/i=g\/¬fb x BC i):aC BC w' a g x c P T {st with s:=s'}:=by
 have nb:∀r u,x.o r=u->u≠3->fb x BC r->r∉S:=λr u e Y hb hm=>by
  rcases hS r hm with H|H|H
  .rw[H,h.fx.oa]at e;exact Y e.symm
  .rw[H,h.fx.og]at e;exact Y e.symm
  .exact H hb
 obtain⟨Zz,z⟩:=h.nd
 refine⟨h.fx,I,t.blk h.lk (nb _ _ h.fx.ol ahD (.inl rfl)),h.tb.turns t (λi hi hb=>nb i _ (h.fx.oB i hb) ahD (.inr (.inr (.inr (.inr (.inr hb))))) hi),⟨Zz,t.blk z (nb _ _ h.fx.on ahD (.inr (.inl rfl)))⟩,
  h.sp.turns t (nb _ _ h.fx.os ahD (.inr (.inr (.inl rfl)))),
  h.gl.oth t I (nb _ _ h.fx.oG.1 ahD (.inr (.inr (.inr (.inl (.inl rfl)))))) (nb _ _ h.fx.oG.2.1 ahD (.inr (.inr (.inr (.inl (.inr (.inl rfl))))))) (nb _ _ h.fx.oG.2.2 ahD (.inr (.inr (.inr (.inl (.inr (.inr rfl))))))),
  λn y S' O P2=>?_,h.lL,h.lG,h.lS,h.sl⟩
 have hm:y∈x.X:=List.mem_of_getElem? O;have V:=h.fx.oL n y O;exact(h.lo n y S' O P2).oth t I (nb _ _ V.1 ahB (.inr (.inr (.inr (.inr (.inl ⟨y,hm,.inl rfl⟩)))))) (nb _ _ V.2.1 ahB (.inr (.inr (.inr (.inr (.inl ⟨y,hm,.inr (.inl rfl)⟩)))))) (nb _ _ V.2.2 ahB (.inr (.inr (.inr (.inr (.inl ⟨y,hm,.inr (.inr rfl)⟩))))))
def aw.agS(h:aw ty B BC w a g X c P T st d U):(a≠X.l/\a≠X.q/\a≠X.gg/\a≠X.dd/\¬B a)/\(g≠X.l/\g≠X.q/\g≠X.gg/\g≠X.dd/\¬B g):=
 ⟨h.o1 a aid,h.o1 g aid⟩
def aw.coT(h:aw ty B BC w a g X c P T st d U)(t:aa (CoS a g X.x) w w')(k:aC BC w' a g X.x c P T st'):aw ty B BC w' a g X c P T st' d U:=
 {h with lk:=t.blk h.lk (λm=>(h.o1 _ m).1 rfl),gd:={h.gd with ar:=k.ar,ga:=t.blk h.gd.ga (λm=>(h.o1 _ m).2.2.1 rfl),dr:=t.blk h.gd.dr (λm=>(h.o1 _ m).2.2.2.1 rfl)},tb:=h.tb.turns t (λi hi=>(h.o1 i hi).2.2.2.2),sp:=h.sp.turns t (λm=>(h.o1 _ m).2.1 rfl),co:=k}
def aw.gdT(h:aw ty B BC w a g X c P T st d U)(t:aa [a,g,X.dd] w w')(k:GD w' a g X.gg X.dd (ac P).length s' d'):aw ty B BC w' a g X c P T {st with s:=s'} d' U:=by
 obtain⟨H,hg⟩:=h.agS;have hm:∀r,r≠a->r≠g->r≠X.dd->r∉[a,g,X.dd]:=λr h1 I O=>by simp[h1,I,O]
 refine {h with lk:=t.blk h.lk (hm _ (λe=>H.1 e.symm) (λe=>hg.1 e.symm) (λe=>h.o4.1 e.symm)),gd:=k,tb:=h.tb.turns t (λi hi hb=>?_),sp:=h.sp.turns t (hm _ (λe=>H.2.1 e.symm) (λe=>hg.2.1 e.symm) h.o3.2.2.1),co:=h.co.arAway t k.ar (λi hi=>?_)}
 .simp at hi;rcases hi with rfl|rfl|rfl
  .exact H.2.2.2.2 hb
  .exact hg.2.2.2.2 hb
  .exact h.o4.2.2 hb
 .simp at hi;rcases hi with rfl|rfl|rfl
  .exact .inl rfl
  .exact .inr (.inl rfl)
  .exact .inr (.inr h.o2.2)
def aw.arT(h:aw ty B BC w a g X c P T st d U)(t:aa [a,g] w w')(H:aB w' a g s'):aw ty B BC w' a g X c P T {st with s:=s'} d U:=
 h.gdT (aM t) (h.gd.op t H)
def aw.put(h:aw ty B BC w a g X c P T st d U){i:Nat}{p p':Sp}(Y:U[i]? =some p)(V:j<4)(O:(bi p).set j u=bi p'):aw ty B BC (w.setCell ⟨X.q,i*4+j,none⟩ u) a g X c P T st d (U.set i p'):=by obtain⟨I,hg⟩:=h.agS;have t:aa [X.q] w (w.setCell ⟨X.q,i*4+j,none⟩ u):=aW _ _ _;have H:=h.gd.ar.turns t (by simp;exact I.2.1) (by simp;exact hg.2.1);have k:=h.co.arAway t (s':=st.s) H (λi hi=> .inr (.inr (by simp at hi;rw[hi];exact h.o2.1)));refine {h with lk:=t.blk h.lk (by simp;exact λe=>h.o3.1 e.symm),gd:={h.gd with ar:=H,ga:=t.blk h.gd.ga (by simp;exact λe=>h.o3.2.1 e.symm),dr:=t.blk h.gd.dr (by simp;exact λe=>h.o3.2.2.1 e.symm)},tb:=h.tb.turns t (λi hi=>by simp at hi;rw[hi];exact h.o3.2.2.2),sp:=h.sp.put Y V O,co:=k,lU:=by rw[List.length_set];exact h.lU}
def aw.put0(h:aw ty B BC w a g X c P T st d U){i:Nat}{p p':Sp}(I:U[i]? =some p)(H:(bi p).set 0 u=bi p'):aw ty B BC (w.setCell ⟨X.q,i*4,none⟩ u) a g X c P T st d (U.set i p'):=h.put I (j:=0) ahD H
def aw.below(h:aw ty B BC w a g X c P T st d U)(b:Below w.heap.size w w'):aw ty B BC w' a g X c P T st d U:=
 have t:aa [] w w':=aa.of_below b
 {h with lk:=t.blk h.lk ahC,gd:=h.gd.below b,tb:=h.tb.turns t ahC,sp:=h.sp.turns t ahC,co:=h.co.below b}
def aw.nT(h:aw ty B BC w a g X c P T st d U):X.x.n=T.length/\X.x.N=(ac P).length/\T.length<=32/\(ac P).length<=32:=by have:=h.co.fx.n32;have H:=h.co.fx.nT;have I:=h.co.fx.nN;exact⟨H,I,by omega,by omega⟩
def aw.thr(h:aw ty B BC w a g X c P T st d U){i:Nat}(hi:i<T.length):U[i]? =some (sv U i):=by
 have:i<U.length:=by rw[h.lU];exact hi
 exact aay
def aw.cs(h:aw ty B BC w a g X c P T st d U):w.cell? X.l=some ↑a/\Z w X.l 1 ↑X.b/\Z w X.l 2 ↑X.gg/\Z w X.l 3 ↑X.dd/\Z w X.l 4 (J (2*((ac P).length:Int)+1))/\Z w X.l 5 ↑X.x.l/\Z w X.l 6 (slice (some ⟨X.q,0,none⟩) T.length T.length):=
 ⟨h.lk.cell 0,h.lk.cell 1,h.lk.cell 2,h.lk.cell 3,h.lk.cell 4,h.lk.cell 5,h.lk.cell 6⟩
def SmS(a g:Nat)(X:SmX):List Nat:=X.q :: X.dd :: CoS a g X.x
def ii(t:aa (CoS a g X.x) w w'):aa (SmS a g X) w w':=t.mono (λi hi=>by unfold SmS;simp[hi])
def jv(t:aa [a,g,X.dd] w w'):aa (SmS a g X) w w':=t.mono (λi hi=>by unfold SmS CoS;simp at hi ⊢;rcases hi with rfl|rfl|rfl<;>simp)
def fz(t:aa [a,g] w w'):aa (SmS a g X) w w':=t.mono (λi hi=>by unfold SmS CoS;simp at hi ⊢;rcases hi with rfl|rfl<;>simp)
def eg(i:Nat)(u:Value):aa (SmS a g X) w (w.setCell ⟨X.q,i,none⟩ u):=(aW _ _ _).mono (λi hi=>by unfold SmS;simp at hi;simp[hi])
end
end
section
open Go.RowKit
section
variable{B:Nat->Prop}{w:World}{a g:Nat}{X:SmX}{c:CoC}{st st':Co}{d d':Dr}{U:List Sp}{s':Ar}
def JA(h:aw 330 B BC w a g X c P T st d U):E 366 #[↑X.l] w λe w'=>e= returned (J T.length)/\w=w':=by have c6:=h.cs.2.2.2.2.2.2;clear h;go_enter func366,ntmps366;exact aaa
def BQ(h:aw 330 B BC w a g X c P T st d U)(i:Int)(r:Bool)(I:r=decide (okI U i)):E 367 #[↑X.l,J i] w λe w'=>e= returned (.bool r)/\w=w':=by
 have HT:=qh (JA h);have Ks:=h.lU;clear h;by_cases h0:0<=i
 .by_cases h1:i<T.length;.refine akb ?_;intro e;subst e;clear I;go_enter func367,ntmps367;exact aad
  .have e:r=false:=(by rw[I];exact decide_eq_false (λk=>h1 aiF));subst e;clear I;go_enter func367,ntmps367;exact abO
 .have e:r=false:=by rw[I];exact decide_eq_false (λk=>h0 k.1)
  subst e;clear I;go_enter func367,ntmps367;exact aaa
def px(h:aw 330 B BC w a g X c P T st d U)(i:Int):E 364 #[↑X.l,J i] w λe w'=>e= returned (aF (getS U i))/\Below w.heap.size w w':=by
  refine ajp ?_;intro hb H Kl Kp Ks;by_cases I:okI U i;. have O:=qh (BQ hb i true (decide_eq_true I).symm);have hp:=dL I;obtain⟨p,Y⟩:=LE (getS U i);rw[<-Y]at hp ⊢;have c6:=h.cs.2.2.2.2.2.2;refine ai0 ?_;intro a0 a1 a2 a3;obtain⟨V,h1⟩:=id I;rw[Ks]at h1;obtain⟨n,rfl⟩:=Int.eq_ofNat_of_zero_le V;simp only[Int.toNat_natCast]at a0 a1 a2 a3;have t2:¬(n:Int)<0:=(by omega);have t4:n<T.length:=(by omega);clear h hb hp Y V h1 I Ks;go_enter func364,ntmps364;go_wp2_with (go_at_call 367;refine O.o.mono ?_;rintro e w' ⟨rfl,rfl⟩);exact bodyPost_ret (results_cell_row ahF _ _ w.heap.size 113 _ (0,0) _ ahF (heap_alloc_new w _) Tryz.underlying113 rfl ahE) rfl ⟨rfl,(Below.refl _ _).alloc (Nat.le_refl _) _⟩
  . have O:=qh (BQ hb i false (decide_eq_false I).symm);rw[dE I];clear h hb I Ks;go_enter func364,ntmps364;go_wp2_with (go_at_call 367;refine O.o.mono ?_;rintro e w' ⟨rfl,rfl⟩);exact bodyPost_ret (results_cell_row ahF _ _ w.heap.size 113 _ (0,0) _ ahF (heap_alloc_new w _) Tryz.underlying113 rfl ahE) rfl ⟨rfl,(Below.refl _ _).alloc (Nat.le_refl _) _⟩
end
end
section
open Go
def jo(n:Nat)(P:Nat->Bool):Nat:=(List.range n).countP P
def mw(n:Nat)(P:Nat->Bool):jo (n+1) P=jo n P+if P n then 1 else 0:=by unfold jo;rw[List.range_succ,List.countP_append,List.countP_singleton]
def jG{P Q:Nat->Bool}{i:Nat}(H:∀j,j≠i->Q j=P j):∀n,i<n->jo n Q+(if P i then 1 else 0)=jo n P+(if Q i then 1 else 0)
 |0,h=>by omega
 |n+1,h=>by
  rw[mw,mw];by_cases e:i=n;.subst e;have:jo i Q=jo i P:=(by unfold jo;refine List.countP_congr (λx O=>?_);rw[H x (by have:=List.mem_range.1 O;omega)]);rw[this];omega
  .have V:=jG (P:=P) (Q:=Q) H n ahB;rw[H n (λI=>e I.symm)];omega
def jH{P:Nat->Bool}:∀{n i:Nat},i<n->P i=true->0<jo n P
 |0,i,h,_=>by omega
 |n+1,i,h,H=>by
  rw[mw];by_cases e:i=n;.subst e;rw[H];simp
  .have:=jH (n:=n) (P:=P) (i:=i) ahB H;omega
section
variable{c:CoC}{ml:Nat->Nat}{st st':Co}
def C6(k n:Nat){m:Int}(h:1<=m):0<=szI k n m:=by unfold szI;(repeat' split)<;>omega
def CoM.low(h:CoM c n N ml st)(y:cK c n N ml){s':Ar}(V:s'.W.length=st.s.W.length)(I:∀x,c.tg<=x->ldW s'.W x=ldW st.s.W x)(O:CoV c n {st with s:=s'}):CoM c n N ml {st with s:=s'}:=by
 have hz:=C6 c.kg N h.fG.m1;have hc:∀a,a<N->ldW s'.W (c.cw a)=ldW st.s.W (c.cw a):=λa H=>I _ (by have:=y.gl a H;have:=y.cw a H;have:=y.sz a H;omega);refine⟨h.fG.frame V (λx h1 _=>I x h1),λa H=>(h.fL a H).frame V (λx h1 _=>I x (by have:=y.gl a H;omega)),h.lL,λa H=>by show 1<=_/\_<=(s'.W.length:Int);rw[V];exact h.lW a H,O,λj Y=>?_,λa H hq=>?_⟩;.show StP _ _ (ldW s'.W _);rw[hc _ (y.nd j Y).1];exact h.sj j Y
 .show FrP _ (ldW s'.W _);rw[hc a H];exact h.fr a H hq
def CoV.ars(h:CoV c n st)(s':Ar):CoV c n {st with s:=s'}:=⟨h.g,h.l,h.k,h.lT,h.lG,h.lL⟩
def CoM.stepLow(h:CoM c n N ml st)(y:cK c n N ml){B:Int}(O:CoB c B st)(KC:1<=B)(I:B<=10000000000000){i:Nat}(hi:i<n):∀x,x<c.tg->ldW (ak c st i).s.W x=ldW st.s.W x:=by
  intro x hx;have H:=y.nd i hi;have hz:=C6 c.kg N h.fG.m1;have g1:=y.gl _ H.1;have c1:=y.cw _ H.1;have s1:=y.sz _ H.1;have LS:=((h.fL _ H.1).step y.k.2 O.w ahB I H.2 (h.v.lpc hi)).2 x ahB;have Y:=(h.fG.step y.k.1 O.w ahB I H.1 (h.v.gpc hi)).2 x ahB;have V:∀u,ldW (stW st.s.W (c.cw (c.node i)) u) x=ldW st.s.W x:=λu=>by rw[gC (aT.2 (h.lW _ H.1)),if_neg ahB]
  have KO:∀p,ldW (da c st i p).1.W x=ldW st.s.W x:=λp=>by
    unfold da yK qj
    (repeat' split)<;>(try dsimp only)<;>first
      | rfl
      | exact LS
      | exact Y
      | (rw[aQ])
      | (rw[ay];exact V _)
      | (unfold cD
         (repeat' split)<;>first|rfl|rw[aQ])
  unfold ak;split;. rfl
  . exact KO _
def gI(c:CoC)(st:Co)(i:Nat):(bC c st i).s=st.s:=by unfold bC;split<;>rfl
def fO(st:Co)(i:Nat):(aA st i).s=st.s:=by unfold aA;split<;>rfl
def ot(h:CoV c n st){i:Nat}(hi:i<n)(H:j≠i):sv (ak c st i).T j=sv st.T j:=by
 unfold ak;split;.rfl
 .show sv (st.T.set i _) j=_;rw[svS (by have:=h.lT;omega),if_neg H]
def Kg(h:CoV c n st){i:Nat}(hi:i<n):(j≠i->sv (bC c st i).T j=sv st.T j)/\((sv st.T i).pc=0->(sv (bC c st i).T i).pc=1):=by
 unfold bC;have hl:i<st.T.length:=by have:=h.lT;omega
 constructor;.exact abP
 .intro H;rw[if_pos H];show(sv (st.T.set i _) i).pc=1;rw[svS hl,if_pos rfl]
def fd(h:CoV c n st){i:Nat}(hi:i<n):(j≠i->sv (aA st i).T j=sv st.T j)/\((sv st.T i).pc=10->(sv (aA st i).T i).pc=11):=by
 unfold aA;have hl:i<st.T.length:=by have:=h.lT;omega
 constructor;.exact abP
 .intro H;rw[if_pos H];show(sv (st.T.set i _) i).pc=11;rw[svS hl,if_pos rfl]
def mx(h:CoV c n st){i:Nat}(hi:i<n):(0<(sv st.T i).pc/\(sv st.T i).pc<10->(0<(sv (ak c st i).T i).pc/\(sv (ak c st i).T i).pc<=10)/\bv (sv st.T i) (sv (ak c st i).T i)=decide ((sv (ak c st i).T i).pc=10))/\
    (10<(sv st.T i).pc->((sv (ak c st i).T i).pc=0\/10<(sv (ak c st i).T i).pc)/\bv (sv st.T i) (sv (ak c st i).T i)=decide ((sv (ak c st i).T i).pc=0)):=by
  have hl:i<st.T.length:=by have:=h.lT;omega
  have I:=h.k i hi;obtain⟨p,Y⟩:=LE (sv st.T i);have e:¬(p.pc=0\/p.pc=10)->sv (ak c st i).T i=(da c st i p).2.2.2:=λV=>by unfold ak;rw[<-Y,if_neg V];show sv (st.T.set i _) i=_;rw[svS hl,if_pos rfl]
  rw[<-Y]at I ⊢;refine⟨λhc=>?_,λhc=>?_⟩
  . rw[e ahB]
    have H:0<(da c st i p).2.2.2.pc/\(da c st i p).2.2.2.pc<=10:=by
      obtain⟨pc,u,b,z⟩:=p;have O:pc=1\/pc=2\/pc=3\/pc=4:=(by unfold dp at I;simp only at I hc;omega);rcases O with rfl|rfl|rfl|rfl
      . rw[mv1];simp only;split<;>simp
      . rw[mv2];split<;>simp
      . rw[mv3];simp only;split<;>simp
      . rw[mv4];simp
    exact⟨H,qT hc.1 hc.2 H.1⟩
  . rw[e ahB]
    have H:(da c st i p).2.2.2.pc=0\/10<(da c st i p).2.2.2.pc:=by
      obtain⟨pc,u,b,z⟩:=p;have O:pc=11\/pc=12\/pc=13\/pc=14\/pc=15\/pc=16:=(by unfold dp at I;simp only at I hc;omega);rcases O with rfl|rfl|rfl|rfl|rfl|rfl
      . rw[Gm];simp only;split<;>simp
      . rw[Gn];simp only;split<;>simp
      . rw[Gp];simp
      . rw[Gq];simp
      . rw[Gr];split<;>simp
      . rw[Gs];simp only;split<;>simp
    exact⟨H,nW hc H⟩
end
end
section
open Go.RowKit
def dr0:Dr:=⟨0,0,false,false,false,0,false⟩
def F1(w:World)(gg:Nat):E 175 #[↑gg] w λe w'=>∃d,e= returned (pointer (some ⟨d,0,none⟩))/\Below w.heap.size w w'/\Blk w' d 367 (drC gg dr0)/\d=w.heap.size:=by go_enter func175,ntmps175;go_wp2;go_ret;exact⟨_,rfl,(Below.refl _ _).alloc (Nat.le_refl _) _,Blk.new w 367 (drC gg dr0),rfl⟩
def smA(s:Ar)(N:Nat):Ar:=bz (bz s (2*N)) 1
end
section
open Go.RowKit
section
variable{B:Nat->Prop}{w:World}{a g:Nat}{X:SmX}{c:CoC}{st st':Co}{d d':Dr}{U:List Sp}{s':Ar}
def JB(h:aw 335 B BC w a g X c P T st d U):E 390 #[↑X.l] w λe w'=>e= returned (J T.length)/\w=w':=by have c6:=h.cs.2.2.2.2.2.2;clear h;go_enter func390,ntmps390;exact aaa
def BS(h:aw 335 B BC w a g X c P T st d U)(i:Int)(r:Bool)(I:r=decide (okI U i)):E 391 #[↑X.l,J i] w λe w'=>e= returned (.bool r)/\w=w':=by
 have HT:=qh (JB h);have Ks:=h.lU;clear h;by_cases h0:0<=i
 .by_cases h1:i<T.length;.refine akb ?_;intro e;subst e;clear I;go_enter func391,ntmps391;exact aad
  .have e:r=false:=(by rw[I];exact decide_eq_false (λk=>h1 aiF));subst e;clear I;go_enter func391,ntmps391;exact abO
 .have e:r=false:=by rw[I];exact decide_eq_false (λk=>h0 k.1)
  subst e;clear I;go_enter func391,ntmps391;exact aaa
def py(h:aw 335 B BC w a g X c P T st d U)(i:Int):E 388 #[↑X.l,J i] w λe w'=>e= returned (aF (getS U i))/\Below w.heap.size w w':=by
  refine ajp ?_;intro hb H Kl Kp Ks;by_cases I:okI U i;. have O:=qh (BS hb i true (decide_eq_true I).symm);have hp:=dL I;obtain⟨p,Y⟩:=LE (getS U i);rw[<-Y]at hp ⊢;have c6:=h.cs.2.2.2.2.2.2;refine ai0 ?_;intro a0 a1 a2 a3;obtain⟨V,h1⟩:=id I;rw[Ks]at h1;obtain⟨n,rfl⟩:=Int.eq_ofNat_of_zero_le V;simp only[Int.toNat_natCast]at a0 a1 a2 a3;have t2:¬(n:Int)<0:=(by omega);have t4:n<T.length:=(by omega);clear h hb hp Y V h1 I Ks;go_enter func388,ntmps388;go_wp2_with (go_at_call 391;refine O.o.mono ?_;rintro e w' ⟨rfl,rfl⟩);exact bodyPost_ret (results_cell_row ahF _ _ w.heap.size 113 _ (0,0) _ ahF (heap_alloc_new w _) Tryz.underlying113 rfl ahE) rfl ⟨rfl,(Below.refl _ _).alloc (Nat.le_refl _) _⟩
  . have O:=qh (BS hb i false (decide_eq_false I).symm);rw[dE I];clear h hb I Ks;go_enter func388,ntmps388;go_wp2_with (go_at_call 391;refine O.o.mono ?_;rintro e w' ⟨rfl,rfl⟩);exact bodyPost_ret (results_cell_row ahF _ _ w.heap.size 113 _ (0,0) _ ahF (heap_alloc_new w _) Tryz.underlying113 rfl ahE) rfl ⟨rfl,(Below.refl _ _).alloc (Nat.le_refl _) _⟩
end
end
section
open Go.RowKit
section
variable{B:Nat->Prop}{w:World}{a g:Nat}{X:SmX}{c:CoC}{st st':Co}{d d':Dr}{U:List Sp}{s':Ar}
def JC(h:aw 337 B BC w a g X c P T st d U):E 401 #[↑X.l] w λe w'=>e= returned (J T.length)/\w=w':=by have c6:=h.cs.2.2.2.2.2.2;clear h;go_enter func401,ntmps401;exact aaa
def BT(h:aw 337 B BC w a g X c P T st d U)(i:Int)(r:Bool)(I:r=decide (okI U i)):E 402 #[↑X.l,J i] w λe w'=>e= returned (.bool r)/\w=w':=by
 have HT:=qh (JC h);have Ks:=h.lU;clear h;by_cases h0:0<=i
 .by_cases h1:i<T.length;.refine akb ?_;intro e;subst e;clear I;go_enter func402,ntmps402;exact aad
  .have e:r=false:=(by rw[I];exact decide_eq_false (λk=>h1 aiF));subst e;clear I;go_enter func402,ntmps402;exact abO
 .have e:r=false:=by rw[I];exact decide_eq_false (λk=>h0 k.1)
  subst e;clear I;go_enter func402,ntmps402;exact aaa
def pE(h:aw 337 B BC w a g X c P T st d U)(i:Int):E 399 #[↑X.l,J i] w λe w'=>e= returned (aF (getS U i))/\Below w.heap.size w w':=by
  refine ajp ?_;intro hb H Kl Kp Ks;by_cases I:okI U i;. have O:=qh (BT hb i true (decide_eq_true I).symm);have hp:=dL I;obtain⟨p,Y⟩:=LE (getS U i);rw[<-Y]at hp ⊢;have c6:=h.cs.2.2.2.2.2.2;refine ai0 ?_;intro a0 a1 a2 a3;obtain⟨V,h1⟩:=id I;rw[Ks]at h1;obtain⟨n,rfl⟩:=Int.eq_ofNat_of_zero_le V;simp only[Int.toNat_natCast]at a0 a1 a2 a3;have t2:¬(n:Int)<0:=(by omega);have t4:n<T.length:=(by omega);clear h hb hp Y V h1 I Ks;go_enter func399,ntmps399;go_wp2_with (go_at_call 402;refine O.o.mono ?_;rintro e w' ⟨rfl,rfl⟩);exact bodyPost_ret (results_cell_row ahF _ _ w.heap.size 113 _ (0,0) _ ahF (heap_alloc_new w _) Tryz.underlying113 rfl ahE) rfl ⟨rfl,(Below.refl _ _).alloc (Nat.le_refl _) _⟩
  . have O:=qh (BT hb i false (decide_eq_false I).symm);rw[dE I];clear h hb I Ks;go_enter func399,ntmps399;go_wp2_with (go_at_call 402;refine O.o.mono ?_;rintro e w' ⟨rfl,rfl⟩);exact bodyPost_ret (results_cell_row ahF _ _ w.heap.size 113 _ (0,0) _ ahF (heap_alloc_new w _) Tryz.underlying113 rfl ahE) rfl ⟨rfl,(Below.refl _ _).alloc (Nat.le_refl _) _⟩
end
end
end Go.Proofs.YtglokdbiggbkjaaGreat
