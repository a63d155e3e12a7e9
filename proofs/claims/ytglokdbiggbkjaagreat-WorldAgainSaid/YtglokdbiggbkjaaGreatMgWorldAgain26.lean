/- Joined texts. -/
import Derived.Test.YtglokdbiggbkjaaGreatMgWorldAgain0
import Derived.Test.YtglokdbiggbkjaaGreatMgWorldAgain4
import Derived.Test.YtglokdbiggbkjaaGreatMgWorldAgain23
set_option linter.unusedVariables false
set_option linter.unusedSimpArgs false
set_option linter.defProp false
set_option maxRecDepth 100000
set_option maxHeartbeats 16000000
open Go.Proofs.Tryz
namespace Go.Proofs.YtglokdbiggbkjaaGreat
open Go.IntKind(i64)
open Go.Value(int bool slice agg tuple pointer)
open Go.Ending(returned)
open Go.Obj(cells)
variable{f:FuncId}{ty:TypeId}{a g:Nat}
section
open Go.RowKit
def Fh(ty:TypeId)(w:World)(a g:Nat)(s:Ar)(kg kl par:Nat)(bud:Int)(P T:List Int)(e:Ending)(w':World):Prop:=
 ∃(B BC:Nat->Prop) (X:SmX),e= returned (tuple #[↑X.l,J 0])/\aw ty B BC w' a g X (eZ kg kl par bud P T (smA s (ac P).length)) P T (bE kg kl par P T (smA s (ac P).length)) dr0 (List.replicate T.length Sp.zero)/\(∀i∈SmS a g X,i=a\/i=g\/w.heap.size<=i)/\aa [a,g] w w'/\∀i,i<w.heap.size\/w'.heap.size<=i->¬B i/\¬eQ X.x BC i/\i≠X.l/\i≠X.gg
inductive MdN:FuncId->TypeId->Prop
 |n:MdN 148 330
 |r:MdN 149 335
 |w:MdN 150 337
def Ix(K:MdN f ty){w:World}{s:Ar}(h:aB w a g s)(hs:s.W=[])(Lz:a≠g)(vP vT:Value)(P T:List Int)(hP:RdL w vP 1 encI P)(hT:RdL w vT 1 encI T)(Nr:∀i,vP.ownBlock=some i->i≠a/\i<w.heap.size)(PT:∀i,vT.ownBlock=some i->i≠a/\i<w.heap.size)(hc:a5 P T=0)(kg kl:Nat)(hG:KOk kg)(hL:KOk kl)(par:Nat)(hp:1<=par/\par<=4)(bud:Int)(I:0<=bud/\bud<=3)(V:s.room=4096)(Y:s.ops<=1000):Calls prog f #[pointer (some ⟨a,0,none⟩),agg #[vP,vT],agg #[J (kg:Int),J (kl:Int),J par,J bud]] w λe w'=>Fh ty w a g s kg kl par bud P T e w':=by
  obtain⟨i0,hi,J5,J7,J2⟩:=info_parts Tryz.infoSpF;have Kx:=bi (aQ hc).1;refine ajn ?_;intro Lq LM Mg Ma;have Mf:(ac P).length<=32:=by exact aax
  have PQ:1<=(ac P).length:=by exact aa3
  have LG:=qh (And.intro hG (And.intro hL (And.intro hp I)));have H:=qh (And.intro h (And.intro Lq (And.intro LM Lz)));have NO:=qh (And.intro (And.intro hP Nr) (And.intro hT PT));refine ajA ?_;intro HN KM;have HS:=qh (And.intro hs (And.intro V Y));refine aiV ?_;intro Kp B0 LK;rw[show(w.alloc (cells #[vP,vT] 24)).heap.size=w.heap.size+1 by simp]at LK;have OP:=(Blk.new w 24 #[vP,vT]).alloc (cells #[J (kg:Int),J (kl:Int),J par,J bud] 36);have BX:=qh (And.intro LK OP);clear h hP hT Nr PT hs V Y Kx Lq LM hc LK OP hG hL hp I Lz;cases K
  all_goals
    first| go_enter func148,ntmps148| go_enter func149,ntmps149| go_enter func150,ntmps150
    go_wp2_with fail;refine HN.o.mono ?_;rintro en w1 ⟨b,rfl,I,t1,b1⟩;rw[Kp]at I t1 b1;have tn:aa [] ((w.alloc (cells #[vP,vT] 24)).alloc (cells #[J (kg:Int),J (kl:Int),J par,J bud] 36)) w1:=⟨b1.os,b1.tape,b1.output,b1.size,λi hi _=>b1.block i ahp⟩;have O:=qh (And.intro (t1.q KM.o) (And.intro (B0.o.trans (b1.mono ahp)) (And.intro (tn.blk BX.o.1 ahq) (And.intro (tn.blk BX.o.2 ahq) I))));clear t1 b1 I HN BX B0 tn;go_wp2_with fail;refine LT (d9 _ _ _ _ (O.o.1.tab KM.o)) ?_;go_wp2_with (refine wpList_make_full _ rfl _ _ 237 rfl w1.heap.size 113 i0 (agg #[J 0,J 0,J 0,J 0]) 4 Tryz.underlying237 hi J5 J7 .i64 .i64 T.length T.length T.length rfl rfl rfl rfl ?b2 ?b3 (Nat.le_refl _) ?_);case b2=>rw[J2];omega
    case b3=>unfold maxLen;omega
    intro w4 r' hg;have I:dA w4 w1.heap.size (List.replicate T.length Sp.zero):=(by unfold dA;rw[vO];have:=gA r';have e:(madeCells #[Value.int .i64 0,J 0,J 0,J 0] (T.length*4)).toList=List.replicate (T.length*4) (J 0):=rB _ _;exact aa0);have t4:aa [] w1 w4:=aa.of_below ((Below.refl w1.heap.size w1).grown hg (Nat.le_refl _) (λj hj=>by cases hj));have LU:=I.lt;have H4:=qh (And.intro I (And.intro t4 LU));clear r' hg I t4 LU;go_upto_region 5 with fail;obtain⟨q,hq⟩:=LE w1.heap.size;rw[<-hq]at H4 ⊢;have HQ:=qh hq;clear hq;obtain⟨l,hl⟩:=LE w4.heap.size;generalize KV:w4.alloc (.cells _ _)=w5;replace KV:=KV.symm;rw[<-hl];have RD:=qh (show Blk w5 l _ #[pointer (some ⟨a,0,none⟩),↑b,.pointer none,.pointer none,J 0,.pointer none,slice (some ⟨q,0,none⟩) T.length T.length]from by rw[KV,hl];exact Blk.new _ _ _);have H5:=qh (show aa [] w1 w5 from by rw[KV];exact H4.o.2.1.alloc _);have Ti:=qh (show dA w5 q (List.replicate T.length Sp.zero)from by rw[KV];exact H4.o.1.turns (T:=[]) ((aa.refl _ _).alloc _) ahq)
    have HO:=qh (show a<w.heap.size/\g<w.heap.size/\a≠g/\w.heap.size+2<=b/\b<w1.heap.size/\w1.heap.size=q/\q<l/\w5.heap.size=l+1 from by
      have e1:b<w1.heap.size:=O.o.1.low.2;have e2:=O.o.2.2.2.2;have e3:=H4.o.2.2;have e4:=H.o;have e5:=HQ.o;rw[KV,hl];simp
      omega)
    have Od:Kq (∀W,aa [l,b,a] w5 W->(Z W (w.heap.size+1) 0 (J (kg:Int))/\Z W (w.heap.size+1) 1 (J (kl:Int))/\Z W (w.heap.size+1) 2 (J par)/\Z W (w.heap.size+1) 3 (J bud))/\(W.cell? w.heap.size=some vP/\Z W w.heap.size 1 vT)/\RdL W vP 1 encI P/\RdL W vT 1 encI T):=qh λW hW=>by
      have o:=HO.o;have t:aa [l,b,a] w1 W:=(H5.o.mono ahq).trans hW;have n:w.heap.size+1∉[l,b,a]:=(by simp;omega);have n2:w.heap.size∉[l,b,a]:=(by simp;omega);have b1:=t.blk O.o.2.2.1 n;have b2:=t.blk O.o.2.2.2.1 n2;refine⟨⟨b1.cell 0,b1.cell 1,b1.cell 2,b1.cell 3⟩,⟨b2.cell 0,b2.cell 1⟩,?_,?_⟩;. exact(NO.o.1.1.below O.o.2.1 (Nat.le_refl _)).turns t λi hi hm=>by have:=NO.o.1.2 i hi;simp at hm;omega
      . exact(NO.o.2.1.below O.o.2.1 (Nat.le_refl _)).turns t λi hi hm=>by have:=NO.o.2.2 i hi;simp at hm;omega
    obtain⟨N,hN⟩:=LE ((ac P).length);rw[<-hN]at Mf PQ;have Pf:=qi (λi=>w.heap.size+2<=i/\i<w1.heap.size) w5 b P T KM.o (O.o.1.turns H5.o ahq);rw[<-hN]at Pf;have Oc:=qh Pf;have LW:=qh hN;have SX:=qh ((H.o.1.turns (aa.of_below (S:=[]) O.o.2.1) ahq ahq).turns H5.o ahq ahq);clear KV hl hN Pf H4;go_wp2_with fail;refine Pi Oc.o λw6 t6=>?_;have Q6:=qh (And.intro t6.o.1.lt t6.o.2);have XC:=qh (SX.o.turns t6.o.2 ahy ahy);go_wp2_with fail;refine(Bs XC.o N PQ Mf HS.o.1 HS.o.2.1).mono ?_;rintro en w7 ⟨gg,rfl,Pr,Wi,Wh,t7⟩;have On:l∉[a]:=(by have:=HO.o;simp;omega);have MG:Blk w7 l _ _:=t7.blk (Q6.o.2.blk RD.o ahy) On;have YE:Z w7 l 2 (.pointer none):=MG.cell 2;have bA:=MG.free 2;have H7:=qh (And.intro Pr (And.intro Wi (And.intro Wh t7)));have US:=qh MG;clear Pr Wi Wh t7 MG;go_upto_region 6 with fail;obtain⟨w8,OA⟩:=LE (w7.setCell ⟨l,2,none⟩ ↑gg);rw[<-OA];have ds:l<w7.heap.size:=US.o.lt;have cu:l<gg:=(by have e1:=Q6.o.2.size;have e2:=H7.o.1;have e3:=HO.o;omega);have Oa:aa [l] w7 w8:=(by rw[OA];exact(aa.refl _ _).setCell (.inl ahq) _);have RE:=qh (show Blk w8 l _ #[pointer (some ⟨a,0,none⟩),↑b,↑gg,.pointer none,J 0,.pointer none,slice (some ⟨q,0,none⟩) T.length T.length]from by rw[OA];exact US.o.set_ 2 _);have UO:=qh (H7.o.2.2.1.turns Oa ahy ahy);have MD:=qh (Oa.blk H7.o.2.1 ahu);have Qp:=qh (show aa [l,b,a] w5 w8 from((Q6.o.2.mono ahq).trans (H7.o.2.2.2.mono ahq)).trans (Oa.mono ahq));have Ue:(bp s (2*N)).W.length=2*N:=(by unfold bp;rw[HS.o.1];simp);have ZF:l<w8.heap.size:=RE.o.lt;have UN:=qh Oa;clear OA YE bA Oa;have Tm:=mN UO.o 1 (by rw[Ue];show 2*N+1<=s.room;rw[HS.o.2.1];omega);rw[Ue]at Tm;have Vl:=qh Tm;clear Tm;go_wp2_with fail;refine Pi Vl.o λw9 k9=>?_;have L5:Blk w9 l _ _:=k9.o.2.blk RE.o On;have YF:Z w9 l 4 (J 0):=L5.cell 4;have bF:=L5.free 4;have H9:=qh (And.intro k9.o.1 (And.intro k9.o.2 L5));clear L5;go_upto_region 9 with fail;obtain⟨fl,ML⟩:∃f:Int,f=2*(N:Int)+1:=⟨_,rfl⟩;have Zn:((2*N:Nat):Int)+1=fl:=(by omega);obtain⟨w10,SH⟩:=LE (w9.setCell ⟨l,4,none⟩ (J fl));rw[<-ML,<-SH];have UL:aa [l] w9 w10:=(by rw[SH];exact(aa.refl _ _).setCell (.inl ahq) _);have UP:=qh (show Blk w10 l _ #[pointer (some ⟨a,0,none⟩),↑b,↑gg,.pointer none,J fl,.pointer none,slice (some ⟨q,0,none⟩) T.length T.length]from by rw[SH];exact H9.o.2.2.set_ 4 _);have Tl:=qh (show aa [l,a] w8 w10 from(H9.o.2.1.mono ahq).trans (UL.mono ahq));have XB:=qh (H9.o.1.turns UL ahy ahy);have Td:=qh (Od.o w10 (Qp.o.trans (Tl.o.mono ahq)));have Wt:(bp (bp s (2*N)) 1).W.length=2*N+1:=by show((bp s (2*N)).W++_).length=_;rw[List.length_append,Ue];simp
    have UW:=qh (n4 XB.o vP vT P T Td.o.2.2.1 Td.o.2.2.2 KM.o kg kl LG.o.1 LG.o.2.1 par LG.o.2.2.1 bud (by have:=LG.o.2.2.2;omega) (by
      show _<=s.room
      rw[Wt,HS.o.2.1];omega) (by rw[Wt];omega) (by show s.ops+100<=_;have:=HS.o.2.2;omega))
    obtain⟨⟨p0,p1,p2,p3⟩,⟨y0,y1⟩,_⟩:=Td.o;have HF:=qh ML;clear SH YF bF UL ML Zn Vl;go_wp2_with fail;refine UW.o.mono ?_;rintro en w11 ⟨xc,BC,rfl,Xh,Xl,UJ⟩;have ZY:l∉[a,g]:=(by have:=HO.o;simp;omega);have RV:Blk w11 l _ _:=UJ.blk UP.o ZY;have YA:Z w11 l 5 (.pointer none):=RV.cell 5;have ad:=RV.free 5;have MX:=qh (And.intro Xh (And.intro Xl (And.intro UJ RV)));clear Xh Xl UJ RV p0 p1 p2 p3 y0 y1 UW;go_upto_region 12 with fail;obtain⟨w12,SI⟩:=LE (w11.setCell ⟨l,5,none⟩ ↑xc.l);rw[<-SI];have Rt:aa [l] w11 w12:=(by rw[SI];exact(aa.refl _ _).setCell (.inl ahq) _);have SZ:=qh (show Blk w12 l _ #[pointer (some ⟨a,0,none⟩),↑b,↑gg,.pointer none,J fl,↑xc.l,slice (some ⟨q,0,none⟩) T.length T.length]from by rw[SI];exact MX.o.2.2.2.set_ 5 _);have Yj:=qh (show aa [l,a,g] w8 w12 from((Tl.o.mono ahq).trans (MX.o.2.2.1.mono ahq)).trans (Rt.mono ahq));have Wb:¬eQ xc BC l:=λI=>by have e1:=MX.o.2.1 l I;have e2:=UP.o.lt;omega
    have UU:=qh (MX.o.1.arAway Rt (s':=(bE kg kl par P T (bp (bp s (2*N)) 1)).s) (MX.o.1.ar.turns Rt ahy ahy) (λi hi=> .inr (.inr (by simp at hi;rw[hi];exact Wb))));have Yc:=qh (show w11.heap.size<=w12.heap.size from Rt.size);have g2:Z w12 l 2 ↑gg:=SZ.o.cell 2;have ZE:l<w12.heap.size:=SZ.o.lt;clear SI YA ad Rt;go_wp2_with fail;refine(FG w12 gg).mono ?_;rintro en w13 ⟨dd,rfl,PM,Vu,Sg⟩;have RW:Blk w13 l _ _:=SZ.o.below PM ZE;have cp:Z w13 l 3 (.pointer none):=RW.cell 3;have cV:=RW.free 3;have Mq:=qh (And.intro PM (And.intro RW (And.intro Vu Sg)));clear PM RW Vu Sg g2;go_wp2;go_ret2;have o:=HO.o;obtain⟨w14,P7⟩:=LE (w13.setCell ⟨l,3,none⟩ ↑dd);rw[<-P7];have SQ:aa [l] w12 w14:=(by rw[P7];exact(aa.of_below Mq.o.1).trans ((aa.refl _ _).setCell (.inl ahq) _));have UQ:=(show Blk w14 l _ #[pointer (some ⟨a,0,none⟩),↑b,↑gg,↑dd,J fl,↑xc.l,slice (some ⟨q,0,none⟩) T.length T.length]from by rw[P7];exact Mq.o.2.1.set_ 3 _);have Rw:aa [l,a,g] w8 w14:=Yj.o.trans (SQ.mono ahq)
    have Xy:aa [l,a,g] w6 w14:=((H7.o.2.2.2.mono ahq).trans (show aa [l,a,g] w7 w8 from by
      refine aa.mono ?_ (S:=[l]) ahq
      exact UN.o)).trans Rw
    have Sg:=Mq.o.2.2.2;have bP:=MX.o.2.2.1.size;have bT:=Yc.o;have ej:=Qp.o.size;have cM:=Tl.o.size;have ec:=H7.o.2.2.2.size;have ei:=UN.o.size;have g7:=H7.o.2.1.lt;have Xt:=Q6.o.2.size;have cv:=H7.o.1;have bw:aa [l] w13 w14:=(by rw[P7];exact(aa.refl _ _).setCell (.inl ahq) _);have Yz:=bw.blk Mq.o.2.2.1 ahu;have Wa:=UU.o.arAway SQ (s':=(bE kg kl par P T (bp (bp s (2*N)) 1)).s) (UU.o.ar.turns SQ ahu ahu) (λi hi=> .inr (.inr (by simp at hi;rw[hi];exact Wb)));have QR:∀i,eQ xc BC i->w10.heap.size<=i/\i<w11.heap.size:=MX.o.2.1
    have Kf:∀i∈CoS a g xc,i=a\/i=g\/(w10.heap.size<=i/\i<w11.heap.size):=λi hi=>by
      unfold CoS at hi;simp only[List.mem_cons]at hi;rcases hi with rfl|rfl|rfl|rfl|hi
      . exact .inl rfl
      . exact .inr (.inl rfl)
      . exact .inr (.inr (QR _ (.inr (.inr (.inl rfl)))))
      . exact .inr (.inr (QR _ (.inr (.inr (.inr (.inl (.inr (.inr rfl))))))))
      . obtain⟨y,hy,rfl⟩:=List.mem_map.1 hi;exact .inr (.inr (QR _ (.inr (.inr (.inr (.inr (.inl ⟨y,hy,.inr (.inr rfl)⟩)))))))
    have OV:∀q,¬(w10.heap.size<=q/\q<w11.heap.size)->¬eQ xc BC q:=λq hq I=>hq (QR q I);have ax:¬(((w.heap.size+2<=q/\q<w1.heap.size)\/w5.heap.size<=q)/\q<w6.heap.size):=(by omega);have al:¬(((w.heap.size+2<=dd/\dd<w1.heap.size)\/w5.heap.size<=dd)/\dd<w6.heap.size):=(by omega);have bW:=SQ.size;have cT:=Xy.size;have cU:=Rw.size;have ea:=UQ.lt;refine⟨λi=>((w.heap.size+2<=i/\i<w1.heap.size)\/w5.heap.size<=i)/\i<w6.heap.size,BC,⟨l,q,b,gg,dd,xc⟩,rfl,?_,λi hi=>?_,?_,λi hi=>⟨by show ¬(_/\_);omega,OV i ahp,by show i≠l;omega,by show i≠gg;omega⟩⟩
    . refine⟨?_,⟨?_,?_,Yz,by show(ac P).length<=32;rw[<-LW.o];exact Mf,⟨by show dd≠a;omega,by show dd≠g;omega,by show dd≠gg;omega⟩,⟨by show gg≠a;omega,by show gg≠g;omega⟩⟩,?_,?_,?_,by simp,λi hi=>?_,⟨OV q ahp,OV dd ahp⟩,⟨by show q≠l;omega,by show q≠gg;omega,by show q≠dd;omega,ax⟩,⟨by show dd≠l;omega,by show dd≠gg;omega,al⟩⟩;. show Blk w14 l _ (smC a ⟨l,q,b,gg,dd,xc⟩ (ac P).length T.length);rw[<-LW.o];unfold smC;show Blk w14 l _ #[pointer (some ⟨a,0,none⟩),↑b,↑gg,↑dd,J (2*(N:Int)+1),↑xc.l,slice (some ⟨q,0,none⟩) T.length T.length];have FL:fl=2*(N:Int)+1:=HF.o;rw[<-FL];exact UQ
      . rw[<-LW.o];exact Wa.ar
      . rw[<-LW.o];exact Rw.blk MD.o ahu
      . exact Q6.o.1.turns Xy λi hi hB=>by simp at hi;omega
      . exact⟨[],by rw[List.append_nil];exact(show Blk w14 q _ _ from(Ti.o.turns (Qp.o) ahu).turns Rw ahu)⟩
      . rw[<-LW.o];exact Wa
      . have hq:=Kf i hi;refine⟨?_,?_,?_,?_,?_⟩;. show i≠l;omega
        . show i≠q;omega
        . show i≠gg;omega
        . show i≠dd;omega
        . show ¬(_/\_);omega
    . unfold SmS at hi;simp only[List.mem_cons]at hi;rcases hi with hi|hi|hi
      . right;right;rw[hi];show w.heap.size<=q;omega
      . right;right;rw[hi];show w.heap.size<=dd;omega
      . have hq:=Kf i hi;omega
    . have bc:aa [a,g,l,b] w w5:=(aa.of_below (S:=[a,g,l,b]) O.o.2.1).trans (H5.o.mono ahq);have ab:aa [a,g,l,b] w w14:=(bc.trans (Qp.o.mono (by intro i hi;simp at hi ⊢;omega))).trans (Rw.mono (by intro i hi;simp at hi ⊢;omega));exact ab.fresh λi hi=>by simp at hi ⊢;omega
end
section
open Go.RowKit
variable{pt:TypeId}{md:Int}
def aw.foreign{B BC:Nat->Prop}{w:World}{q:Nat}{X:SmX}{c:CoC}{P T:List Int}{st:Co}{d:Dr}{U:List Sp}(h:aw ty B BC w a g X c P T st d U)(h1:¬B q/\¬eQ X.x BC q/\q≠X.l/\q≠X.gg)(H:q∉SmS a g X)(i:Nat)(u:Value):aw ty B BC (w.setCell ⟨q,i,none⟩ u) a g X c P T st d U:=by unfold SmS CoS at H;simp only[List.mem_cons,not_or]at H;have t:aa [q] w (w.setCell ⟨q,i,none⟩ u):=aV _ _ _;have O:=h.gd.ar.turns t (by simp;exact λe=>H.2.2.1 e.symm) (by simp;exact λe=>H.2.2.2.1 e.symm);have k:=h.co.arAway t (s':=st.s) O (λj I=> .inr (.inr (by simp at I;rw[I];exact h1.2.1)));exact {h with lk:=t.blk h.lk (by simp;exact λe=>h1.2.2.1 e.symm),gd:={h.gd with ar:=O,ga:=t.blk h.gd.ga (by simp;exact λe=>h1.2.2.2 e.symm),dr:=t.blk h.gd.dr (by simp;exact λe=>H.2.1 e.symm)},tb:=h.tb.turns t (λj I=>by simp at I;rw[I];exact h1.1),sp:=h.sp.turns t (by simp;exact λe=>H.1 e.symm),co:=k}
inductive MdR:Int->FuncId->TypeId->TypeId->Prop
 |n:MdR 1 148 330 274
 |r:MdR 2 149 335 277
 |w:MdR 3 150 337 280
def MdR.k(h:MdR md f ty pt):MdN f ty:=by cases h<;>constructor
def GU(ty pt:TypeId)(md:Int)(w:World)(a g:Nat)(s:Ar)(kg kl par:Nat)(bud:Int)(P T:List Int)(e:Ending)(w':World):Prop:=
 ∃(q:Nat) (B BC:Nat->Prop) (X:SmX),e= returned (tuple #[↑q,J 0])/\aw ty B BC w' a g X (eZ kg kl par bud P T (smA s (ac P).length)) P T (bE kg kl par P T (smA s (ac P).length)) dr0 (List.replicate T.length Sp.zero)/\(∀i∈SmS a g X,i=a\/i=g\/w.heap.size<=i)/\aa [a,g] w w'/\
  Blk w' q 273 #[J md,.iface pt ↑X.l]/\w.heap.size<=q/\q∉SmS a g X/\∀i,i<w.heap.size\/w'.heap.size<=i->¬B i/\¬eQ X.x BC i/\i≠X.l/\i≠X.gg
def Gr(K:MdR md f ty pt){w:World}{s:Ar}(h:aB w a g s)(hs:s.W=[])(Lz:a≠g)(H O:Value)(P T:List Int)(hP:RdL w H 1 encI P)(hT:RdL w O 1 encI T)(Nr:∀i,H.ownBlock=some i->i≠a/\i<w.heap.size)(PT:∀i,O.ownBlock=some i->i≠a/\i<w.heap.size)(hc:a5 P T=0)(kg kl:Nat)(hG:KOk kg)(hL:KOk kl)(par:Nat)(hp:1<=par/\par<=4)(bud:Int)(I:0<=bud/\bud<=3)(V:s.room=4096)(Y:s.ops<=1000):E 108 #[↑a,J md,agg #[H,O],agg #[J (kg:Int),J (kl:Int),J par,J bud]] w (GU ty pt md w a g s kg kl par bud P T):=by
  have Lq:=h.blk.lt;have LM:=h.wds.lt;obtain⟨wz,MW⟩:=LE (((w.alloc (cells #[H,O] 24)).alloc (cells #[J (kg:Int),J (kl:Int),J par,J bud] 36)).alloc (cells #[J md,.nilIface] 273));have Ki:wz.heap.size=w.heap.size+3:=by rw[MW];simp
  have HB:=qh (show Below w.heap.size w wz from by rw[MW];exact(((Below.refl w.heap.size w).alloc (Nat.le_refl _) _).alloc ahq _).alloc ahu _);have OP:Blk wz w.heap.size 24 #[H,O]:=by rw[MW];exact((Blk.new w 24 #[H,O]).alloc _).alloc _
  have OO:Blk wz (w.heap.size+1) 36 #[J (kg:Int),J (kl:Int),J par,J bud]:=by have h1:=Blk.new (w.alloc (cells #[H,O] 24)) 36 #[J (kg:Int),J (kl:Int),J par,J bud];rw[show(w.alloc (cells #[H,O] 24)).heap.size=w.heap.size+1 by simp]at h1;rw[MW];exact h1.alloc _
  have KP:Blk wz (w.heap.size+2) 273 #[J md,.nilIface]:=by have h1:=Blk.new ((w.alloc (cells #[H,O] 24)).alloc (cells #[J (kg:Int),J (kl:Int),J par,J bud] 36)) 273 #[J md,.nilIface];rw[show((w.alloc (cells #[H,O] 24)).alloc (cells #[J (kg:Int),J (kl:Int),J par,J bud] 36)).heap.size=w.heap.size+2 by simp]at h1;rw[MW];exact h1
  have HN:=qh (Ix K.k (h.turns (S:=[]) (aa.of_below HB.o) ahq ahq) hs Lz H O P T (hP.below HB.o (Nat.le_refl _)) (hT.below HB.o (Nat.le_refl _)) (λi hi=>⟨(Nr i hi).1,by have:=(Nr i hi).2;omega⟩) (λi hi=>⟨(PT i hi).1,by have:=(PT i hi).2;omega⟩) hc kg kl hG hL par hp bud I V Y);have HX:=qh (And.intro OP (And.intro OO KP));have HS:=qh (And.intro Lq LM);clear h hs Lz hP hT Nr PT hc hG hL hp I V Y OP OO KP;obtain⟨V0,VW⟩:∃V0:Nat->Value,∀x,V0 x= .iface pt (pointer (some ⟨x,0,none⟩)):=⟨_,λ_=>rfl⟩;cases K
  all_goals
    go_enter func108,ntmps108;go_upto_region 2 with fail;rw[<-MW];clear MW;have f0:wz.cell? w.heap.size=some H:=HX.o.1.cell 0;have f1:Z wz w.heap.size 1 O:=HX.o.1.cell 1;have p0:Z wz (w.heap.size+1) 0 (J (kg:Int)):=HX.o.2.1.cell 0;have p1:Z wz (w.heap.size+1) 1 (J (kl:Int)):=HX.o.2.1.cell 1;have p2:Z wz (w.heap.size+1) 2 (J par):=HX.o.2.1.cell 2;have p3:Z wz (w.heap.size+1) 3 (J bud):=HX.o.2.1.cell 3;go_wp2_with fail;refine HN.o.mono ?_;rintro en w3 ⟨B,BC,X,rfl,k3,hS,t3,n3⟩;have Mh:Blk w3 (w.heap.size+2) 273 #[_,.nilIface]:=t3.blk HX.o.2.2 (by have:=HS.o;simp;omega);have qn:w.heap.size+2∉SmS a g X:=λhm=>by have:=hS _ hm;have:=HS.o;omega
    have z1:=Mh.free 1;have e1:=Mh.cell 1;have HK:=qh (And.intro (k3.foreign (n3 (w.heap.size+2) ahp) qn 1 (V0 X.l)) (And.intro hS (And.intro (Mh.set_ 1 (V0 X.l)) (And.intro qn n3))));rw[VW]at HK;have HT:=qh t3;clear k3 hS t3 n3 Mh qn HN f0 f1 p0 p1 p2 p3;go_wp2;go_ret2;refine⟨w.heap.size+2,B,BC,X,rfl,HK.o.1,λi hi=>?_,?_,HK.o.2.2.1,by omega,HK.o.2.2.2.1,λi hi=>HK.o.2.2.2.2 i (hi.elim (λz=> .inl ahp) λz=> .inr (by simpa using z))⟩;. have:=HK.o.2.1 i hi;omega
    . rw[<-VW X.l];have t9:aa [a,g,w.heap.size+2] w (w3.setCell ⟨w.heap.size+2,1,none⟩ (V0 X.l)):=((aa.of_below HB.o).trans (HT.o.mono ahq)).setCell (.inl ahq) _;exact t9.fresh λi hi=>by simp at hi ⊢;omega
end
end Go.Proofs.YtglokdbiggbkjaaGreat
