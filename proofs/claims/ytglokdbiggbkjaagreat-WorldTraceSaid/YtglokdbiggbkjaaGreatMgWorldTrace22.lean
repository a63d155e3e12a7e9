/- Joined texts. -/
import Derived.Test.YtglokdbiggbkjaaGreatMgWorldTrace0
import Derived.Test.YtglokdbiggbkjaaGreatMgWorldTrace5
import Derived.Test.YtglokdbiggbkjaaGreatMgWorldTrace21
set_option linter.unusedVariables false
set_option linter.unusedSimpArgs false
set_option linter.defProp false
set_option maxRecDepth 100000
set_option maxHeartbeats 16000000
open Go.Proofs.Tryz
namespace Go.Proofs.YtglokdbiggbkjaaGreat
open Go.IntKind(i64)
open Go.Value(int bool slice agg tuple pointer)
open Go.Ending(returned)
open Go.Obj(cells)
variable{B BC:Nat->Prop}{w':World}{a g:Nat}{P T:List Int}{f:FuncId}{ty:TypeId}
section
open Go.RowKit
section
variable{w:World}{X:SmX}{c:CoC}{st st':Co}{d d':Dr}{U:List Sp}{s':Ar}
def JC(h:aw 335 B BC w a g X c P T st d U):E 390 #[↑X.l] w λe w'=>e= returned (J T.length)/\w=w':=by have c6:=h.cs.2.2.2.2.2.2;clear h;go_enter func390,ntmps390;exact aab
def BH(h:aw 335 B BC w a g X c P T st d U)(i:Int)(r:Bool)(V:r=decide (okI U i)):E 391 #[↑X.l,J i] w λe w'=>e= returned (.bool r)/\w=w':=by
 have HT:=qh (JC h);have Ku:=h.lU;clear h;by_cases h0:0<=i
 .by_cases h1:i<T.length;.refine akf ?_;intro e;subst e;clear V;go_enter func391,ntmps391;exact aae
  .have e:r=false:=(by rw[V];exact decide_eq_false (λk=>h1 aiC));subst e;clear V;go_enter func391,ntmps391;exact abL
 .have e:r=false:=by rw[V];exact decide_eq_false (λk=>h0 k.1)
  subst e;clear V;go_enter func391,ntmps391;exact aab
def pF(h:aw 335 B BC w a g X c P T st d U)(i:Int):E 388 #[↑X.l,J i] w λe w'=>e= returned (aC (getS U i))/\Below w.heap.size w w':=by
  refine ajo ?_;intro I H Kl Ko Ku;by_cases O:okI U i;. have V:=qh (BH I i true (decide_eq_true O).symm);have hp:=dM O;obtain⟨p,i'⟩:=LE (getS U i);rw[<-i']at hp ⊢;have c6:=h.cs.2.2.2.2.2.2;refine aiX ?_;intro a0 a1 a2 a3;obtain⟨Y,h1⟩:=id O;rw[Ku]at h1;obtain⟨n,rfl⟩:=Int.eq_ofNat_of_zero_le Y;simp only[Int.toNat_natCast]at a0 a1 a2 a3;have t2:¬(n:Int)<0:=(by omega);have t4:n<T.length:=(by omega);clear h I hp i' Y h1 O Ku;go_enter func388,ntmps388;go_wp2_with (go_at_call 391;refine V.o.mono ?_;rintro e w' ⟨rfl,rfl⟩);exact bodyPost_ret (results_cell_row ahC _ _ w.heap.size 113 _ (0,0) _ ahC (heap_alloc_new w _) Tryz.underlying113 rfl ahB) rfl ⟨rfl,(Below.refl _ _).alloc (Nat.le_refl _) _⟩
  . have V:=qh (BH I i false (decide_eq_false O).symm);rw[dF O];clear h I O Ku;go_enter func388,ntmps388;go_wp2_with (go_at_call 391;refine V.o.mono ?_;rintro e w' ⟨rfl,rfl⟩);exact bodyPost_ret (results_cell_row ahC _ _ w.heap.size 113 _ (0,0) _ ahC (heap_alloc_new w _) Tryz.underlying113 rfl ahB) rfl ⟨rfl,(Below.refl _ _).alloc (Nat.le_refl _) _⟩
end
end
section
open Go.RowKit
section
variable{w:World}{X:SmX}{c:CoC}{st st':Co}{d d':Dr}{U:List Sp}{s':Ar}
def JD(h:aw 337 B BC w a g X c P T st d U):E 401 #[↑X.l] w λe w'=>e= returned (J T.length)/\w=w':=by have c6:=h.cs.2.2.2.2.2.2;clear h;go_enter func401,ntmps401;exact aab
def BI(h:aw 337 B BC w a g X c P T st d U)(i:Int)(r:Bool)(V:r=decide (okI U i)):E 402 #[↑X.l,J i] w λe w'=>e= returned (.bool r)/\w=w':=by
 have HT:=qh (JD h);have Ku:=h.lU;clear h;by_cases h0:0<=i
 .by_cases h1:i<T.length;.refine akf ?_;intro e;subst e;clear V;go_enter func402,ntmps402;exact aae
  .have e:r=false:=(by rw[V];exact decide_eq_false (λk=>h1 aiC));subst e;clear V;go_enter func402,ntmps402;exact abL
 .have e:r=false:=by rw[V];exact decide_eq_false (λk=>h0 k.1)
  subst e;clear V;go_enter func402,ntmps402;exact aab
def pG(h:aw 337 B BC w a g X c P T st d U)(i:Int):E 399 #[↑X.l,J i] w λe w'=>e= returned (aC (getS U i))/\Below w.heap.size w w':=by
  refine ajo ?_;intro I H Kl Ko Ku;by_cases O:okI U i;. have V:=qh (BI I i true (decide_eq_true O).symm);have hp:=dM O;obtain⟨p,i'⟩:=LE (getS U i);rw[<-i']at hp ⊢;have c6:=h.cs.2.2.2.2.2.2;refine aiX ?_;intro a0 a1 a2 a3;obtain⟨Y,h1⟩:=id O;rw[Ku]at h1;obtain⟨n,rfl⟩:=Int.eq_ofNat_of_zero_le Y;simp only[Int.toNat_natCast]at a0 a1 a2 a3;have t2:¬(n:Int)<0:=(by omega);have t4:n<T.length:=(by omega);clear h I hp i' Y h1 O Ku;go_enter func399,ntmps399;go_wp2_with (go_at_call 402;refine V.o.mono ?_;rintro e w' ⟨rfl,rfl⟩);exact bodyPost_ret (results_cell_row ahC _ _ w.heap.size 113 _ (0,0) _ ahC (heap_alloc_new w _) Tryz.underlying113 rfl ahB) rfl ⟨rfl,(Below.refl _ _).alloc (Nat.le_refl _) _⟩
  . have V:=qh (BI I i false (decide_eq_false O).symm);rw[dF O];clear h I O Ku;go_enter func399,ntmps399;go_wp2_with (go_at_call 402;refine V.o.mono ?_;rintro e w' ⟨rfl,rfl⟩);exact bodyPost_ret (results_cell_row ahC _ _ w.heap.size 113 _ (0,0) _ ahC (heap_alloc_new w _) Tryz.underlying113 rfl ahB) rfl ⟨rfl,(Below.refl _ _).alloc (Nat.le_refl _) _⟩
end
end
section
open Go.RowKit
def Fv(ty:TypeId)(w:World)(a g:Nat)(s:Ar)(kg kl par:Nat)(bud:Int)(P T:List Int)(e:Ending)(w':World):Prop:=
 ∃(B BC:Nat->Prop) (X:SmX),e= returned (tuple #[↑X.l,J 0])/\aw ty B BC w' a g X (fi kg kl par bud P T (smA s (ac P).length)) P T (bJ kg kl par P T (smA s (ac P).length)) dr0 (List.replicate T.length Sp.zero)/\(∀i∈SmS a g X,i=a\/i=g\/w.heap.size<=i)/\aa [a,g] w w'/\∀i,i<w.heap.size\/w'.heap.size<=i->¬B i/\¬eX X.x BC i/\i≠X.l/\i≠X.gg
inductive MdN:FuncId->TypeId->Prop
 |n:MdN 148 330
 |r:MdN 149 335
 |w:MdN 150 337
def IJ(K:MdN f ty){w:World}{s:Ar}(h:aB w a g s)(hs:s.W=[])(L4:a≠g)(vP vT:Value)(P T:List Int)(hP:RdL w vP 1 encI P)(hT:RdL w vT 1 encI T)(NO:∀i,vP.ownBlock=some i->i≠a/\i<w.heap.size)(Qb:∀i,vT.ownBlock=some i->i≠a/\i<w.heap.size)(hc:a5 P T=0)(kg kl:Nat)(hG:KOk kg)(hL:KOk kl)(par:Nat)(hp:1<=par/\par<=4)(bud:Int)(I:0<=bud/\bud<=3)(V:s.room=4096)(Y:s.ops<=1000):Calls prog f #[pointer (some ⟨a,0,none⟩),agg #[vP,vT],agg #[J (kg:Int),J (kl:Int),J par,J bud]] w λe w'=>Fv ty w a g s kg kl par bud P T e w':=by
  obtain⟨i0,hi,Kt,Kv,al⟩:=info_parts Tryz.infoSpF;have KY:=bj (aR hc).1;refine ajz ?_;intro LV Me MG Mz;have MF:(ac P).length<=32:=by exact aaz
  have O6:1<=(ac P).length:=by exact aa5
  have L8:=qh (And.intro hG (And.intro hL (And.intro hp I)));have H:=qh (And.intro h (And.intro LV (And.intro Me L4)));have Od:=qh (And.intro (And.intro hP NO) (And.intro hT Qb));refine ajN ?_;intro HN Ll;have HS:=qh (And.intro hs (And.intro V Y));refine ai7 ?_;intro hlo B0 Mb;rw[show(w.alloc (cells #[vP,vT] 24)).heap.size=w.heap.size+1 by simp]at Mb;have Pc:=(Blk.new w 24 #[vP,vT]).alloc (cells #[J (kg:Int),J (kl:Int),J par,J bud] 36);have BX:=qh (And.intro Mb Pc);clear h hP hT NO Qb hs V Y KY LV Me hc Mb Pc hG hL hp I L4;cases K
  all_goals
    first| go_enter func148,ntmps148| go_enter func149,ntmps149| go_enter func150,ntmps150
    go_wp2_with fail;refine HN.o.mono ?_;rintro en w1 ⟨b,rfl,I,t1,b1⟩;rw[hlo]at I t1 b1;have tn:aa [] ((w.alloc (cells #[vP,vT] 24)).alloc (cells #[J (kg:Int),J (kl:Int),J par,J bud] 36)) w1:=⟨b1.os,b1.tape,b1.output,b1.size,λi hi _=>b1.block i ahy⟩;have O:=qh (And.intro (t1.q Ll.o) (And.intro (B0.o.trans (b1.mono ahy)) (And.intro (tn.blk BX.o.1 ahz) (And.intro (tn.blk BX.o.2 ahz) I))));clear t1 b1 I HN BX B0 tn;go_wp2_with fail;refine LT (eg _ _ _ _ (O.o.1.tab Ll.o)) ?_;go_wp2_with (refine wpList_make_full _ rfl _ _ 237 rfl w1.heap.size 113 i0 (agg #[J 0,J 0,J 0,J 0]) 4 Tryz.underlying237 hi Kt Kv .i64 .i64 T.length T.length T.length rfl rfl rfl rfl ?b2 ?b3 (Nat.le_refl _) ?_);case b2=>rw[al];omega
    case b3=>unfold maxLen;omega
    intro w4 r' hg;have I:dE w4 w1.heap.size (List.replicate T.length Sp.zero):=(by unfold dE;rw[wj];have:=fY r';have e:(madeCells #[Value.int .i64 0,J 0,J 0,J 0] (T.length*4)).toList=List.replicate (T.length*4) (J 0):=rU _ _;exact aa2);have t4:aa [] w1 w4:=aa.of_below ((Below.refl w1.heap.size w1).grown hg (Nat.le_refl _) (λj hj=>by cases hj));have Ml:=I.lt;have H4:=qh (And.intro I (And.intro t4 Ml));clear r' hg I t4 Ml;go_upto_region 5 with fail;obtain⟨q,hq⟩:=LE w1.heap.size;rw[<-hq]at H4 ⊢;have HQ:=qh hq;clear hq;obtain⟨l,hl⟩:=LE w4.heap.size;generalize Lt:w4.alloc (.cells _ _)=w5;replace Lt:=Lt.symm;rw[<-hl];have R4:=qh (show Blk w5 l _ #[pointer (some ⟨a,0,none⟩),↑b,.pointer none,.pointer none,J 0,.pointer none,slice (some ⟨q,0,none⟩) T.length T.length]from by rw[Lt,hl];exact Blk.new _ _ _);have H5:=qh (show aa [] w1 w5 from by rw[Lt];exact H4.o.2.1.alloc _);have TD:=qh (show dE w5 q (List.replicate T.length Sp.zero)from by rw[Lt];exact H4.o.1.turns (T:=[]) ((aa.refl _ _).alloc _) ahz)
    have HO:=qh (show a<w.heap.size/\g<w.heap.size/\a≠g/\w.heap.size+2<=b/\b<w1.heap.size/\w1.heap.size=q/\q<l/\w5.heap.size=l+1 from by
      have e1:b<w1.heap.size:=O.o.1.low.2;have e2:=O.o.2.2.2.2;have e3:=H4.o.2.2;have e4:=H.o;have e5:=HQ.o;rw[Lt,hl];simp
      omega)
    have OC:Kq (∀W,aa [l,b,a] w5 W->(Z W (w.heap.size+1) 0 (J (kg:Int))/\Z W (w.heap.size+1) 1 (J (kl:Int))/\Z W (w.heap.size+1) 2 (J par)/\Z W (w.heap.size+1) 3 (J bud))/\(W.cell? w.heap.size=some vP/\Z W w.heap.size 1 vT)/\RdL W vP 1 encI P/\RdL W vT 1 encI T):=qh λW hW=>by
      have o:=HO.o;have t:aa [l,b,a] w1 W:=(H5.o.mono ahz).trans hW;have n:w.heap.size+1∉[l,b,a]:=(by simp;omega);have n2:w.heap.size∉[l,b,a]:=(by simp;omega);have b1:=t.blk O.o.2.2.1 n;have b2:=t.blk O.o.2.2.2.1 n2;refine⟨⟨b1.cell 0,b1.cell 1,b1.cell 2,b1.cell 3⟩,⟨b2.cell 0,b2.cell 1⟩,?_,?_⟩;. exact(Od.o.1.1.below O.o.2.1 (Nat.le_refl _)).turns t λi hi hm=>by have:=Od.o.1.2 i hi;simp at hm;omega
      . exact(Od.o.2.1.below O.o.2.1 (Nat.le_refl _)).turns t λi hi hm=>by have:=Od.o.2.2 i hi;simp at hm;omega
    obtain⟨N,hN⟩:=LE ((ac P).length);rw[<-hN]at MF O6;have PD:=qB (λi=>w.heap.size+2<=i/\i<w1.heap.size) w5 b P T Ll.o (O.o.1.turns H5.o ahz);rw[<-hN]at PD;have OB:=qh PD;have ME:=qh hN;have Ti:=qh ((H.o.1.turns (aa.of_below (S:=[]) O.o.2.1) ahz ahz).turns H5.o ahz ahz);clear Lt hl hN PD H4;go_wp2_with fail;refine Pi OB.o λw6 t6=>?_;have Q6:=qh (And.intro t6.o.1.lt t6.o.2);have XQ:=qh (Ti.o.turns t6.o.2 ahH ahH);go_wp2_with fail;refine(BF XQ.o N O6 MF HS.o.1 HS.o.2.1).mono ?_;rintro en w7 ⟨gg,rfl,PM,WE,WD,t7⟩;have OK:l∉[a]:=(by have:=HO.o;simp;omega);have M7:Blk w7 l _ _:=t7.blk (Q6.o.2.blk R4.o ahH) OK;have YQ:Z w7 l 2 (.pointer none):=M7.cell 2;have bA:=M7.free 2;have H7:=qh (And.intro PM (And.intro WE (And.intro WD t7)));have Vf:=qh M7;clear PM WE WD t7 M7;go_upto_region 6 with fail;obtain⟨w8,OS⟩:=LE (w7.setCell ⟨l,2,none⟩ ↑gg);rw[<-OS];have ds:l<w7.heap.size:=Vf.o.lt;have cu:l<gg:=(by have e1:=Q6.o.2.size;have e2:=H7.o.1;have e3:=HO.o;omega);have Oy:aa [l] w7 w8:=(by rw[OS];exact(aa.refl _ _).setCell (.inl ahz) _);have R7:=qh (show Blk w8 l _ #[pointer (some ⟨a,0,none⟩),↑b,↑gg,.pointer none,J 0,.pointer none,slice (some ⟨q,0,none⟩) T.length T.length]from by rw[OS];exact Vf.o.set_ 2 _);have Vb:=qh (H7.o.2.2.1.turns Oy ahH ahH);have M4:=qh (Oy.blk H7.o.2.1 ahD);have QP:=qh (show aa [l,b,a] w5 w8 from((Q6.o.2.mono ahz).trans (H7.o.2.2.2.mono ahz)).trans (Oy.mono ahz));have Uz:(bD s (2*N)).W.length=2*N:=(by unfold bD;rw[HS.o.1];simp);have ZI:l<w8.heap.size:=R7.o.lt;have Va:=qh Oy;clear OS YQ bA Oy;have TH:=ni Vb.o 1 (by rw[Uz];show 2*N+1<=s.room;rw[HS.o.2.1];omega);rw[Uz]at TH;have VJ:=qh TH;clear TH;go_wp2_with fail;refine Pi VJ.o λw9 k9=>?_;have Mt:Blk w9 l _ _:=k9.o.2.blk R7.o OK;have YR:Z w9 l 4 (J 0):=Mt.cell 4;have bF:=Mt.free 4;have H9:=qh (And.intro k9.o.1 (And.intro k9.o.2 Mt));clear Mt;go_upto_region 9 with fail;obtain⟨fl,Na⟩:∃f:Int,f=2*(N:Int)+1:=⟨_,rfl⟩;have Zt:((2*N:Nat):Int)+1=fl:=(by omega);obtain⟨w10,S3⟩:=LE (w9.setCell ⟨l,4,none⟩ (J fl));rw[<-Na,<-S3];have U8:aa [l] w9 w10:=(by rw[S3];exact(aa.refl _ _).setCell (.inl ahz) _);have Vc:=qh (show Blk w10 l _ #[pointer (some ⟨a,0,none⟩),↑b,↑gg,.pointer none,J fl,.pointer none,slice (some ⟨q,0,none⟩) T.length T.length]from by rw[S3];exact H9.o.2.2.set_ 4 _);have TG:=qh (show aa [l,a] w8 w10 from(H9.o.2.1.mono ahz).trans (U8.mono ahz));have XP:=qh (H9.o.1.turns U8 ahH ahH);have Ty:=qh (OC.o w10 (QP.o.trans (TG.o.mono ahz)));have WO:(bD (bD s (2*N)) 1).W.length=2*N+1:=by show((bD s (2*N)).W++_).length=_;rw[List.length_append,Uz];simp
    have Vj:=qh (oE XP.o vP vT P T Ty.o.2.2.1 Ty.o.2.2.2 Ll.o kg kl L8.o.1 L8.o.2.1 par L8.o.2.2.1 bud (by have:=L8.o.2.2.2;omega) (by
      show _<=s.room
      rw[WO,HS.o.2.1];omega) (by rw[WO];omega) (by show s.ops+100<=_;have:=HS.o.2.2;omega))
    obtain⟨⟨p0,p1,p2,p3⟩,⟨y0,y1⟩,_⟩:=Ty.o;have HF:=qh Na;clear S3 YR bF U8 Na Zt VJ;go_wp2_with fail;refine Vj.o.mono ?_;rintro en w11 ⟨xc,BC,rfl,Xw,XA,U6⟩;have Z1:l∉[a,g]:=(by have:=HO.o;simp;omega);have Sl:Blk w11 l _ _:=U6.blk Vc.o Z1;have YM:Z w11 l 5 (.pointer none):=Sl.cell 5;have ad:=Sl.free 5;have Px:=qh (And.intro Xw (And.intro XA (And.intro U6 Sl)));clear Xw XA U6 Sl p0 p1 p2 p3 y0 y1 Vj;go_upto_region 12 with fail;obtain⟨w12,S4⟩:=LE (w11.setCell ⟨l,5,none⟩ ↑xc.l);rw[<-S4];have RU:aa [l] w11 w12:=(by rw[S4];exact(aa.refl _ _).setCell (.inl ahz) _);have Tk:=qh (show Blk w12 l _ #[pointer (some ⟨a,0,none⟩),↑b,↑gg,.pointer none,J fl,↑xc.l,slice (some ⟨q,0,none⟩) T.length T.length]from by rw[S4];exact Px.o.2.2.2.set_ 5 _);have Yv:=qh (show aa [l,a,g] w8 w12 from((TG.o.mono ahz).trans (Px.o.2.2.1.mono ahz)).trans (RU.mono ahz));have Wy:¬eX xc BC l:=λI=>by have e1:=Px.o.2.1 l I;have e2:=Vc.o.lt;omega
    have Vh:=qh (Px.o.1.arAway RU (s':=(bJ kg kl par P T (bD (bD s (2*N)) 1)).s) (Px.o.1.ar.turns RU ahH ahH) (λi hi=> .inr (.inr (by simp at hi;rw[hi];exact Wy))));have Yp:=qh (show w11.heap.size<=w12.heap.size from RU.size);have g2:Z w12 l 2 ↑gg:=Tk.o.cell 2;have ZH:l<w12.heap.size:=Tk.o.lt;clear S4 YM ad RU;go_wp2_with fail;refine(FV w12 gg).mono ?_;rintro en w13 ⟨dd,rfl,TQ,VS,SB⟩;have Sm:Blk w13 l _ _:=Tk.o.below TQ ZH;have cp:Z w13 l 3 (.pointer none):=Sm.cell 3;have cV:=Sm.free 3;have N9:=qh (And.intro TQ (And.intro Sm (And.intro VS SB)));clear TQ Sm VS SB g2;go_wp2;go_ret2;have o:=HO.o;obtain⟨w14,Qv⟩:=LE (w13.setCell ⟨l,3,none⟩ ↑dd);rw[<-Qv];have Tc:aa [l] w12 w14:=(by rw[Qv];exact(aa.of_below N9.o.1).trans ((aa.refl _ _).setCell (.inl ahz) _));have Vd:=(show Blk w14 l _ #[pointer (some ⟨a,0,none⟩),↑b,↑gg,↑dd,J fl,↑xc.l,slice (some ⟨q,0,none⟩) T.length T.length]from by rw[Qv];exact N9.o.2.1.set_ 3 _);have RX:aa [l,a,g] w8 w14:=Yv.o.trans (Tc.mono ahz)
    have XM:aa [l,a,g] w6 w14:=((H7.o.2.2.2.mono ahz).trans (show aa [l,a,g] w7 w8 from by
      refine aa.mono ?_ (S:=[l]) ahz
      exact Va.o)).trans RX
    have SB:=N9.o.2.2.2;have bP:=Px.o.2.2.1.size;have bT:=Yp.o;have ei:=QP.o.size;have cM:=TG.o.size;have eb:=H7.o.2.2.2.size;have ec:=Va.o.size;have g7:=H7.o.2.1.lt;have XH:=Q6.o.2.size;have cv:=H7.o.1;have bw:aa [l] w13 w14:=(by rw[Qv];exact(aa.refl _ _).setCell (.inl ahz) _);have YL:=bw.blk N9.o.2.2.1 ahD;have Wx:=Vh.o.arAway Tc (s':=(bJ kg kl par P T (bD (bD s (2*N)) 1)).s) (Vh.o.ar.turns Tc ahD ahD) (λi hi=> .inr (.inr (by simp at hi;rw[hi];exact Wy)));have Sy:∀i,eX xc BC i->w10.heap.size<=i/\i<w11.heap.size:=Px.o.2.1
    have KM:∀i∈CoS a g xc,i=a\/i=g\/(w10.heap.size<=i/\i<w11.heap.size):=λi hi=>by
      unfold CoS at hi;simp only[List.mem_cons]at hi;rcases hi with rfl|rfl|rfl|rfl|hi
      . exact .inl rfl
      . exact .inr (.inl rfl)
      . exact .inr (.inr (Sy _ (.inr (.inr (.inl rfl)))))
      . exact .inr (.inr (Sy _ (.inr (.inr (.inr (.inl (.inr (.inr rfl))))))))
      . obtain⟨y,hy,rfl⟩:=List.mem_map.1 hi;exact .inr (.inr (Sy _ (.inr (.inr (.inr (.inr (.inl ⟨y,hy,.inr (.inr rfl)⟩)))))))
    have Pm:∀q,¬(w10.heap.size<=q/\q<w11.heap.size)->¬eX xc BC q:=λq hq I=>hq (Sy q I);have ba:¬(((w.heap.size+2<=q/\q<w1.heap.size)\/w5.heap.size<=q)/\q<w6.heap.size):=(by omega);have ax:¬(((w.heap.size+2<=dd/\dd<w1.heap.size)\/w5.heap.size<=dd)/\dd<w6.heap.size):=(by omega);have bW:=Tc.size;have cT:=XM.size;have cU:=RX.size;have ea:=Vd.lt;refine⟨λi=>((w.heap.size+2<=i/\i<w1.heap.size)\/w5.heap.size<=i)/\i<w6.heap.size,BC,⟨l,q,b,gg,dd,xc⟩,rfl,?_,λi hi=>?_,?_,λi hi=>⟨by show ¬(_/\_);omega,Pm i ahy,by show i≠l;omega,by show i≠gg;omega⟩⟩
    . refine⟨?_,⟨?_,?_,YL,by show(ac P).length<=32;rw[<-ME.o];exact MF,⟨by show dd≠a;omega,by show dd≠g;omega,by show dd≠gg;omega⟩,⟨by show gg≠a;omega,by show gg≠g;omega⟩⟩,?_,?_,?_,by simp,λi hi=>?_,⟨Pm q ahy,Pm dd ahy⟩,⟨by show q≠l;omega,by show q≠gg;omega,by show q≠dd;omega,ba⟩,⟨by show dd≠l;omega,by show dd≠gg;omega,ax⟩⟩;. show Blk w14 l _ (smC a ⟨l,q,b,gg,dd,xc⟩ (ac P).length T.length);rw[<-ME.o];unfold smC;show Blk w14 l _ #[pointer (some ⟨a,0,none⟩),↑b,↑gg,↑dd,J (2*(N:Int)+1),↑xc.l,slice (some ⟨q,0,none⟩) T.length T.length];have FL:fl=2*(N:Int)+1:=HF.o;rw[<-FL];exact Vd
      . rw[<-ME.o];exact Wx.ar
      . rw[<-ME.o];exact RX.blk M4.o ahD
      . exact Q6.o.1.turns XM λi hi hB=>by simp at hi;omega
      . exact⟨[],by rw[List.append_nil];exact(show Blk w14 q _ _ from(TD.o.turns (QP.o) ahD).turns RX ahD)⟩
      . rw[<-ME.o];exact Wx
      . have hq:=KM i hi;refine⟨?_,?_,?_,?_,?_⟩;. show i≠l;omega
        . show i≠q;omega
        . show i≠gg;omega
        . show i≠dd;omega
        . show ¬(_/\_);omega
    . unfold SmS at hi;simp only[List.mem_cons]at hi;rcases hi with hi|hi|hi
      . right;right;rw[hi];show w.heap.size<=q;omega
      . right;right;rw[hi];show w.heap.size<=dd;omega
      . have hq:=KM i hi;omega
    . have bc:aa [a,g,l,b] w w5:=(aa.of_below (S:=[a,g,l,b]) O.o.2.1).trans (H5.o.mono ahz);have ab:aa [a,g,l,b] w w14:=(bc.trans (QP.o.mono (by intro i hi;simp at hi ⊢;omega))).trans (RX.mono (by intro i hi;simp at hi ⊢;omega));exact ab.fresh λi hi=>by simp at hi ⊢;omega
end
section
open Go.RowKit
variable{pt:TypeId}{md:Int}
def aw.foreign{w:World}{q:Nat}{X:SmX}{c:CoC}{st:Co}{d:Dr}{U:List Sp}(h:aw ty B BC w a g X c P T st d U)(h1:¬B q/\¬eX X.x BC q/\q≠X.l/\q≠X.gg)(H:q∉SmS a g X)(i:Nat)(u:Value):aw ty B BC (w.setCell ⟨q,i,none⟩ u) a g X c P T st d U:=by unfold SmS CoS at H;simp only[List.mem_cons,not_or]at H;have t:aa [q] w (w.setCell ⟨q,i,none⟩ u):=aW _ _ _;have O:=h.gd.ar.turns t (by simp;exact λe=>H.2.2.1 e.symm) (by simp;exact λe=>H.2.2.2.1 e.symm);have k:=h.co.arAway t (s':=st.s) O (λj I=> .inr (.inr (by simp at I;rw[I];exact h1.2.1)));exact {h with lk:=t.blk h.lk (by simp;exact λe=>h1.2.2.1 e.symm),gd:={h.gd with ar:=O,ga:=t.blk h.gd.ga (by simp;exact λe=>h1.2.2.2 e.symm),dr:=t.blk h.gd.dr (by simp;exact λe=>H.2.1 e.symm)},tb:=h.tb.turns t (λj I=>by simp at I;rw[I];exact h1.1),sp:=h.sp.turns t (by simp;exact λe=>H.1 e.symm),co:=k}
inductive MdR:Int->FuncId->TypeId->TypeId->Prop
 |n:MdR 1 148 330 274
 |r:MdR 2 149 335 277
 |w:MdR 3 150 337 280
def MdR.k(h:MdR md f ty pt):MdN f ty:=by cases h<;>constructor
def G8(ty pt:TypeId)(md:Int)(w:World)(a g:Nat)(s:Ar)(kg kl par:Nat)(bud:Int)(P T:List Int)(e:Ending)(w':World):Prop:=
 ∃(q:Nat) (B BC:Nat->Prop) (X:SmX),e= returned (tuple #[↑q,J 0])/\aw ty B BC w' a g X (fi kg kl par bud P T (smA s (ac P).length)) P T (bJ kg kl par P T (smA s (ac P).length)) dr0 (List.replicate T.length Sp.zero)/\(∀i∈SmS a g X,i=a\/i=g\/w.heap.size<=i)/\aa [a,g] w w'/\
  Blk w' q 273 #[J md,.iface pt ↑X.l]/\w.heap.size<=q/\q∉SmS a g X/\∀i,i<w.heap.size\/w'.heap.size<=i->¬B i/\¬eX X.x BC i/\i≠X.l/\i≠X.gg
def GG(K:MdR md f ty pt){w:World}{s:Ar}(h:aB w a g s)(hs:s.W=[])(L4:a≠g)(H O:Value)(P T:List Int)(hP:RdL w H 1 encI P)(hT:RdL w O 1 encI T)(NO:∀i,H.ownBlock=some i->i≠a/\i<w.heap.size)(Qb:∀i,O.ownBlock=some i->i≠a/\i<w.heap.size)(hc:a5 P T=0)(kg kl:Nat)(hG:KOk kg)(hL:KOk kl)(par:Nat)(hp:1<=par/\par<=4)(bud:Int)(I:0<=bud/\bud<=3)(V:s.room=4096)(Y:s.ops<=1000):E 108 #[↑a,J md,agg #[H,O],agg #[J (kg:Int),J (kl:Int),J par,J bud]] w (G8 ty pt md w a g s kg kl par bud P T):=by
  have LV:=h.blk.lt;have Me:=h.wds.lt;obtain⟨wz,Nl⟩:=LE (((w.alloc (cells #[H,O] 24)).alloc (cells #[J (kg:Int),J (kl:Int),J par,J bud] 36)).alloc (cells #[J md,.nilIface] 273));have KR:wz.heap.size=w.heap.size+3:=by rw[Nl];simp
  have HB:=qh (show Below w.heap.size w wz from by rw[Nl];exact(((Below.refl w.heap.size w).alloc (Nat.le_refl _) _).alloc ahz _).alloc ahD _);have Pc:Blk wz w.heap.size 24 #[H,O]:=by rw[Nl];exact((Blk.new w 24 #[H,O]).alloc _).alloc _
  have Pb:Blk wz (w.heap.size+1) 36 #[J (kg:Int),J (kl:Int),J par,J bud]:=by have h1:=Blk.new (w.alloc (cells #[H,O] 24)) 36 #[J (kg:Int),J (kl:Int),J par,J bud];rw[show(w.alloc (cells #[H,O] 24)).heap.size=w.heap.size+1 by simp]at h1;rw[Nl];exact h1.alloc _
  have Lf:Blk wz (w.heap.size+2) 273 #[J md,.nilIface]:=by have h1:=Blk.new ((w.alloc (cells #[H,O] 24)).alloc (cells #[J (kg:Int),J (kl:Int),J par,J bud] 36)) 273 #[J md,.nilIface];rw[show((w.alloc (cells #[H,O] 24)).alloc (cells #[J (kg:Int),J (kl:Int),J par,J bud] 36)).heap.size=w.heap.size+2 by simp]at h1;rw[Nl];exact h1
  have HN:=qh (IJ K.k (h.turns (S:=[]) (aa.of_below HB.o) ahz ahz) hs L4 H O P T (hP.below HB.o (Nat.le_refl _)) (hT.below HB.o (Nat.le_refl _)) (λi hi=>⟨(NO i hi).1,by have:=(NO i hi).2;omega⟩) (λi hi=>⟨(Qb i hi).1,by have:=(Qb i hi).2;omega⟩) hc kg kl hG hL par hp bud I V Y);have HX:=qh (And.intro Pc (And.intro Pb Lf));have HS:=qh (And.intro LV Me);clear h hs L4 hP hT NO Qb hc hG hL hp I V Y Pc Pb Lf;obtain⟨V0,Wm⟩:∃V0:Nat->Value,∀x,V0 x= .iface pt (pointer (some ⟨x,0,none⟩)):=⟨_,λ_=>rfl⟩;cases K
  all_goals
    go_enter func108,ntmps108;go_upto_region 2 with fail;rw[<-Nl];clear Nl;have f0:wz.cell? w.heap.size=some H:=HX.o.1.cell 0;have f1:Z wz w.heap.size 1 O:=HX.o.1.cell 1;have p0:Z wz (w.heap.size+1) 0 (J (kg:Int)):=HX.o.2.1.cell 0;have p1:Z wz (w.heap.size+1) 1 (J (kl:Int)):=HX.o.2.1.cell 1;have p2:Z wz (w.heap.size+1) 2 (J par):=HX.o.2.1.cell 2;have p3:Z wz (w.heap.size+1) 3 (J bud):=HX.o.2.1.cell 3;go_wp2_with fail;refine HN.o.mono ?_;rintro en w3 ⟨B,BC,X,rfl,k3,hS,t3,n3⟩;have MH:Blk w3 (w.heap.size+2) 273 #[_,.nilIface]:=t3.blk HX.o.2.2 (by have:=HS.o;simp;omega);have qn:w.heap.size+2∉SmS a g X:=λhm=>by have:=hS _ hm;have:=HS.o;omega
    have z1:=MH.free 1;have e1:=MH.cell 1;have HK:=qh (And.intro (k3.foreign (n3 (w.heap.size+2) ahy) qn 1 (V0 X.l)) (And.intro hS (And.intro (MH.set_ 1 (V0 X.l)) (And.intro qn n3))));rw[Wm]at HK;have HT:=qh t3;clear k3 hS t3 n3 MH qn HN f0 f1 p0 p1 p2 p3;go_wp2;go_ret2;refine⟨w.heap.size+2,B,BC,X,rfl,HK.o.1,λi hi=>?_,?_,HK.o.2.2.1,by omega,HK.o.2.2.2.1,λi hi=>HK.o.2.2.2.2 i (hi.elim (λz=> .inl ahy) λz=> .inr (by simpa using z))⟩;. have:=HK.o.2.1 i hi;omega
    . rw[<-Wm X.l];have t9:aa [a,g,w.heap.size+2] w (w3.setCell ⟨w.heap.size+2,1,none⟩ (V0 X.l)):=((aa.of_below HB.o).trans (HT.o.mono ahz)).setCell (.inl ahz) _;exact t9.fresh λi hi=>by simp at hi ⊢;omega
end
end Go.Proofs.YtglokdbiggbkjaaGreat
