/- Joined texts. -/
import Derived.Test.YtglokdbiggbkjaaGreatMgWholeRefuses0
import Derived.Test.YtglokdbiggbkjaaGreatMgWholeRefuses1
import Derived.Test.YtglokdbiggbkjaaGreatMgWholeRefuses5
import Derived.Test.YtglokdbiggbkjaaGreatMgWholeRefuses6
import Derived.Test.YtglokdbiggbkjaaGreatMgWholeRefuses20
import Derived.Test.YtglokdbiggbkjaaGreatMgWholeRefuses23
import Derived.Test.YtglokdbiggbkjaaGreatMgWholeRefuses24
import Derived.Test.YtglokdbiggbkjaaGreatMgWholeRefuses25
set_option linter.unusedVariables false
set_option linter.unusedSimpArgs false
set_option linter.defProp false
set_option maxRecDepth 100000
set_option maxHeartbeats 16000000
open Go.Proofs.Tryz
namespace Go.Proofs.YtglokdbiggbkjaaGreat
open Go.IntKind(i64)
open Go.Value(int bool slice agg tuple pointer)
open Go.Ending(returned)
open Go.Obj(cells)
variable{a g q m i L lb cT:Nat}{gl lo pa bu:Int}{f:FuncId}{xs:Array Value}{P T:List Int}{ty:TypeId}{B BC:Nat->Prop}{w' W w5:World}{gs:Nat->Value}{C:Prop}{vP vT:Value}{AT:Option Addr}
section
open Go.RowKit
variable{w:World}
def BU(b:Int)(w:World)(h:¬(0<=b/\b<=1000)):E 135 #[J b] w λe w'=>e= returned (bool false)/\w=w':=by
 have I:E 171 #[J b,J 0,J 1000] w λe w'=>e= returned (bool false)/\w=w':=by
  by_cases h0:b >= 0;.have t1:decide (b >= 0)=true:=decide_eq_true h0;have t2:decide (b<=1000)=false:=decide_eq_false ahE;exact acB
  .have t1:decide (b >= 0)=false:=decide_eq_false h0;exact acB
 have H:=qh I;clear I h;exact aav
inductive tX(a:Nat)(vP vT:Value)(gl lo pa bu:Int):FuncId->Array Value->Prop
 |co:tX a vP vT gl lo pa bu 103 #[↑a,agg #[vP,vT],agg #[int i64 gl,int i64 lo,int i64 pa,int i64 bu]]
 |hm:tX a vP vT gl lo pa bu 104 #[↑a,agg #[vP,vT],int i64 bu]
 |hc:tX a vP vT gl lo pa bu 105 #[↑a,agg #[vP,vT],int i64 bu]
 |cn:tX a vP vT gl lo pa bu 106 #[↑a,agg #[vP,vT],int i64 bu]
 |ma:tX a vP vT gl lo pa bu 107 #[↑a,agg #[vP,vT],int i64 bu]
def zF{h H:Value}(K:tX a h H gl lo pa bu f xs)(hP:RdL w h 1 encI P)(hT:RdL w H 1 encI T)(hc:a8 P T=0)(I:¬(0<=bu/\bu<=1000)):Calls prog f xs w λe w'=>e= returned (tuple #[.pointer none,J 1])/\Below w.heap.size w w':=by
  have HN:=qh (λW (b:Below w.heap.size w W)=>gX W h H P T (hP.below b (Nat.le_refl _)) (hT.below b (Nat.le_refl _)) hc);have Y:=qh (λW (b:Below w.heap.size w W)=>eR W h H P T (hP.below b (Nat.le_refl _)) (hT.below b (Nat.le_refl _)));rw[hc]at Y;have HR:=qh (λW=>BU bu W I);have B1:=qh ((Below.refl w.heap.size w).alloc (Nat.le_refl _) (cells #[h,H] 24));have V:=qh (((Below.refl w.heap.size w).alloc (Nat.le_refl _) (cells #[h,H] 24)).alloc ahF (cells #[J gl,J lo,J pa,J bu] 36));have BX:=qh (Blk.new' (w.alloc (cells #[h,H] 24)) 36 #[J gl,J lo,J pa,J bu] (g:=w.heap.size+1) ahF);clear hP hT hc I;cases K
  case ma=>
    go_enter func107,ntmps107;go_wp2_with fail;first| (refine(Y.o _ (Below.refl _ _)).mono ?_;rintro en w1 ⟨rfl,b1⟩;have O:=qh b1)| (refine(Y.o _ B1.o).mono ?_;rintro en w1 ⟨rfl,b1⟩;have O:=qh (B1.o.trans (b1.mono B1.o.size)))
    clear b1;go_wp2_with fail;refine LT (HR.o _) ?_;go_wp2;go_ret2;exact⟨rfl,O.o⟩
  all_goals
    first| go_enter func103,ntmps103| go_enter func104,ntmps104| go_enter func105,ntmps105| go_enter func106,ntmps106
    go_wp2_with fail;first| (refine(HN.o _ (Below.refl _ _)).mono ?_;rintro en w1 ⟨b,rfl,-,-,b1⟩;have O:=qh b1;clear b1)| (refine(HN.o _ B1.o).mono ?_;rintro en w1 ⟨b,rfl,-,-,b1⟩;have O:=qh (B1.o.trans (b1.mono B1.o.size));clear b1)| (refine(HN.o _ V.o).mono ?_;rintro en w1 ⟨b,rfl,-,-,b1⟩;have O:=qh (V.o.trans (b1.mono V.o.size));have p3:Z w1 (w.heap.size+1) 3 (J bu):=(BX.o.below b1 BX.o.lt).cell 3;clear b1)
    go_wp2_with fail;refine LT (HR.o _) ?_;go_wp2;go_ret2;exact⟨rfl,O.o⟩
def nK{s:Ar}(h:aB w a g s)(H O:Value)(P T:List Int)(hP:RdL w H 1 encI P)(hT:RdL w O 1 encI T)(hc:a8 P T=0)(gl lo pa bud:Int)(V:s.W.length+2500<=s.room)(RD:s.W.length<=100)(Y:s.ops+100<=1000000000000):E 103 #[↑a,agg #[H,O],agg #[J gl,J lo,J pa,J bud]] w (Eh w a g s gl lo pa bud P T):=by
  by_cases I:0<=bud/\bud<=1000;. exact ux h H O P T hP hT hc gl lo pa bud I V RD Y
  . refine(zF .co hP hT hc I).mono ?_;rintro e w' ⟨rfl,b⟩;exact⟨none,1,rfl,λq=>absurd q.2.2 I,λe=>absurd e ahG,aa.of_below b⟩
end
section
open Go.RowKit
def EK(ty:TypeId)(w:World)(a g:Nat)(s:Ar)(gl lo pa bud:Int)(P T:List Int)(e:Ending)(w':World):Prop:=
 ∃(p:Option Addr) (c:Int),e= returned (tuple #[.pointer p,J c])/\(FlV gl pa/\FlV lo pa/\0<=bud/\bud<=1000->c=0)/\(c=0->(FlV gl pa/\FlV lo pa/\0<=bud/\bud<=1000)/\∃(B BC:Nat->Prop) (X:SmX),p=some ⟨X.l,0,none⟩/\av ty B BC w' a g X (fh gl.toNat lo.toNat (mOf pa) bud P T (smA s (ac P).length)) P T (bC gl.toNat lo.toNat (mOf pa) P T (smA s (ac P).length)) dr0 (List.replicate T.length Sp.zero)/\(∀i∈SmS a g X,i=a\/i=g\/w.heap.size<=i)/\∀i,i<w.heap.size\/w'.heap.size<=i->¬B i/\¬eQ X.x BC i/\i≠X.l/\i≠X.gg)/\aa [a,g] w w'
inductive MdN:FuncId->TypeId->Prop
 |n:MdN 148 330
 |r:MdN 149 335
 |w:MdN 150 337
def Hg(K:MdN f ty){w:World}{s:Ar}(h:aB w a g s)(hs:s.W=[])(KU:a≠g)(vP vT:Value)(P T:List Int)(hP:RdL w vP 1 encI P)(hT:RdL w vT 1 encI T)(MJ:∀i,vP.ownBlock=some i->i≠a/\i<w.heap.size)(OW:∀i,vT.ownBlock=some i->i≠a/\i<w.heap.size)(hc:a8 P T=0)(gl lo pa bud:Int)(V:s.room=4096)(Y:s.ops<=1000):Calls prog f #[pointer (some ⟨a,0,none⟩),agg #[vP,vT],agg #[J gl,J lo,J pa,J bud]] w λe w'=>EK ty w a g s gl lo pa bud P T e w':=by
  obtain⟨i0,hi,JF,JH,ab⟩:=info_parts Tryz.infoSpF;have J5:=bi (aQ hc).1;refine ajB ?_;intro KL KZ LA Lr;have LP:(ac P).length<=32:=by exact aay
  have NQ:1<=(ac P).length:=by exact aa6
  have H:=qh (And.intro h (And.intro KL (And.intro KZ KU)));have ON:=qh (And.intro (And.intro hP MJ) (And.intro hT OW));refine ajP ?_;intro HN JX;have HS:=qh (And.intro hs (And.intro V Y));refine ajc ?_;intro JV B0 Ls;rw[show(w.alloc (cells #[vP,vT] 24)).heap.size=w.heap.size+1 by simp]at Ls;have Oq:=(Blk.new w 24 #[vP,vT]).alloc (cells #[J gl,J lo,J pa,J bud] 36);have BX:=qh (And.intro Ls Oq);clear h hP hT MJ OW hs V Y J5 KL KZ hc Ls Oq KU;cases K
  all_goals
    first| go_enter func148,ntmps148| go_enter func149,ntmps149| go_enter func150,ntmps150
    go_wp2_with fail;refine HN.o.mono ?_;rintro en w1 ⟨b,rfl,I,t1,b1⟩;rw[JV]at I t1 b1;have tn:aa [] ((w.alloc (cells #[vP,vT] 24)).alloc (cells #[J gl,J lo,J pa,J bud] 36)) w1:=⟨b1.os,b1.tape,b1.output,b1.size,λi hi _=>b1.block i ahE⟩;have K1:=qh (And.intro (t1.q JX.o) (And.intro (B0.o.trans (b1.mono ahE)) (And.intro (tn.blk BX.o.1 ahF) (And.intro (tn.blk BX.o.2 ahF) I))));clear t1 b1 I HN BX B0 tn;go_wp2_with fail;refine LT (dY _ _ _ _ (K1.o.1.tab JX.o)) ?_;go_wp2_with (refine wpList_make_full _ rfl _ _ 237 rfl w1.heap.size 113 i0 (agg #[J 0,J 0,J 0,J 0]) 4 Tryz.underlying237 hi JF JH .i64 .i64 T.length T.length T.length rfl rfl rfl rfl ?b2 ?b3 (Nat.le_refl _) ?_);case b2=>rw[ab];omega
    case b3=>unfold maxLen;omega
    intro w4 r' hg;have I:dy w4 w1.heap.size (List.replicate T.length Sp.zero):=(by unfold dy;rw[vk];have:=fU r';have e:(madeCells #[Value.int .i64 0,J 0,J 0,J 0] (T.length*4)).toList=List.replicate (T.length*4) (J 0):=rl _ _;exact aa2);have t4:aa [] w1 w4:=aa.of_below ((Below.refl w1.heap.size w1).grown hg (Nat.le_refl _) (λj hj=>by cases hj));have LL:=I.lt;have H4:=qh (And.intro I (And.intro t4 LL));clear r' hg I t4 LL;go_upto_region 5 with fail;obtain⟨q,hq⟩:=LE w1.heap.size;rw[<-hq]at H4 ⊢;have HQ:=qh hq;clear hq;obtain⟨l,hl⟩:=LE w4.heap.size;generalize J8:w4.alloc (.cells _ _)=w5;replace J8:=J8.symm;rw[<-hl];have QH:=qh (show Blk w5 l _ #[pointer (some ⟨a,0,none⟩),↑b,.pointer none,.pointer none,J 0,.pointer none,slice (some ⟨q,0,none⟩) T.length T.length]from by rw[J8,hl];exact Blk.new _ _ _);have H5:=qh (show aa [] w1 w5 from by rw[J8];exact H4.o.2.1.alloc _);have So:=qh (show dy w5 q (List.replicate T.length Sp.zero)from by rw[J8];exact H4.o.1.turns (T:=[]) ((aa.refl _ _).alloc _) ahF)
    have HO:=qh (show a<w.heap.size/\g<w.heap.size/\a≠g/\w.heap.size+2<=b/\b<w1.heap.size/\w1.heap.size=q/\q<l/\w5.heap.size=l+1 from by
      have e1:b<w1.heap.size:=K1.o.1.low.2;have e2:=K1.o.2.2.2.2;have e3:=H4.o.2.2;have e4:=H.o;have e5:=HQ.o;rw[J8,hl];simp
      omega)
    have Nr:Kq (∀W,aa [l,b,a] w5 W->(Z W (w.heap.size+1) 0 (J gl)/\Z W (w.heap.size+1) 1 (J lo)/\Z W (w.heap.size+1) 2 (J pa)/\Z W (w.heap.size+1) 3 (J bud))/\(W.cell? w.heap.size=some vP/\Z W w.heap.size 1 vT)/\RdL W vP 1 encI P/\RdL W vT 1 encI T):=qh λW hW=>by
      have o:=HO.o;have t:aa [l,b,a] w1 W:=(H5.o.mono ahF).trans hW;have n:w.heap.size+1∉[l,b,a]:=(by simp;omega);have n2:w.heap.size∉[l,b,a]:=(by simp;omega);have b1:=t.blk K1.o.2.2.1 n;have b2:=t.blk K1.o.2.2.2.1 n2;refine⟨⟨b1.cell 0,b1.cell 1,b1.cell 2,b1.cell 3⟩,⟨b2.cell 0,b2.cell 1⟩,?_,?_⟩;. exact(ON.o.1.1.below K1.o.2.1 (Nat.le_refl _)).turns t λi hi hm=>by have:=ON.o.1.2 i hi;simp at hm;omega
      . exact(ON.o.2.1.below K1.o.2.1 (Nat.le_refl _)).turns t λi hi hm=>by have:=ON.o.2.2 i hi;simp at hm;omega
    obtain⟨N,hN⟩:=LE ((ac P).length);rw[<-hN]at LP NQ;have Oi:=pZ (λi=>w.heap.size+2<=i/\i<w1.heap.size) w5 b P T JX.o (K1.o.1.turns H5.o ahF);rw[<-hN]at Oi;have Np:=qh Oi;have Mm:=qh hN;have RX:=qh ((H.o.1.turns (aa.of_below (S:=[]) K1.o.2.1) ahF ahF).turns H5.o ahF ahF);clear J8 hl hN Oi H4;go_wp2_with fail;refine Op Np.o λw6 t6=>?_;have Q6:=qh (And.intro t6.o.1.lt t6.o.2);have Ws:=qh (RX.o.turns t6.o.2 ahN ahN);go_wp2_with fail;refine(AJ Ws.o N NQ LP HS.o.1 HS.o.2.1).mono ?_;rintro en w7 ⟨gg,rfl,Ov,Vh,Vg,t7⟩;have Rp:l∉[a]:=(by have:=HO.o;simp;omega);have L7:Blk w7 l _ _:=t7.blk (Q6.o.2.blk QH.o ahN) Rp;have Xv:Z w7 l 2 (.pointer none):=L7.cell 2;have Zx:=L7.free 2;have H7:=qh (And.intro Ov (And.intro Vh (And.intro Vg t7)));have TV:=qh L7;clear Ov Vh Vg t7 L7;go_upto_region 6 with fail;obtain⟨w8,NK⟩:=LE (w7.setCell ⟨l,2,none⟩ ↑gg);rw[<-NK];have bW:l<w7.heap.size:=TV.o.lt;have bc:l<gg:=(by have e1:=Q6.o.2.size;have e2:=H7.o.1;have e3:=HO.o;omega);have Nk:aa [l] w7 w8:=(by rw[NK];exact(aa.refl _ _).setCell (.inl ahF) _);have QI:=qh (show Blk w8 l _ #[pointer (some ⟨a,0,none⟩),↑b,↑gg,.pointer none,J 0,.pointer none,slice (some ⟨q,0,none⟩) T.length T.length]from by rw[NK];exact TV.o.set_ 2 _);have TR:=qh (H7.o.2.2.1.turns Nk ahN ahN);have L3:=qh (Nk.blk H7.o.2.1 ahJ);have OP:=qh (show aa [l,b,a] w5 w8 from((Q6.o.2.mono ahF).trans (H7.o.2.2.2.mono ahF)).trans (Nk.mono ahF));have Td:(bp s (2*N)).W.length=2*N:=(by unfold bp;rw[HS.o.1];simp);have Yj:l<w8.heap.size:=QI.o.lt;have TQ:=qh Nk;clear NK Xv Zx Nk;have Sr:=mD TR.o 1 (by rw[Td];show 2*N+1<=s.room;rw[HS.o.2.1];omega);rw[Td]at Sr;have Uw:=qh Sr;clear Sr;go_wp2_with fail;refine Op Uw.o λw9 k9=>?_;have Lm:Blk w9 l _ _:=k9.o.2.blk QI.o Rp;have Xw:Z w9 l 4 (J 0):=Lm.cell 4;have Zy:=Lm.free 4;have H9:=qh (And.intro k9.o.1 (And.intro k9.o.2 Lm));clear Lm;go_upto_region 9 with fail;obtain⟨fl,Mc⟩:∃f:Int,f=2*(N:Int)+1:=⟨_,rfl⟩;have X6:((2*N:Nat):Int)+1=fl:=(by omega);obtain⟨w10,RJ⟩:=LE (w9.setCell ⟨l,4,none⟩ (J fl));rw[<-Mc,<-RJ];have TP:aa [l] w9 w10:=(by rw[RJ];exact(aa.refl _ _).setCell (.inl ahF) _);have TS:=qh (show Blk w10 l _ #[pointer (some ⟨a,0,none⟩),↑b,↑gg,.pointer none,J fl,.pointer none,slice (some ⟨q,0,none⟩) T.length T.length]from by rw[RJ];exact H9.o.2.2.set_ 4 _);have QR:=qh (show aa [l,a] w8 w10 from(H9.o.2.1.mono ahF).trans (TP.mono ahF));have Wr:=qh (H9.o.1.turns TP ahN ahN);have Sj:=qh (Nr.o w10 (OP.o.trans (QR.o.mono ahF)));have Vt:(bp (bp s (2*N)) 1).W.length=2*N+1:=by show((bp s (2*N)).W++_).length=_;rw[List.length_append,Td];simp
    have R3:=qh (nK Wr.o vP vT P T Sj.o.2.2.1 Sj.o.2.2.2 JX.o gl lo pa bud (by
      show _<=s.room
      rw[Vt,HS.o.2.1];omega) (by rw[Vt];omega) (by show s.ops+100<=_;have:=HS.o.2.2;omega))
    obtain⟨⟨p0,p1,p2,p3⟩,⟨y0,y1⟩,_⟩:=Sj.o;have HF:=qh Mc;clear RJ Xw Zy TP Mc X6 Uw;go_wp2_with fail;refine R3.o.mono ?_;rintro en w11 ⟨Zi,ce,rfl,Wa,Pr,Qy⟩;have Ly:=qh Wa;clear Wa;have YB:l∉[a,g]:=(by have:=HO.o;simp;omega);have PI:Blk w11 l _ _:=Qy.blk TS.o YB;have Xr:Z w11 l 5 (.pointer none):=PI.cell 5;have Zv:=PI.free 5;by_cases JK:ce=0
    case neg=>
      refine akg ?_;intro Pt MF
      have HF:=qh (show aa [a,g] w (w11.setCell ⟨l,5,none⟩ (.pointer Zi))from by
        have o:=HO.o;have s1:=K1.o.2.1.size;have TN:aa [a,g,l,b] w w5:=(aa.of_below (S:=[a,g,l,b]) K1.o.2.1).trans (H5.o.mono ahF);have Zn:aa [a,g,l,b] w w10:=(TN.trans (OP.o.mono aip)).trans (QR.o.mono aip)
        exact((Zn.trans (Qy.mono ahF)).setCell (.inl ahF) _).fresh λi hi=>by simp at hi ⊢;omega)
      clear Pr Qy PI p0 p1 p2 p3 y0 y1 R3 JK;go_wp2;go_ret2;exact⟨none,ce,rfl,Ly.o,λe=>(MF.o e).elim,HF.o⟩
    obtain⟨O,xc,BC,YG,Wg,Wc⟩:=Pr JK;clear Pr Ly;have Pr:=Wg;clear Wg;subst YG;obtain rfl:(0:Int)=ce:=JK.symm;have HV:=qh O;clear O JK;have Of:=qh (And.intro Pr (And.intro Wc (And.intro Qy PI)));clear Pr Wc Qy PI p0 p1 p2 p3 y0 y1 R3;go_upto_region 12 with fail;obtain⟨w12,RK⟩:=LE (w11.setCell ⟨l,5,none⟩ ↑xc.l);rw[<-RK];have Qz:aa [l] w11 w12:=(by rw[RK];exact(aa.refl _ _).setCell (.inl ahF) _);have RY:=qh (show Blk w12 l _ #[pointer (some ⟨a,0,none⟩),↑b,↑gg,.pointer none,J fl,↑xc.l,slice (some ⟨q,0,none⟩) T.length T.length]from by rw[RK];exact Of.o.2.2.2.set_ 5 _);have Xa:=qh (show aa [l,a,g] w8 w12 from((QR.o.mono ahF).trans (Of.o.2.2.1.mono ahF)).trans (Qz.mono ahF));have Va:¬eQ xc BC l:=λI=>by have e1:=Of.o.2.1 l I;have e2:=TS.o.lt;omega
    have TY:=qh (Of.o.1.arAway Qz (s':=(bC gl.toNat lo.toNat (mOf pa) P T (bp (bp s (2*N)) 1)).s) (Of.o.1.ar.turns Qz ahN ahN) (λi hi=> .inr (.inr (by simp at hi;rw[hi];exact Va))));have W3:=qh (show w11.heap.size<=w12.heap.size from Qz.size);have g2:Z w12 l 2 ↑gg:=RY.o.cell 2;have Yi:l<w12.heap.size:=RY.o.lt;clear RK Xr Zv Qz;go_wp2_with fail;refine(E7 w12 gg).mono ?_;rintro en w13 ⟨dd,rfl,SA,UD,Rb⟩;have QW:Blk w13 l _ _:=RY.o.below SA Yi;have ZD:Z w13 l 3 (.pointer none):=QW.cell 3;have bT:=QW.free 3;have QF:=qh (And.intro SA (And.intro QW (And.intro UD Rb)));clear SA QW UD Rb g2;go_wp2;go_ret2;have o:=HO.o;obtain⟨w14,Pk⟩:=LE (w13.setCell ⟨l,3,none⟩ ↑dd);rw[<-Pk];have RR:aa [l] w12 w14:=(by rw[Pk];exact(aa.of_below QF.o.1).trans ((aa.refl _ _).setCell (.inl ahF) _));have TT:=(show Blk w14 l _ #[pointer (some ⟨a,0,none⟩),↑b,↑gg,↑dd,J fl,↑xc.l,slice (some ⟨q,0,none⟩) T.length T.length]from by rw[Pk];exact QF.o.2.1.set_ 3 _);have QB:aa [l,a,g] w8 w14:=Xa.o.trans (RR.mono ahF)
    have Wp:aa [l,a,g] w6 w14:=((H7.o.2.2.2.mono ahF).trans (show aa [l,a,g] w7 w8 from by
      refine aa.mono ?_ (S:=[l]) ahF
      exact TQ.o)).trans QB
    have Rb:=QF.o.2.2.2;have ad:=Of.o.2.2.1.size;have al:=W3.o;have cM:=OP.o.size;have bA:=QR.o.size;have cu:=H7.o.2.2.2.size;have cv:=TQ.o.size;have g7:=H7.o.2.1.lt;have Wh:=Q6.o.2.size;have bw:=H7.o.1;have Zr:aa [l] w13 w14:=(by rw[Pk];exact(aa.refl _ _).setCell (.inl ahF) _);have Xq:=Zr.blk QF.o.2.2.1 ahJ;have U9:=TY.o.arAway RR (s':=(bC gl.toNat lo.toNat (mOf pa) P T (bp (bp s (2*N)) 1)).s) (TY.o.ar.turns RR ahJ ahJ) (λi hi=> .inr (.inr (by simp at hi;rw[hi];exact Va)));have Ra:∀i,eQ xc BC i->w10.heap.size<=i/\i<w11.heap.size:=Of.o.2.1
    have JP:∀i∈CoS a g xc,i=a\/i=g\/(w10.heap.size<=i/\i<w11.heap.size):=λi hi=>by
      unfold CoS at hi;simp only[List.mem_cons]at hi;rcases hi with rfl|rfl|rfl|rfl|hi
      . exact .inl rfl
      . exact .inr (.inl rfl)
      . exact .inr (.inr (Ra _ (.inr (.inr (.inl rfl)))))
      . exact .inr (.inr (Ra _ (.inr (.inr (.inr (.inl (.inr (.inr rfl))))))))
      . obtain⟨y,hy,rfl⟩:=List.mem_map.1 hi;exact .inr (.inr (Ra _ (.inr (.inr (.inr (.inr (.inl ⟨y,hy,.inr (.inr rfl)⟩)))))))
    have Me:∀q,¬(w10.heap.size<=q/\q<w11.heap.size)->¬eQ xc BC q:=λq hq I=>hq (Ra q I);have Zf:¬(((w.heap.size+2<=q/\q<w1.heap.size)\/w5.heap.size<=q)/\q<w6.heap.size):=(by omega);have Zd:¬(((w.heap.size+2<=dd/\dd<w1.heap.size)\/w5.heap.size<=dd)/\dd<w6.heap.size):=(by omega);have ax:=RR.size;have bF:=Wp.size;have bP:=QB.size;have cp:=TT.lt;refine⟨_,0,rfl,λ_=>rfl,λ_=>⟨HV.o,λi=>((w.heap.size+2<=i/\i<w1.heap.size)\/w5.heap.size<=i)/\i<w6.heap.size,BC,⟨l,q,b,gg,dd,xc⟩,rfl,?_,λi hi=>?_,λi hi=>⟨by show ¬(_/\_);omega,Me i ahE,by show i≠l;omega,by show i≠gg;omega⟩⟩,?_⟩
    . refine⟨?_,⟨?_,?_,Xq,by show(ac P).length<=32;rw[<-Mm.o];exact LP,⟨by show dd≠a;omega,by show dd≠g;omega,by show dd≠gg;omega⟩,⟨by show gg≠a;omega,by show gg≠g;omega⟩⟩,?_,?_,?_,by simp,λi hi=>?_,⟨Me q ahE,Me dd ahE⟩,⟨by show q≠l;omega,by show q≠gg;omega,by show q≠dd;omega,Zf⟩,⟨by show dd≠l;omega,by show dd≠gg;omega,Zd⟩⟩;. show Blk w14 l _ (smC a ⟨l,q,b,gg,dd,xc⟩ (ac P).length T.length);rw[<-Mm.o];unfold smC;show Blk w14 l _ #[pointer (some ⟨a,0,none⟩),↑b,↑gg,↑dd,J (2*(N:Int)+1),↑xc.l,slice (some ⟨q,0,none⟩) T.length T.length];have FL:fl=2*(N:Int)+1:=HF.o;rw[<-FL];exact TT
      . rw[<-Mm.o];exact U9.ar
      . rw[<-Mm.o];exact QB.blk L3.o ahJ
      . exact Q6.o.1.turns Wp λi hi hB=>by simp at hi;omega
      . exact⟨[],by rw[List.append_nil];exact(show Blk w14 q _ _ from(So.o.turns (OP.o) ahJ).turns QB ahJ)⟩
      . rw[<-Mm.o];exact U9
      . have hq:=JP i hi;refine⟨?_,?_,?_,?_,?_⟩;. show i≠l;omega
        . show i≠q;omega
        . show i≠gg;omega
        . show i≠dd;omega
        . show ¬(_/\_);omega
    . unfold SmS at hi;simp only[List.mem_cons]at hi;rcases hi with hi|hi|hi
      . right;right;rw[hi];show w.heap.size<=q;omega
      . right;right;rw[hi];show w.heap.size<=dd;omega
      . have hq:=JP i hi;omega
    . have TN:aa [a,g,l,b] w w5:=(aa.of_below (S:=[a,g,l,b]) K1.o.2.1).trans (H5.o.mono ahF);have Zo:aa [a,g,l,b] w w14:=(TN.trans (OP.o.mono aip)).trans (QB.mono aip);exact Zo.fresh λi hi=>by simp at hi ⊢;omega
end
section
open Go.RowKit
variable{pt:TypeId}{md:Int}
def av.foreign{w:World}{X:SmX}{c:CoC}{st:Co}{d:Dr}{U:List Sp}(h:av ty B BC w a g X c P T st d U)(h1:¬B q/\¬eQ X.x BC q/\q≠X.l/\q≠X.gg)(H:q∉SmS a g X)(i:Nat)(u:Value):av ty B BC (w.setCell ⟨q,i,none⟩ u) a g X c P T st d U:=by unfold SmS CoS at H;simp only[List.mem_cons,not_or]at H;have t:aa [q] w (w.setCell ⟨q,i,none⟩ u):=aV _ _ _;have O:=h.gd.ar.turns t (by simp;exact λe=>H.2.2.1 e.symm) (by simp;exact λe=>H.2.2.2.1 e.symm);have k:=h.co.arAway t (s':=st.s) O (λj I=> .inr (.inr (by simp at I;rw[I];exact h1.2.1)));exact {h with lk:=t.blk h.lk (by simp;exact λe=>h1.2.2.1 e.symm),gd:={h.gd with ar:=O,ga:=t.blk h.gd.ga (by simp;exact λe=>h1.2.2.2 e.symm),dr:=t.blk h.gd.dr (by simp;exact λe=>H.2.1 e.symm)},tb:=h.tb.turns t (λj I=>by simp at I;rw[I];exact h1.1),sp:=h.sp.turns t (by simp;exact λe=>H.1 e.symm),co:=k}
inductive MdR:Int->FuncId->TypeId->TypeId->Prop
 |n:MdR 1 148 330 274
 |r:MdR 2 149 335 277
 |w:MdR 3 150 337 280
def MdR.k(h:MdR md f ty pt):MdN f ty:=by cases h<;>constructor
def Gd(ty pt:TypeId)(md:Int)(w:World)(a g:Nat)(s:Ar)(gl lo pa bud:Int)(P T:List Int)(e:Ending)(w':World):Prop:=
 ∃(p:Option Addr) (c:Int),e= returned (tuple #[.pointer p,J c])/\(FlV gl pa/\FlV lo pa/\0<=bud/\bud<=1000->c=0)/\(c=0->(FlV gl pa/\FlV lo pa/\0<=bud/\bud<=1000)/\∃(q:Nat) (B BC:Nat->Prop) (X:SmX),p=some ⟨q,0,none⟩/\av ty B BC w' a g X (fh gl.toNat lo.toNat (mOf pa) bud P T (smA s (ac P).length)) P T (bC gl.toNat lo.toNat (mOf pa) P T (smA s (ac P).length)) dr0 (List.replicate T.length Sp.zero)/\(∀i∈SmS a g X,i=a\/i=g\/w.heap.size<=i)/\
  Blk w' q 273 #[J md,.iface pt ↑X.l]/\w.heap.size<=q/\q∉SmS a g X/\∀i,i<w.heap.size\/w'.heap.size<=i->¬B i/\¬eQ X.x BC i/\i≠X.l/\i≠X.gg)/\aa [a,g] w w'
def FR(K:MdR md f ty pt){w:World}{s:Ar}(h:aB w a g s)(hs:s.W=[])(KU:a≠g)(H I:Value)(P T:List Int)(hP:RdL w H 1 encI P)(hT:RdL w I 1 encI T)(MJ:∀i,H.ownBlock=some i->i≠a/\i<w.heap.size)(OW:∀i,I.ownBlock=some i->i≠a/\i<w.heap.size)(hc:a8 P T=0)(gl lo pa bud:Int)(V:s.room=4096)(Y:s.ops<=1000):E 108 #[↑a,J md,agg #[H,I],agg #[J gl,J lo,J pa,J bud]] w (Gd ty pt md w a g s gl lo pa bud P T):=by
  have KL:=h.blk.lt;have KZ:=h.wds.lt;obtain⟨wz,Ml⟩:=LE (((w.alloc (cells #[H,I] 24)).alloc (cells #[J gl,J lo,J pa,J bud] 36)).alloc (cells #[J md,.nilIface] 273));have J0:wz.heap.size=w.heap.size+3:=by rw[Ml];simp
  have HB:=qh (show Below w.heap.size w wz from by rw[Ml];exact(((Below.refl w.heap.size w).alloc (Nat.le_refl _) _).alloc ahF _).alloc ahJ _);have Oq:Blk wz w.heap.size 24 #[H,I]:=by rw[Ml];exact((Blk.new w 24 #[H,I]).alloc _).alloc _
  have NS:Blk wz (w.heap.size+1) 36 #[J gl,J lo,J pa,J bud]:=by have h1:=Blk.new (w.alloc (cells #[H,I] 24)) 36 #[J gl,J lo,J pa,J bud];rw[show(w.alloc (cells #[H,I] 24)).heap.size=w.heap.size+1 by simp]at h1;rw[Ml];exact h1.alloc _
  have Ki:Blk wz (w.heap.size+2) 273 #[J md,.nilIface]:=by have h1:=Blk.new ((w.alloc (cells #[H,I] 24)).alloc (cells #[J gl,J lo,J pa,J bud] 36)) 273 #[J md,.nilIface];rw[show((w.alloc (cells #[H,I] 24)).alloc (cells #[J gl,J lo,J pa,J bud] 36)).heap.size=w.heap.size+2 by simp]at h1;rw[Ml];exact h1
  have HN:=qh (Hg K.k (h.turns (S:=[]) (aa.of_below HB.o) ahF ahF) hs KU H I P T (hP.below HB.o (Nat.le_refl _)) (hT.below HB.o (Nat.le_refl _)) (λi hi=>⟨(MJ i hi).1,by have:=(MJ i hi).2;omega⟩) (λi hi=>⟨(OW i hi).1,by have:=(OW i hi).2;omega⟩) hc gl lo pa bud V Y);have HX:=qh (And.intro Oq (And.intro NS Ki));have HS:=qh (And.intro KL KZ);clear h hs KU hP hT MJ OW hc V Y Oq NS Ki;obtain⟨V0,UY⟩:∃V0:Nat->Value,∀x,V0 x= .iface pt (pointer (some ⟨x,0,none⟩)):=⟨_,λ_=>rfl⟩;cases K
  all_goals
    go_enter func108,ntmps108;go_upto_region 2 with fail;rw[<-Ml];clear Ml;have f0:wz.cell? w.heap.size=some H:=HX.o.1.cell 0;have f1:Z wz w.heap.size 1 I:=HX.o.1.cell 1;have p0:Z wz (w.heap.size+1) 0 (J gl):=HX.o.2.1.cell 0;have p1:Z wz (w.heap.size+1) 1 (J lo):=HX.o.2.1.cell 1;have p2:Z wz (w.heap.size+1) 2 (J pa):=HX.o.2.1.cell 2;have p3:Z wz (w.heap.size+1) 3 (J bud):=HX.o.2.1.cell 3;go_wp2_with fail;refine HN.o.mono ?_;rintro en w3 ⟨pp,ce,rfl,k0,k3,t3⟩;have Ly:=qh k0;clear k0;have Mr:Blk w3 (w.heap.size+2) 273 #[_,.nilIface]:=t3.blk HX.o.2.2 (by have:=HS.o;simp;omega);by_cases JK:ce=0;case neg=>refine akg ?_;intro Pt MF;have z1:=Mr.free 1;have e1:=Mr.cell 1;have HT:=qh (λgs=>((((aa.of_below HB.o).trans (t3.mono ahF):aa [a,g,w.heap.size+2] w w3).setCell (p:=⟨w.heap.size+2,1,none⟩) (.inl ahF) gs).fresh λi hi=>by simp at hi ⊢;omega:aa [a,g] w (w3.setCell ⟨w.heap.size+2,1,none⟩ gs)));clear k3 t3 Mr HN f0 f1 p0 p1 p2 p3 JK;go_wp2;go_ret2;exact⟨none,ce,rfl,Ly.o,λe=>(MF.o e).elim,HT.o _⟩
    obtain⟨O,B,BC,X,N8,q3,hS,n3⟩:=k3 JK;clear k3 Ly;have k3:=q3;clear q3;subst N8;obtain rfl:(0:Int)=ce:=JK.symm;have HV:=qh O;clear O JK;have qn:w.heap.size+2∉SmS a g X:=λhm=>by have:=hS _ hm;have:=HS.o;omega
    have z1:=Mr.free 1;have e1:=Mr.cell 1;have HK:=qh (And.intro (k3.foreign (n3 (w.heap.size+2) ahE) qn 1 (V0 X.l)) (And.intro hS (And.intro (Mr.set_ 1 (V0 X.l)) (And.intro qn n3))));rw[UY]at HK;have HT:=qh t3;clear k3 hS t3 n3 Mr qn HN f0 f1 p0 p1 p2 p3;go_wp2;go_ret2;refine⟨_,0,rfl,λ_=>rfl,λ_=>⟨HV.o,w.heap.size+2,B,BC,X,rfl,HK.o.1,λi hi=>?_,HK.o.2.2.1,by omega,HK.o.2.2.2.1,λi hi=>HK.o.2.2.2.2 i (hi.elim (λz=> .inl ahE) λz=> .inr (by simpa using z))⟩,?_⟩;. have:=HK.o.2.1 i hi;omega
    . rw[<-UY X.l];have t9:aa [a,g,w.heap.size+2] w (w3.setCell ⟨w.heap.size+2,1,none⟩ (V0 X.l)):=((aa.of_below HB.o).trans (HT.o.mono ahF)).setCell (.inl ahF) _;exact t9.fresh λi hi=>by simp at hi ⊢;omega
end
section
open Go Go.RowKit
section
variable{w:World}{bud:Int}{s:Ar}
def GO{k n:Nat}(hk:1<=k/\k<=5)(Y:1<=n/\n<=32)(hm:1<=m/\m<=1024)(V:s.W=[])(hs:s.ops=0){x:Fx}(h:de w' a g k x (aG k s n m) (a5 k n))(h1:w.heap.size<=x.p/\w.heap.size<=x.l/\w.heap.size<=x.q/\x.n=n/\x.m=m/\x.t=s.W.length+1):px w a g n k (flV x.p) ⟨Dw k n m,(aG k s n m,a5 k n)⟩ w':=by
 intro w2 lb t Md ha hg I;obtain⟨l1,l2,l3,e1,e2,e3⟩:=h1;have H:=h.oth t (h.ki.ar.turns t (by simp;exact λe=>ha e.symm) (by simp;exact λe=>hg e.symm)) ahJ ahJ ahJ;have b1:=H.p.lt;have b2:=H.ki.lk.lt;have b3:=H.ki.sp.lt;have b4:=H.ki.ar.blk.lt;have b5:=H.ki.ar.wds.lt;have JL:∀y∈[a,g,x.q],w.heap.size<=y\/y=a\/y=g:=λy hy=>by simp at hy;omega
 have hz:WdB 1100 s:=by intro v O;rw[V]at O;cases O
 have hi:=nW hk s (n:=n) (m:=m) hm.1;rw[V]at hi;refine⟨⟨x,w2.heap.size,min lb (min a g),a,g⟩,ym hk Y hm,⟨hi,(nj (B:=1100) hz ahE Y.2).mono ahZ,λp hp=>⟨vv Y.2 ahZ p hp,FJ k (iS k n p hp).1⟩,?_⟩,⟨H,⟨rfl,rfl,e1,e2,by rw[e3,V];rfl⟩,⟨I,λz=>by simp at z;omega,⟨Nat.min_le_left _ _,I.lt⟩,λy hy=>by simp at hy;show min lb (min a g)<=y/\y<w2.heap.size;omega,Nat.le_refl _⟩,⟨by show min lb (min a g)<=x.p;omega,b1⟩,by show min lb (min a g)<=x.l;omega,b2⟩,JL,Nat.le_refl _⟩;have:=kf k s n m;show(aG k s n m).ops<=0+1;omega
def zj{x:Cox}(B:Nat->Prop)(hi:i∈CoS a g x):i=a\/i=g\/eQ x B i:=by
 unfold CoS at hi;simp only[List.mem_cons]at hi;rcases hi with rfl|rfl|rfl|rfl|hi
 .exact .inl rfl
 .exact .inr (.inl rfl)
 .exact .inr (.inr (.inr (.inr (.inl rfl))))
 .exact .inr (.inr (.inr (.inr (.inr (.inl (.inr (.inr rfl)))))))
 .obtain⟨y,h,rfl⟩:=List.mem_map.1 hi;exact .inr (.inr (.inr (.inr (.inr (.inr (.inl ⟨y,h,.inr (.inr rfl)⟩))))))
def GN{kg kl par:Nat}(hc:a8 P T=0)(Kz:1<=kg/\kg<=5)(Y:1<=kl/\kl<=5)(hp:1<=par/\par<=1024)(hW:s.W=[])(hs:s.ops=0){x:Cox}(h:aC B w' a g x (fh kg kl par bud P T s) P T (bC kg kl par P T s))(I:∀i,eQ x B i->w.heap.size<=i/\i<w'.heap.size):px w a g T.length 6 (zW x.l) ⟨Dv (fh kg kl par bud P T s) P T (bC kg kl par P T s).s.W.length,bC kg kl par P T s⟩ w':=by
 intro w2 lb t Md ha hg Ki;have ht:=t.size;have k2:=h.farK t (by simp;exact λe=>ha e.symm) (by simp;exact λe=>hg e.symm) (λi hi hB=>by have:=I i hB;simp at hi;omega);have b4:=k2.ar.blk.lt;have b5:=k2.ar.wds.lt
 have V:∀y∈CoS a g x,(w.heap.size<=y\/y=a\/y=g)/\y<w2.heap.size:=λy H=>by
  rcases zj B H with e|e|e
  .omega
  .omega
  .have:=I y e;omega
 have hz:WdB 1100 s:=by intro v O;rw[hW]at O;cases O
 have ok:=ox (kg:=kg) (kl:=kl) (par:=par) (bud:=bud) hc hz;rw[hs]at ok;refine⟨⟨x,B,a,g,min lb (min a g),w2.heap.size⟩,yl hc (uP (bud:=bud) hc Kz Y hp) (uX hc Kz Y hp),⟨wP hc Kz Y hp hz,ok.mono ahF,λi e=>?_⟩,⟨k2,⟨rfl,rfl⟩,⟨Ki,λz=>by have:=V _ z;omega,⟨Nat.min_le_left _ _,Ki.lt⟩,λy H=>by have:=V y H;show min lb (min a g)<=y/\y<w2.heap.size;omega,Nat.le_refl _⟩,λi hi=>by have:=I i hi;show min lb (min a g)<=i/\i<w2.heap.size;omega⟩,λy H=>(V y H).1,Nat.le_refl _⟩;exfalso;have e0:sv (List.replicate T.length Sp.zero) i=Sp.zero:=rx _ i;have e1:(sv (List.replicate T.length Sp.zero) i).pc=10:=e;rw[e0]at e1;exact absurd e1 ahG
def GQ(hc:a8 P T=0)(Jt:0<=bud/\bud<=1000){x:Hx}{s':Ar}(hs:s'.ops=0)(V:x.a=a)(Y:x.g=g)(h:aU B w' x (cz P T) bud s' (hm0 (cz P T)))(hB:∀i,B i->w.heap.size<=i)(hq:w.heap.size<=x.q)(Tp:∀v,v<P.length->w.heap.size<=x.qb v):px w a g T.length 7 (hmV x.l) ⟨Bg (cz P T) bud,⟨s',hm0 (cz P T)⟩⟩ w':=by
 intro w2 lb t Md ha hg Ki;have ht:=t.size;have hn:1<=T.length/\T.length<=32:=by have:=bi (aQ hc).1;exact⟨this.2.2.1,this.2.2.2⟩
 have hm:∀y∈mvL x (cz P T),w.heap.size<=y\/y=a\/y=g:=λy H=>by
  unfold mvL at H;simp only[List.mem_append,List.mem_cons,List.not_mem_nil,or_false,List.mem_map,List.mem_range]at H;rcases H with(rfl|rfl|rfl)|⟨v,O,rfl⟩
  .exact .inr (.inl V)
  .exact .inr (.inr Y)
  .exact .inl hq
  .exact .inl (Tp v O)
 have I:=h.turns t (λi hi XN=>by have:=hB i XN;simp at hi;omega) (λi hi Rm=>by have:=hm i Rm;simp at hi;omega);have b4:=I.ar.blk.lt;have b5:=I.ar.wds.lt
 have I':∀y∈mvL x (cz P T),y<w2.heap.size:=λy H=>by
  unfold mvL at H;simp only[List.mem_append,List.mem_cons,List.not_mem_nil,or_false,List.mem_map,List.mem_range]at H;rcases H with(rfl|rfl|rfl)|⟨v,O,rfl⟩
  .exact b4
  .exact b5
  .exact I.ss.lt
  .exact(I.rs v O).lt
 exact⟨⟨x,B,min lb (min a g),w2.heap.size⟩,yo (i7 hc) hn Jt,⟨⟨_,d9.start _ _⟩,by show s'.ops<=0;omega⟩,⟨I,⟨V,Y⟩,⟨Ki,λz=>by have:=hm _ z;omega,⟨Nat.min_le_left _ _,Ki.lt⟩,λy H=>by have:=hm y H;have:=I' y H;show min lb (min a g)<=y/\y<w2.heap.size;omega,Nat.le_refl _⟩,λi hi=>by have:=I.bd i hi;have:=hB i hi;show min lb (min a g)<=i/\i<w2.heap.size;omega⟩,hm,Nat.le_refl _⟩
def AZ{F:kv}{c:CoC}{st:Co}(hm:1<=F.md/\F.md<=3)(hc:a8 P T=0)(hF:F.Ok c P T L)(mP:F.ok c T.length (ac P).length L (mtQ P T) 1100 ⟨st,dr0,List.replicate T.length Sp.zero⟩)(hs:st.s.ops<=1100){X:SmX}(h:av F.ty B BC w' a g X c P T st dr0 (List.replicate T.length Sp.zero))(H:∀i∈SmS a g X,i=a\/i=g\/w.heap.size<=i)(hq:Blk w' q 273 (rwC F X.l))(Pd:w.heap.size<=q)(OC:q∉SmS a g X)(I:∀i,i<w.heap.size\/w'.heap.size<=i->¬B i/\¬eQ X.x BC i/\i≠X.l/\i≠X.gg):px w a g T.length (10+F.md) (rwV q) ⟨Dy F c P T L,⟨st,dr0,List.replicate T.length Sp.zero⟩⟩ w':=by
 intro w2 lb t Md ha hg Y;have ht:=t.size;have k2:=h.farR t (λi hi=>I i (.inl (by simp at hi;omega))) (λi hi hm=>by have:=H i hm;simp at hi;omega);have q2:=t.blk hq ahJ
 have V:∀i,B i\/eQ X.x BC i\/i=X.l\/i=X.gg->min lb (min a g)<=i/\i<w2.heap.size:=λi hi=>by
  apply Classical.byContradiction;intro hn;have:=I i ahE;rcases hi with z|z|z|z
  .exact this.1 z
  .exact this.2.1 z
  .exact this.2.2.1 z
  .exact this.2.2.2 z
 have I':=k2.ltsA;exact⟨⟨B,BC,a,g,X,q,min lb (min a g),w2.heap.size⟩,yp hm hc hF,⟨by simpa using mP,by show st.s.ops<=0+2000;omega⟩,⟨k2,⟨rfl,rfl⟩,⟨Y,λz=>by have:=H _ z;omega,⟨Nat.min_le_left _ _,Y.lt⟩,λy O=>by have:=H y O;have:=I' y O;show min lb (min a g)<=y/\y<w2.heap.size;omega,Nat.le_refl _⟩,⟨q2,⟨by show min lb (min a g)<=q;omega,q2.lt⟩,OC⟩,V⟩,λy O=>by have:=H y O;omega,Nat.le_refl _⟩
end
end
section
open Go Go.RowKit
def ib(f:FuncId)(xs:Array Value)(a g n:Nat)(k:Int)(gs:Nat->Value)(C:Prop)(ms:MS n)(w:World):Prop:=
 Calls prog f xs w λe w'=>∃(p:Option Addr) (c:Int),e= returned (tuple #[.pointer p,J c])/\(C->c=0)/\(c=0->C/\∃l,p=some ⟨l,0,none⟩/\px w a g n k (gs l) ms w')/\aa [a,g] w w'
def MkL(W:World)(a g lb n:Nat)(C:Prop)(ms:MS n)(e:Ending)(w':World):Prop:=
 ∃c:Int,e= returned (J c)/\(C->c=0)/\(c=0->C/\∃b:ms.1.β,ms.1.Good/\ms.1.ok ms.2 0/\ms.1.is b w' a g lb ms.2/\(∀x∈ms.1.fp b,W.heap.size<=x\/x=a\/x=g)/\min lb (min a g)<=ms.1.bt b)/\aa [a,g,lb] W w'
def Fr{H:World}{n l:Nat}{k:Int}{ms:MS n}(I:Below W.heap.size W H)(hl:Blk H lb 110 #[J k,J n,.nilIface])(Qg:lb<W.heap.size)(O:lb≠a/\lb≠g)(hC:C)(h:px H a g n k (gs l) ms w5)(t:aa [a,g] H w5):MkL W a g lb n C ms (returned (J 0)) (w5.setCell ⟨lb,2,none⟩ (gs l)):=by have hs:=I.size;have h5:=t.blk hl (by simp;exact O);obtain⟨b,h1,Y,h3,V⟩:=h (w5.setCell ⟨lb,2,none⟩ (gs l)) lb ((aa.refl _ _).setCell (.inl ahF) _) ahE O.1 O.2 (h5.set_ 2 _);exact⟨0,rfl,λ_=>rfl,λ_=>⟨hC,b,h1,Y,h3,⟨λx hx=>by have:=V.1 x hx;omega,V.2⟩⟩,((aa.of_below (S:=[a,g,lb]) I).trans (t.mono aiS)).setCell (.inl ahF) _⟩
def Fq{h:World}{n:Nat}{ms:MS n}{c:Int}(I:Below W.heap.size W h)(H:C->c=0)(hc:c≠0)(t:aa [a,g] h w5)(gs:Value):MkL W a g lb n C ms (returned (J c)) (w5.setCell ⟨lb,2,none⟩ gs):=
 ⟨c,rfl,H,λe=>absurd e hc,((aa.of_below (S:=[a,g,lb]) I).trans (t.mono aiS)).setCell (.inl ahF) _⟩
section
variable{n:Nat}
inductive MkP(a:Nat)(vP vT:Value)(gl lo pa bu:Int):Int->FuncId->Array Value->(Nat->Value)->Prop
 |co:MkP a vP vT gl lo pa bu 6 103 #[↑a,agg #[vP,vT],agg #[int i64 gl,int i64 lo,int i64 pa,int i64 bu]] zW
 |hm:MkP a vP vT gl lo pa bu 7 104 #[↑a,agg #[vP,vT],int i64 bu] hmV
 |hc:MkP a vP vT gl lo pa bu 8 105 #[↑a,agg #[vP,vT],int i64 bu] hcV
 |cn:MkP a vP vT gl lo pa bu 9 106 #[↑a,agg #[vP,vT],int i64 bu] cnV
 |ma:MkP a vP vT gl lo pa bu 10 107 #[↑a,agg #[vP,vT],int i64 bu] maV
inductive MkR(a n:Nat)(vP vT:Value)(gl lo pa bu:Int)(k:Nat):FuncId->Array Value->(Nat->Value)->Prop
 |fl (h:1<=k/\k<=5):MkR a n vP vT gl lo pa bu k 109 #[↑a,int i64 k,int i64 n,int i64 pa] flV
 |rw (h:11<=k/\k<=13):MkR a n vP vT gl lo pa bu k 108 #[↑a,int i64 ((k:Int)-10),agg #[vP,vT],agg #[int i64 gl,int i64 lo,int i64 pa,int i64 bu]] rwV
def Ew{Q:Prop}(h:Q:=by
    have MQ:=t5.blk H0.o.2.1 (by simp;exact hn)
    have q2:=MQ.free 2
    have q2c:=MQ.cell 2
    by_cases JK:ce=0
    . obtain⟨hC,l,hp,Vk⟩:=hin JK
      clear hin hce0
      subst hp
      obtain rfl:(0:Int)=ce:=JK.symm
      have HF:=qh (Fr H0.o.1 H0.o.2.1 H0.o.2.2 hn hC Vk t5)
      simp only[zW,hmV,hcV,cnV,maV,flV,rwV]at HF
      clear Vk t5 MQ hC JK
      go_wp2
      go_ret
      exact HF.o
    . have HF:=qh (Fq (lb:=lb) (n:=n) (ms:=ms) H0.o.1 hce0 JK t5)
      clear hin t5 MQ JK hce0
      go_wp2
      go_ret
      exact HF.o _):Q:=h
variable{ms:MS n}
def sK{k:Int}(K:MkP a vP vT gl lo pa bu k f xs gs)(O:Blk W lb 110 #[J k,J n,.nilIface])(hn:lb≠a/\lb≠g)(V:∀W2,Below W.heap.size W W2->ib f xs a g n k gs C ms W2):E 56 #[↑lb,↑a,agg #[vP,vT],agg #[J gl,J lo,J pa,J bu]] W (MkL W a g lb n C ms):=by
  have H:=((Below.refl W.heap.size W).alloc (Nat.le_refl _) (cells #[vP,vT] 24)).alloc ahF (cells #[J gl,J lo,J pa,J bu] 36);have I:=O.below H O.lt;have c0:=I.cell 0;have c1:=I.cell 1;have Qg:=O.lt;have Y:=qh (V _ H);unfold ib at Y;have H0:=qh (And.intro H (And.intro I Qg));have OE:((W.alloc (cells #[vP,vT] 24)).alloc (cells #[J gl,J lo,J pa,J bu] 36)).heap.size=W.heap.size+2:=by simp
  clear H I O V;cases K;all_goals go_enter func56,ntmps56;go_wp2_with fail;refine Y.o.mono ?_;rintro en w5 ⟨pp,ce,rfl,hce0,hin,t5⟩;exact Ew
def wQ{k:Nat}(K:MkR a n vP vT gl lo pa bu k f xs gs)(O:Blk W lb 110 #[J k,J n,.nilIface])(hn:lb≠a/\lb≠g)(KU:a<W.heap.size/\g<W.heap.size)(HN:∀W2,Below W.heap.size W W2->ib f xs a g n k gs C ms W2):E 56 #[↑lb,↑a,agg #[vP,vT],agg #[J gl,J lo,J pa,J bu]] W (MkL W a g lb n C ms):=by
  obtain⟨H,V⟩:=LE ((W.alloc (cells #[vP,vT] 24)).alloc (cells #[J gl,J lo,J pa,J bu] 36));have Jt:Below W.heap.size W H:=by rw[V];exact((Below.refl W.heap.size W).alloc (Nat.le_refl _) _).alloc ahF _
  have JY:Below W.heap.size W H.drew:=Jt.drew;have Ko:=O.below Jt O.lt;have k1:Blk H W.heap.size 24 #[vP,vT]:=by rw[V];exact(Blk.new W _ _).alloc _
  have Y:Blk H (W.heap.size+1) 36 #[J gl,J lo,J pa,J bu]:=by rw[V];exact Blk.new' _ _ _ ahF
  have NZ:lb∉[a,g]:=by simp;exact hn
  have O4:W.heap.size∉[a,g]:=by simp;omega
  have Oy:W.heap.size+1∉[a,g]:=by simp;omega
  have HC:=qh (λgs (h:aa [a,g] H gs)=>And.intro ((h.blk Ko NZ).cell 0) (And.intro ((h.blk Ko NZ).cell 1) (And.intro ((h.blk k1 O4).cell 0) (And.intro ((h.blk k1 O4).cell 1) (And.intro ((h.blk Y Oy).cell 0) (And.intro ((h.blk Y Oy).cell 1) (And.intro ((h.blk Y Oy).cell 2) ((h.blk Y Oy).cell 3))))))));have Qg:=O.lt;have M0:=qh (HN _ JY);unfold ib at M0;have H0:=qh (And.intro JY (And.intro (O.below JY O.lt) Qg));have HD:=qh (show aa [a,g] H H.drew from(aa.refl _ _).drew);have HR:=qh (show aa [a,g] H H from aa.refl _ _);have HZ:=qh V;have JH:W.heap.size<H.heap.size:=k1.lt;clear Jt JY Ko O HN k1 Y V;have I:(1<=k/\k<=5)\/k=11\/k=12\/k=13:=by cases K<;>omega
  have ne:∀z:Int,(6<=z/\z<=10)\/(k:Int)≠z->((k:Int)==z)=false:=λz h=>by simp;omega
  have n6:=ne 6 ahE;have n7:=ne 7 ahE;have n8:=ne 8 ahE;have n9:=ne 9 ahE;have ab:=ne 10 ahE;have w1:IntKind.i64.wrap ((k:Int)-11)=k-11:=IntWalk.i64_in _ ahE;have w2:IntKind.i64.wrap ((k:Int)-11+1)=k-10:=by rw[IntWalk.i64_in _ ahE];omega
  cases K
  all_goals
    rcases I with I|I|I|I
    all_goals try omega
    all_goals
      first|have Za:((k:Int)==11)=true:=by simp;omega|have Za:=ne 11 ahE
      first|have Zb:((k:Int)==12)=true:=by simp;omega|have Zb:=ne 12 ahE
      first|have Zc:((k:Int)==13)=true:=by simp;omega|have Zc:=ne 13 ahE
      clear ne I;go_enter func56,ntmps56;go_upto_region 2 with fail;rw[<-HZ.o];obtain⟨q0,q1,q2⟩:=HC.o _ HR.o;go_wp2_with fail
      go_region_held3 (λgs=>gs.cell? lb=some (J k)/\Z gs lb 1 (J n)/\gs.cell? W.heap.size=some vP/\Z gs W.heap.size 1 vT/\Z gs (W.heap.size+1) 0 (J gl)/\Z gs (W.heap.size+1) 1 (J lo)/\Z gs (W.heap.size+1) 2 (J pa)/\Z gs (W.heap.size+1) 3 (J bu))
        (first|exact HC.o _ HR.o|exact HC.o _ HD.o|exact HC.o _ H6.o)
        (first
          | (go_at_call 108;go_loud (refine M0.o.mono ?_);rintro en w5 ⟨pp,ce,rfl,hce0,hin,t5⟩;have H6:=qh (HD.o.trans t5))
          | (go_at_call 109;go_loud (refine M0.o.mono ?_);rintro en w5 ⟨pp,ce,rfl,hce0,hin,t5⟩;have H6:=qh (HD.o.trans t5)))
      exact Ew
end
end
section
open Go Go.RowKit
def DL(P T:List Int)(k pa:Nat):MS T.length:=⟨Dw k T.length pa,(aG k (dD 4096) T.length pa,a5 k T.length)⟩
def G7(P T:List Int)(gl lo pa:Nat)(bu:Int):MS T.length:=⟨Dv (fh gl lo pa bu P T (dD 4096)) P T (bC gl lo pa P T (dD 4096)).s.W.length,bC gl lo pa P T (dD 4096)⟩
def G9(P T:List Int)(room:Nat)(bu:Int):MS T.length:=⟨Bg (cz P T) bu,⟨⟨dt (hm0 (cz P T)).W P.length,room,0,0,0,false⟩,hm0 (cz P T)⟩⟩
def G8(P T:List Int)(bu:Int):MS T.length:=⟨Dx bu P T,hc0 (dD 4096) (ac P).length T.length⟩
def G6(P T:List Int)(bu:Int):MS T.length:=⟨wN bu (ao P T T.length) T.length,cn0 (dD 4096) T.length⟩
def Ha(P T:List Int)(bu:Int):MS T.length:=⟨wO T.length bu,ma0 (dD 4096) T.length⟩
def yw(F:kv)(P T:List Int)(gl lo pa:Nat)(bu:Int):MS T.length:=⟨Dy F (fh gl lo pa bu P T (smA (dD 4096) (ac P).length)) P T (bC gl lo pa P T (smA (dD 4096) (ac P).length)).s.W.length,⟨bC gl lo pa P T (smA (dD 4096) (ac P).length),dr0,List.replicate T.length Sp.zero⟩⟩
def oq(P T:List Int)(gl lo pa:Nat)(bu:Int)(k:Nat):MS T.length:=
 if k<=5 then DL P T k pa else if k=6 then G7 P T gl lo pa bu else if k=7 then G9 P T 4096 bu else if k=8 then G8 P T bu else if k=9 then G6 P T bu else if k=10 then Ha P T bu else if k=11 then yw tD P T gl lo pa bu else if k=12 then yw tF P T gl lo pa bu else yw tH P T gl lo pa bu
def SpK(k:Nat)(gl lo pa bu:Int):Prop:=
 if k<=5 then FlV k pa else if k=6\/11<=k then FlV gl pa/\FlV lo pa/\0<=bu/\bu<=1000 else 0<=bu/\bu<=1000
def SpK.two{k:Nat}{gl lo pa bu:Int}(h:SpK k gl lo pa bu)(H:k=6\/11<=k):FlV gl pa/\FlV lo pa/\0<=bu/\bu<=1000:=by unfold SpK at h;rw[if_neg ahE,if_pos H]at h;exact h
structure ff(w:World)(a g:Nat)(vP vT:Value)(P T:List Int):Prop where
 ar:aB w a g (dD 4096)
 rP:RdL w vP 1 encI P
 rT:RdL w vT 1 encI T
 Pa:∀i,vP.ownBlock=some i->i≠a/\i<w.heap.size
 Ta:∀i,vT.ownBlock=some i->i≠a/\i<w.heap.size
 ck:a8 P T=0
section
variable{w:World}(gl lo pa bu:Int)
def ff.below(h:ff w a g vP vT P T)(b:Below w.heap.size w w'):ff w' a g vP vT P T:=
 {h with ar:=h.ar.turns (S:=[]) (aa.of_below b) ahF ahF,rP:=h.rP.below b (Nat.le_refl _),rT:=h.rT.below b (Nat.le_refl _),Pa:=λi hi=>⟨(h.Pa i hi).1,Nat.lt_of_lt_of_le (h.Pa i hi).2 b.size⟩,Ta:=λi hi=>⟨(h.Ta i hi).1,Nat.lt_of_lt_of_le (h.Ta i hi).2 b.size⟩}
def ff.n32(h:ff w a g vP vT P T):1<=T.length/\T.length<=32:=by have:=bi (aQ h.ck).1;exact⟨this.2.2.1,this.2.2.2⟩
def ff.hN(h:ff w a g vP vT P T):1<=(ac P).length:=by have h1:=eh h.ck (i:=0) (by have:=h.n32;omega);omega
def FlV.nat{k pa:Int}(h:FlV k pa):1<=k.toNat/\k.toNat<=5:=by have:=h.1;omega
def Ho(h:ff w a g vP vT P T):ib 103 #[↑a,agg #[vP,vT],agg #[J gl,J lo,J pa,J bu]] a g T.length 6 zW (FlV gl pa/\FlV lo pa/\0<=bu/\bu<=1000) (G7 P T gl.toNat lo.toNat (mOf pa) bu) w:=by refine(nK h.ar vP vT P T h.rP h.rT h.ck gl lo pa bu (by show 0+2500<=4096;omega) (by show 0<=100;omega) (by show 0+100<=1000000000000;omega)).mono ?_;rintro e w' ⟨p,c,rfl,H,k,t⟩;refine⟨p,c,rfl,H,λhc=>?_,t⟩;obtain⟨O,x,B,rfl,k,I⟩:=k hc;exact⟨O,x.l,rfl,GN h.ck O.1.nat O.2.1.nat (iw pa) rfl rfl k I⟩
def re{k:Int}{ms:MS T.length}{gl lo pa bu:Int}(K:tX a vP vT gl lo pa bu f xs)(h:ff w a g vP vT P T)(G:0<=bu/\bu<=1000->Calls prog f xs w λe w'=>∃l,e= returned (tuple #[pointer (some ⟨l,0,none⟩),J 0])/\px w a g T.length k (gs l) ms w'/\aa [a,g] w w'):ib f xs a g T.length k gs (0<=bu/\bu<=1000) ms w:=by
  by_cases I:0<=bu/\bu<=1000;. refine(G I).mono ?_;rintro e w' ⟨l,rfl,k,t⟩;exact⟨_,0,rfl,λ_=>rfl,λ_=>⟨I,l,rfl,k⟩,t⟩
  . refine(zF K h.rP h.rT h.ck I).mono ?_;rintro e w' ⟨rfl,b⟩;exact⟨none,1,rfl,λq=>absurd q I,λe=>absurd e ahG,aa.of_below b⟩
def Hr(h:ff w a g vP vT P T):ib 104 #[↑a,agg #[vP,vT],J bu] a g T.length 7 hmV (0<=bu/\bu<=1000) (G9 P T 4096 bu) w:=by refine re (gl:=0) (lo:=0) (pa:=0) .hm h λI=>?_;have H:=h.rP;have V:=h.Pa;obtain⟨O,cP,e3,_⟩:=id H;subst e3;refine(He h.ar rfl h.ar.ne O cP vT P T H V h.rT h.ck bu I.1 I.2 ⟨rfl,FQ h.ck⟩).mono ?_;rintro e w' ⟨B,x,s',ha,hg,rfl,k,hs,hB,hq,Y,t⟩;subst hs;exact⟨x.l,rfl,GQ h.ck I rfl ha hg k hB hq Y,t.mono ahF⟩
def Hq(h:ff w a g vP vT P T):ib 105 #[↑a,agg #[vP,vT],J bu] a g T.length 8 hcV (0<=bu/\bu<=1000) (G8 P T bu) w:=by refine re (gl:=0) (lo:=0) (pa:=0) .hc h λI=>?_;refine(FE h.ar rfl h.ar.ne vP vT P T h.rP h.rT h.ck bu I.1 I.2 rfl).mono ?_;rintro e w' ⟨l,q,b,u,l0,Y,rfl,k,h1,H,h3,O,t,V⟩;exact⟨l,rfl,GP h.ck I rfl k h1 H O V,t.mono ahF⟩
def Hn(h:ff w a g vP vT P T):ib 106 #[↑a,agg #[vP,vT],J bu] a g T.length 9 cnV (0<=bu/\bu<=1000) (G6 P T bu) w:=by refine re (gl:=0) (lo:=0) (pa:=0) .cn h λI=>?_;refine(FD h.ar rfl h.ar.ne vP vT P T h.rP h.rT h.ck bu I.1 I.2 rfl).mono ?_;rintro e w' ⟨c,cap,ha,hg,rfl,k,h1,O,V,t,Y⟩;have H:(ao P T T.length).length=T.length:=dm (Nat.le_refl _);have:=GM (w:=w) (a:=a) (g:=g) (ao P T T.length) (s:=dD 4096) rfl (by rw[H];exact k) ⟨ha,hg⟩ h1 O V Y;rw[H]at this;exact⟨c.l,rfl,this,t.mono ahF⟩
def Hs(h:ff w a g vP vT P T):ib 107 #[↑a,agg #[vP,vT],J bu] a g T.length 10 maV (0<=bu/\bu<=1000) (Ha P T bu) w:=by refine re (gl:=0) (lo:=0) (pa:=0) .ma h λI=>?_;refine(I8 h.ar rfl h.ar.ne vP vT P T h.rP h.rT h.ck bu I.1 I.2 rfl).mono ?_;rintro e w' ⟨c,rfl,k,hc,h1,H,O,t⟩;exact⟨c.l,rfl,GR h.n32 rfl k hc h1 H O,t.mono ahF⟩
def Hp(h:ff w a g vP vT P T)(k:Nat):ib 109 #[↑a,J k,J T.length,J pa] a g T.length k flV (FlV k pa) (DL P T k (mOf pa)) w:=by refine(uD h.ar k T.length h.n32.1 h.n32.2 pa (by show 0+65<=4096;omega) (by show 0+1<=1000000000000;omega)).mono ?_;rintro e w' ⟨p,c,rfl,I,H,t⟩;refine⟨p,c,rfl,I,λhc=>?_,t⟩;obtain⟨O,x,rfl,H,h1⟩:=H hc;rw[Int.toNat_natCast]at H;have:=O.1;exact⟨O,x.p,rfl,GO ahE h.n32 (iw pa) rfl rfl H h1⟩
def Ht(h:ff w a g vP vT P T):ib 108 #[↑a,J 1,agg #[vP,vT],agg #[J gl,J lo,J pa,J bu]] a g T.length 11 rwV (FlV gl pa/\FlV lo pa/\0<=bu/\bu<=1000) (yw tD P T gl.toNat lo.toNat (mOf pa) bu) w:=by refine(FR .n h.ar rfl h.ar.ne vP vT P T h.rP h.rT h.Pa h.Ta h.ck gl lo pa bu rfl (by show 0<=1000;omega)).mono ?_;rintro e w' ⟨p,c,rfl,h0,k,t⟩;refine⟨p,c,rfl,h0,λhc=>?_,t⟩;obtain⟨O,q,B,BC,X,rfl,k,H,hq,Y,V,I⟩:=k hc;have hs:=Ja (bud:=bu) (s:=dD 4096) h.ck O.1.nat O.2.1.nat (iw pa) rfl;exact⟨O,q,rfl,AZ (F:=tD) ahG h.ck (tE (DO h.ck O.1.nat O.2.1.nat (iw pa) rfl h.hN)) hs.1 hs.2 k H hq Y V I⟩
def Hu(h:ff w a g vP vT P T):ib 108 #[↑a,J 2,agg #[vP,vT],agg #[J gl,J lo,J pa,J bu]] a g T.length 12 rwV (FlV gl pa/\FlV lo pa/\0<=bu/\bu<=1000) (yw tF P T gl.toNat lo.toNat (mOf pa) bu) w:=by refine(FR .r h.ar rfl h.ar.ne vP vT P T h.rP h.rT h.Pa h.Ta h.ck gl lo pa bu rfl (by show 0<=1000;omega)).mono ?_;rintro e w' ⟨p,c,rfl,h0,k,t⟩;refine⟨p,c,rfl,h0,λhc=>?_,t⟩;obtain⟨O,q,B,BC,X,rfl,k,H,hq,Y,V,I⟩:=k hc;have hs:=Jf (bud:=bu) (s:=dD 4096) h.ck O.1.nat O.2.1.nat (iw pa) rfl;exact⟨O,q,rfl,AZ (F:=tF) ahG h.ck (tG (DO h.ck O.1.nat O.2.1.nat (iw pa) rfl h.hN)) hs.1 hs.2 k H hq Y V I⟩
def Hv(h:ff w a g vP vT P T):ib 108 #[↑a,J 3,agg #[vP,vT],agg #[J gl,J lo,J pa,J bu]] a g T.length 13 rwV (FlV gl pa/\FlV lo pa/\0<=bu/\bu<=1000) (yw tH P T gl.toNat lo.toNat (mOf pa) bu) w:=by refine(FR .w h.ar rfl h.ar.ne vP vT P T h.rP h.rT h.Pa h.Ta h.ck gl lo pa bu rfl (by show 0<=1000;omega)).mono ?_;rintro e w' ⟨p,c,rfl,h0,k,t⟩;refine⟨p,c,rfl,h0,λhc=>?_,t⟩;obtain⟨O,q,B,BC,X,rfl,k,H,hq,Y,V,I⟩:=k hc;have hs:=Jo (bud:=bu) (s:=dD 4096) h.ck O.1.nat O.2.1.nat (iw pa) rfl;exact⟨O,q,rfl,AZ (F:=tH) ahG h.ck (tI (DO h.ck O.1.nat O.2.1.nat (iw pa) rfl h.hN)) hs.1 hs.2 k H hq Y V I⟩
end
end
section
open Go Go.RowKit
variable{k:Nat}
def uY:∀k,1<=k/\k<=13->¬(nmB k).toList=[]:=by
 intro k H;have:(List.range 13).all (λk=>!(nmB (k+1)).toList.isEmpty)=true:=by decide+kernel
 have h:=List.all_eq_true.1 this (k-1) (List.mem_range.2 ahE);rw[show k-1+1=k by omega]at h;simpa using h
def sY(k:Int)(h:¬(1<=k/\k<=13)):jH k=⟨#[]⟩:=by
 by_cases H:k<=0;.unfold jH;rw[show k.toNat=0 by omega];rfl
 .exact wS ahE
def Hd(w:World)(k:Nat)(H:1<=k/\k<=13):E 43 #[J k] w λe w'=>∃b:ByteArray,e= returned (.string b)/\¬b.toList=[]/\Below w.heap.size w w':=
 (ov w k).mono λ_ _ h=>⟨_,h.1,uY k H,h.2⟩
def ua(w:World)(a g n:Nat)(C:Prop)(ms:MS n)(e:Ending)(w':World):Prop:=
 ∃(p:Option Addr) (c:Int),e= returned (tuple #[.pointer p,J c])/\(C->c=0)/\(c=0->C/\∃(b:ms.1.β) (lb:Nat),p=some ⟨lb,0,none⟩/\ms.1.Good/\ms.1.ok ms.2 0/\ms.1.is b w' a g lb ms.2/\(∀x∈ms.1.fp b,w.heap.size<=x\/x=a\/x=g)/\min a g<=ms.1.bt b)/\aa [a,g] w w'
def DE(h:ff W a g vP vT P T)(hk:1<=k/\k<=13)(H:Blk W lb 110 #[J k,J T.length,.nilIface])(I:lb≠a/\lb≠g):E 56 #[↑lb,↑a,agg #[vP,vT],agg #[J gl,J lo,J pa,J bu]] W (MkL W a g lb T.length (SpK k gl lo pa bu) (oq P T gl.toNat lo.toNat (mOf pa) bu k)):=by
  have V:=And.intro h.ar.blk.lt h.ar.wds.lt;by_cases Y:k<=5;. rw[show oq P T gl.toNat lo.toNat (mOf pa) bu k=DL P T k (mOf pa)from if_pos Y,show SpK k gl lo pa bu=FlV k pa from if_pos Y];exact wQ (.fl ⟨hk.1,Y⟩) H I V λO b=>Hp pa (h.below b) k
  have hc:k=6\/k=7\/k=8\/k=9\/k=10\/k=11\/k=12\/k=13:=by omega
  rcases hc with rfl|rfl|rfl|rfl|rfl|rfl|rfl|rfl
  . exact sK .co H I λO b=>Ho gl lo pa bu (h.below b)
  . exact sK .hm H I λO b=>Hr bu (h.below b)
  . exact sK .hc H I λO b=>Hq bu (h.below b)
  . exact sK .cn H I λO b=>Hn bu (h.below b)
  . exact sK .ma H I λO b=>Hs bu (h.below b)
  . exact wQ (.rw ahE) H I V λO b=>Ht gl lo pa bu (h.below b)
  . exact wQ (.rw ahE) H I V λO b=>Hu gl lo pa bu (h.below b)
  . exact wQ (.rw ahE) H I V λO b=>Hv gl lo pa bu (h.below b)
def FF(M6:a<W.heap.size)(NC:g<W.heap.size)(hP:RdL W vP 1 encI P)(hT:RdL W (.slice AT T.length cT) 1 encI T)(M8:a8 P T=0)(hk:1<=k/\k<=13){ms:MS T.length}(Ue:∀gs lb,Below W.heap.size W gs->Blk gs lb 110 #[J k,J T.length,.nilIface]->lb≠a/\lb≠g->E 56 #[pointer (some ⟨lb,0,none⟩),↑a,agg #[vP,.slice AT T.length cT],agg #[J gl,J lo,J pa,J bu]] gs (MkL gs a g lb T.length C ms)):E 13 #[↑a,agg #[vP,.slice AT T.length cT],agg #[J k,J gl,J lo,J pa,J bu]] W (ua W a g T.length C ms):=by
  refine ajk ?_;intro Jt w0 C';rw[<-C']at Jt;have OE:w0.heap.size=W.heap.size+2:=by rw[C'];simp
  have I:Blk w0 W.heap.size 24 #[vP,.slice AT T.length cT]:=by rw[C'];exact(Blk.new W _ _).alloc _
  refine ajj ?_;intro k2
  have V:=qh (λgs (h:Below w0.heap.size w0 gs)=>show gs.cell? W.heap.size=some vP/\Z gs W.heap.size 1 (.slice AT T.length cT)/\Z gs (W.heap.size+1) 0 (J k)/\Z gs (W.heap.size+1) 1 (J gl)/\Z gs (W.heap.size+1) 2 (J lo)/\Z gs (W.heap.size+1) 3 (J pa)/\gs.cell? ⟨W.heap.size+1,4,none⟩=some (J bu)from
    ⟨(I.below h I.lt).cell 0,(I.below h I.lt).cell 1,(k2.below h k2.lt).cell 0,(k2.below h k2.lt).cell 1,(k2.below h k2.lt).cell 2,(k2.below h k2.lt).cell 3,(k2.below h k2.lt).cell 4⟩)
  have JX:=qh (λgs (h:Below w0.heap.size w0 gs)=>eR gs vP (.slice AT T.length cT) P T ((hP.below Jt (Nat.le_refl _)).below h (Nat.le_refl _)) ((hT.below Jt (Nat.le_refl _)).below h (Nat.le_refl _)));rw[M8]at JX;have WL:=qh (λgs lb (h:Below w0.heap.size w0 gs) (hl:Blk gs lb 110 #[J k,J T.length,.nilIface]) (hn:w0.heap.size<=lb)=>Ue gs lb (Jt.trans (h.mono Jt.size)) hl ⟨by omega,by omega⟩);have No:=qh (λgs=>Hd gs k hk);have H0:=qh Jt;have Kh:=qh C';clear hP hT M8 Ue Jt C' I k2;go_enter func13,ntmps13;go_wp2_with fail;rw[<-Kh.o];obtain⟨-,-,c0,-,-,-,-⟩:=V.o w0 (Below.refl _ _);go_wp2_with fail;refine(No.o _).mono ?_;rintro en w1 ⟨Zg,rfl,ab,b1⟩;have N5:Zg.toList.isEmpty=false:=by simpa using ab
  obtain⟨c0,c1,c2,c3,c4,c5,c6⟩:=V.o w1 b1;have B1:=qh b1;clear b1;go_wp2_with fail;refine Op (JX.o _ B1.o) λw2 b2=>?_;have Y:=qh (B1.o.trans (b2.o.mono B1.o.size));clear c0 c1 c2 c3 c4 c5 c6;obtain⟨c0,c1,c2,c3,c4,c5,c6⟩:=V.o w2 Y.o;have Jx:=Y.o.size;have b3:=(Below.refl w2.heap.size w2).alloc (Nat.le_refl _) (cells #[J k,J T.length,.nilIface] 110);have B3:=qh (Y.o.trans (b3.mono Jx));clear b3;have HM:=qh (WL.o _ w2.heap.size B3.o (Blk.new w2 110 #[J k,J T.length,.nilIface]) Jx);obtain⟨d0,d1,d2,d3,d4,d5,d6⟩:=V.o _ B3.o;have ZZ:W.heap.size<w2.heap.size:=by omega
  have KC:W.heap.size+1<w2.heap.size:=by omega
  go_wp2_with fail;refine HM.o.mono ?_;rintro en w4 ⟨ce,rfl,H,hm,O⟩;have HT:=qh (show aa [a,g] W w4 from((aa.of_below (S:=[a,g,w2.heap.size]) (H0.o.trans (B3.o.mono H0.o.size))).trans O).fresh λi hi=>by simp at hi ⊢;rcases hi with rfl|rfl|rfl<;>first|(left;left;rfl)|(left;right;rfl)|(right;omega));have Ly:=qh H;by_cases JK:ce=0;case neg=>refine akg ?_;intro Pt MF;clear JK H hm O;go_wp2;go_ret2;exact⟨none,ce,rfl,Ly.o,λe=>(MF.o e).elim,HT.o⟩
  have HF:=qh (And.intro (hm JK) O);obtain rfl:(0:Int)=ce:=JK.symm;clear hm O JK H;go_wp2;go_ret2;obtain⟨⟨hC,b,m1,m2,m3,m4,m5⟩,O⟩:=HF.o;refine⟨_,0,rfl,λ_=>rfl,λ_=>⟨hC,b,w2.heap.size,rfl,m1,m2,m3,λx hx=>?_,by omega⟩,HT.o⟩;have:=m4 x hx;have e2:(w2.alloc (cells #[J k,J T.length,.nilIface] 110)).heap.size=w2.heap.size+1:=by simp
  rw[e2]at this;omega
def Hf(H:ff W a g vP (.slice AT T.length cT) P T)(I:1<=k/\k<=13):E 13 #[↑a,agg #[vP,.slice AT T.length cT],agg #[J k,J gl,J lo,J pa,J bu]] W (ua W a g T.length (SpK k gl lo pa bu) (oq P T gl.toNat lo.toNat (mOf pa) bu k)):=
  FF H.ar.blk.lt H.ar.wds.lt H.rP H.rT H.ck I λ_ _ h O V=>DE (H.below h) I O V
def BG{k:Int}(hP:RdL W vP 1 encI P)(hT:RdL W vT 1 encI T)(I:¬((1<=k/\k<=13)/\a8 P T=0)):E 13 #[↑a,agg #[vP,vT],agg #[J k,J gl,J lo,J pa,J bu]] W λe w'=>∃c:Int,c≠0/\e= returned (tuple #[.pointer none,J c])/\Below W.heap.size W w':=by
  refine ajn ?_;intro Jt w0 C';rw[<-C']at Jt;have O:Blk w0 W.heap.size 24 #[vP,vT]:=by rw[C'];exact(Blk.new W _ _).alloc _
  refine ajj ?_;intro k2
  have HC:=qh (λgs (h:Below w0.heap.size w0 gs)=>show gs.cell? W.heap.size=some vP/\Z gs W.heap.size 1 vT/\gs.cell? ⟨W.heap.size+1,0,none⟩=some (J k)from
    ⟨(O.below h O.lt).cell 0,(O.below h O.lt).cell 1,(k2.below h k2.lt).cell 0⟩)
  have JX:=qh (λgs (h:Below w0.heap.size w0 gs)=>eR gs vP vT P T ((hP.below Jt (Nat.le_refl _)).below h (Nat.le_refl _)) ((hT.below Jt (Nat.le_refl _)).below h (Nat.le_refl _)));obtain⟨ck,M8⟩:=LE (a8 P T);rw[<-M8]at JX I;have No:=qh (λgs=>ov gs k);have V:=qh Jt;have Kh:=qh C'
  have ME:=qh (fun(h:1<=k/\k<=13)=>show ¬(jH k).toList=[]from by
    obtain⟨n,rfl⟩:=Int.eq_ofNat_of_zero_le (show 0<=k by omega)
    exact uY n ahE)
  have L4:=qh (fun(h:¬(1<=k/\k<=13))=>sY k h);obtain⟨nm,N6⟩:=LE (jH k);rw[<-N6]at No ME L4;clear hP hT Jt C' O k2 M8 N6;go_enter func13,ntmps13;go_wp2_with fail;rw[<-Kh.o];obtain⟨-,-,c0⟩:=HC.o w0 (Below.refl _ _);go_wp2_with fail;refine Op (No.o _) λw1 b1=>?_;obtain⟨d0,d1,-⟩:=HC.o w1 b1.o;have B1:=qh b1.o;clear c0;by_cases H:1<=k/\k<=13;. have N5:nm.toList.isEmpty=false:=(by simpa using ME.o H);have NU:ck≠0:=λe=>I ⟨H,e⟩;have ab:(ck !=0)=true:=(by simpa using NU);have M0:=qh NU;clear I H NU;go_wp2_with fail;refine Op (JX.o _ B1.o) λw2 b2=>?_;have Y:=qh (V.o.trans ((B1.o.trans (b2.o.mono B1.o.size)).mono V.o.size));clear d0 d1;go_wp2;go_ret2;exact⟨ck,M0.o,rfl,Y.o⟩
  . have N5:nm.toList.isEmpty=true:=(by rw[L4.o H];simp[ByteArray.toList,ByteArray.toList.loop,ByteArray.size]);have Y:=qh (V.o.trans (B1.o.mono V.o.size));clear I H d0 d1;go_wp2;go_ret2;exact⟨7,by decide,rfl,Y.o⟩
end
section
open Go Go.RowKit
def Ei(W:World){n:Nat}(ms:MS n)(P T:List Int)(e:Ending)(w':World):Prop:=
 ∃(X:WoB ms.1) (lo:Nat),e= returned (tuple #[lkP X.wb,J 0])/\ms.1.Good/\ms.1.ok ms.2 0/\WoIs X w' ms.2/\(∀x∈ms.1.fp X.b,W.heap.size<=x)/\(W.heap.size<=X.wb/\W.heap.size<=ms.1.bt X.b)/\(ms.1.hi X.b<=lo/\W.heap.size<=X.tb/\X.tb<X.wb/\km lo w' X.tb P T)/\Below W.heap.size W w'
def m8(W:World){n:Nat}(C:Prop)(ms:MS n)(P T:List Int)(e:Ending)(w':World):Prop:=
 ∃(p:Option Addr) (c:Int),e= returned (tuple #[.pointer p,J c])/\(C->c=0)/\(c=0->C/\Ei W ms P T (returned (tuple #[.pointer p,J 0])) w')/\(c≠0->p=none)/\Below W.heap.size W w'
def m8.yes{n:Nat}{ms:MS n}{e:Ending}(h:m8 W C ms P T e w')(I:C):Ei W ms P T e w':=by obtain⟨p,c,rfl,H,h1,_⟩:=h;obtain rfl:(0:Int)=c:=(H I).symm;exact(h1 rfl).2
def km.below{lo:Nat}{w:World}{b:Nat}(h:km lo w b P T)(t:Below w.heap.size w w'):km lo w' b P T:=by obtain⟨h1,I,cP,O,V,H,Y,h4,h5⟩:=h;exact⟨h1,I,cP,O,V,H.below t H.lt,Y.below t (Nat.le_refl _),h4.below t (Nat.le_refl _),h5⟩
def Hj{k:Nat}{ms:MS T.length}(hP:RdL W vP 1 encI P)(hT:RdL W (.slice AT T.length cT) 1 encI T)(M8:a8 P T=0)(LV:ms.1.rd=decide (11<=(k:Int)/\(k:Int)<=13))(HN:∀gs a g,Below W.heap.size W gs->aB gs a g (dD 4096)->W.heap.size<=a->W.heap.size<=g->E 13 #[pointer (some ⟨a,0,none⟩),agg #[vP,.slice AT T.length cT],agg #[J k,J gl,J lo,J pa,J bu]] gs (ua gs a g T.length C ms)):E 20 #[agg #[vP,.slice AT T.length cT],agg #[J k,J gl,J lo,J pa,J bu]] W (m8 W C ms P T):=by
  refine ajk ?_;intro Jt w0 C';rw[<-C']at Jt;have OE:w0.heap.size=W.heap.size+2:=by rw[C'];simp
  have k1:Blk w0 W.heap.size 24 #[vP,.slice AT T.length cT]:=by rw[C'];exact(Blk.new W _ _).alloc _
  refine ajj ?_;intro k2
  have HC:=qh (λgs (h:Below w0.heap.size w0 gs)=>show gs.cell? W.heap.size=some vP/\Z gs W.heap.size 1 (.slice AT T.length cT)/\Z gs (W.heap.size+1) 0 (J k)/\Z gs (W.heap.size+1) 1 (J gl)/\Z gs (W.heap.size+1) 2 (J lo)/\Z gs (W.heap.size+1) 3 (J pa)/\gs.cell? ⟨W.heap.size+1,4,none⟩=some (J bu)from
    ⟨(k1.below h k1.lt).cell 0,(k1.below h k1.lt).cell 1,(k2.below h k2.lt).cell 0,(k2.below h k2.lt).cell 1,(k2.below h k2.lt).cell 2,(k2.below h k2.lt).cell 3,(k2.below h k2.lt).cell 4⟩)
  have Lj:=qh (λgs (h:Below w0.heap.size w0 gs)=>And.intro (RdL.below (RdL.below hP Jt (Nat.le_refl _)) h ahE) (RdL.below (RdL.below hT Jt (Nat.le_refl _)) h ahE));have O:=qh Jt;have Kh:=qh C';have Mm:=qh HN;have ON:=qh LV;clear hP hT Jt C' k1 k2 HN LV;go_enter func20,ntmps20;go_wp2_with fail;rw[<-Kh.o];refine(td w0 4096).mono ?_;rintro en w1 ⟨a,g,rfl,hA,ha,hg,b1⟩;obtain⟨c0,c1,c2,c3,c4,c5,c6⟩:=HC.o w1 b1;have M6:a<w1.heap.size:=hA.blk.lt;have NC:g<w1.heap.size:=hA.wds.lt;have HL:=qh (Mm.o w1 a g (O.o.trans (b1.mono O.o.size)) hA ahE ahE);have B1:=qh (And.intro b1 hA);have Ju:=b1.size;clear b1 hA;go_wp2_with fail;refine HL.o.mono ?_;rintro en w2 ⟨pp,ce,rfl,H,hm,t2⟩;have Jx:=t2.size;have Y:Below w0.heap.size w0 w2:=B1.o.1.trans (t2.below (λi hi=>by simp at hi;rcases hi with rfl|rfl<;>omega) B1.o.1.size);have Ly:=qh H;by_cases JK:ce=0;case neg=>refine akg ?_;intro Pt MF;have HT:=qh (O.o.trans (Y.mono O.o.size));clear c0 c1 c2 c3 c4 c5 c6 JK H hm t2 Y;go_wp2;go_ret2;exact⟨none,ce,rfl,Ly.o,λe=>(MF.o e).elim,λ_=>rfl,HT.o⟩
  obtain⟨hC,b,lb,i',hG,mP,V,JL,Oq⟩:=hm JK;subst i';obtain rfl:(0:Int)=ce:=JK.symm;have OK:=qh hC;have I:=qh (And.intro Y (And.intro hG (And.intro mP (And.intro V JL))));have Wx:=qh (show W.heap.size<=ms.1.bt b by omega);have Ya:=(hG.fpa _ _ _ _ _ _ V).2;clear c0 c1 c2 c3 c4 c5 c6 hG mP V JL Oq t2 hm H hC JK;obtain⟨c0,c1,c2,c3,c4,c5,c6⟩:=HC.o w2 Y;clear Y;have HN:=qh (gX w2 vP (.slice AT T.length cT) P T (Lj.o w2 I.o.1).1 (Lj.o w2 I.o.1).2 M8);go_wp2_with fail;refine HN.o.mono ?_;rintro en w3 ⟨tb,rfl,RG,h3,b3⟩;have Kp:=b3.size;obtain⟨-,-,c0,-,-,-,-⟩:=HC.o w3 (I.o.1.trans (b3.mono I.o.1.size));have B3:=qh (And.intro b3 h3);have Ty:tb<w3.heap.size:=by obtain⟨_,_,_,_,_,hk,_⟩:=h3;exact hk.lt
  clear b3 h3;go_wp2_with fail;refine LT (xa _ _ ms.1.rd ON.o) ?_
  have HF:=qh (show m8 W C ms P T (returned (tuple #[↑w3.heap.size,J 0])) (w3.alloc (cells #[pointer (some ⟨a,0,none⟩),↑tb,↑lb,.bool ms.1.rd] 121))from by
    have P0:=(Below.refl w3.heap.size w3).alloc (Nat.le_refl _) (cells #[pointer (some ⟨a,0,none⟩),↑tb,↑lb,.bool ms.1.rd] 121);obtain⟨G,mP,V,JL⟩:=I.o.2;have I':=(G.fpa _ _ _ _ _ _ V).1;have Vd:=(O.o.trans ((I.o.1.trans (B3.o.1.mono I.o.1.size)).mono O.o.size)).trans (P0.mono ahE);refine⟨_,0,rfl,λ_=>rfl,λ_=>⟨OK.o,⟨b,a,g,w3.heap.size,lb,tb,w3.heap.size+1⟩,w2.heap.size,rfl,G,mP,⟨?_,Blk.new _ _ _,λhm=>?_,by show ms.1.hi b<=w3.heap.size+1;omega,by show w3.heap.size<w3.heap.size+1;omega,by simp⟩,λx hx=>?_,⟨by show W.heap.size<=w3.heap.size;omega,Wx.o⟩,⟨Ya,by show W.heap.size<=tb;omega,by show tb<w3.heap.size;omega,B3.o.2.below P0⟩,Vd⟩,λe=>absurd rfl e,Vd⟩;. exact G.far _ _ _ _ _ _ _ [] V (aa.of_below (B3.o.1.trans (P0.mono ahE))) ahF
    . have:w3.heap.size<ms.1.hi b:=I' _ hm;omega
    . have:=JL x hx;omega)
  go_wp2;go_ret2;exact HF.o
def BH{k:Int}(hP:RdL W vP 1 encI P)(hT:RdL W vT 1 encI T)(I:¬((1<=k/\k<=13)/\a8 P T=0)):E 20 #[agg #[vP,vT],agg #[J k,J gl,J lo,J pa,J bu]] W λe w'=>∃c:Int,c≠0/\e= returned (tuple #[.pointer none,J c])/\Below W.heap.size W w':=by
  refine ajn ?_;intro Jt w0 C';rw[<-C']at Jt;have H:Blk w0 W.heap.size 24 #[vP,vT]:=by rw[C'];exact(Blk.new W _ _).alloc _
  refine ajj ?_;intro k2
  have HC:=qh (λgs (h:Below w0.heap.size w0 gs)=>show gs.cell? W.heap.size=some vP/\Z gs W.heap.size 1 vT/\Z gs (W.heap.size+1) 0 (J k)/\Z gs (W.heap.size+1) 1 (J gl)/\Z gs (W.heap.size+1) 2 (J lo)/\Z gs (W.heap.size+1) 3 (J pa)/\gs.cell? ⟨W.heap.size+1,4,none⟩=some (J bu)from
    ⟨(H.below h H.lt).cell 0,(H.below h H.lt).cell 1,(k2.below h k2.lt).cell 0,(k2.below h k2.lt).cell 1,(k2.below h k2.lt).cell 2,(k2.below h k2.lt).cell 3,(k2.below h k2.lt).cell 4⟩)
  have HB:=qh (λgs a (h:Below w0.heap.size w0 gs)=>BG (W:=gs) (a:=a) (k:=k) (gl:=gl) (lo:=lo) (pa:=pa) (bu:=bu) (RdL.below (RdL.below hP Jt (Nat.le_refl _)) h (Nat.le_refl _)) (RdL.below (RdL.below hT Jt (Nat.le_refl _)) h (Nat.le_refl _)) I);have Y:=qh Jt;have Kh:=qh C';clear hP hT I Jt C' H k2;go_enter func20,ntmps20;go_wp2_with fail;rw[<-Kh.o];refine(td w0 4096).mono ?_;rintro en w1 ⟨a,g,rfl,hA,ha,hg,b1⟩;obtain⟨c0,c1,c2,c3,c4,c5,c6⟩:=HC.o w1 b1;have B1:=qh b1;clear b1 hA;go_wp2_with fail;refine(HB.o _ _ B1.o).mono ?_;rintro en w2 ⟨V,O,rfl,b2⟩;have Pt:(V !=0)=true:=by simpa using O
  have HF:=qh (And.intro (show V=0->False from O) (Y.o.trans ((B1.o.trans (b2.mono B1.o.size)).mono Y.o.size)));clear c0 c1 c2 c3 c4 c5 c6 b2 O;go_wp2;go_ret2;exact⟨V,HF.o.1,rfl,HF.o.2⟩
end
section
open Go Go.RowKit
variable{n:Nat}{S S':List Sp}{u v:Int}
structure SeU{n:Nat}(M:LkM n)(U:M.σ->List Sp):Prop where
 rd:M.rd=false
 sp:∀st i,M.sp st i=sv (U st) i
 len:∀st N,M.ok st N->n<=(U st).length
 step:∀st N i,M.ok st N->i<n->U (M.step st i)=U st\/∃p,U (M.step st i)=(U st).set i p/\(0<(sv (U st) i).pc->(sv (U st) i).pc<10->0<p.pc/\p.pc<=10)/\(10<(sv (U st) i).pc->p.pc=0\/10<p.pc)
 askT:∀st i,M.ask st i true=st
 ask:∀st N i,M.ok st N->i<n->(U (M.ask st i false)=U st/\(sv (U st) i).pc≠0)\/∃p,U (M.ask st i false)=(U st).set i p/\((sv (U st) i).pc=0->0<p.pc/\p.pc<10)/\((sv (U st) i).pc≠0->p=sv (U st) i)
 leave:∀st N i,M.ok st N->i<n->(U (M.leave st i)=U st/\(sv (U st) i).pc≠10)\/∃p,U (M.leave st i)=(U st).set i p/\((sv (U st) i).pc=10->10<p.pc)/\((sv (U st) i).pc≠10->p=sv (U st) i)
def fM{rd:Bool}(h:rd=false)(p:Sp):rdB rd p=false:=by unfold rdB;rw[h];rfl
def SeU.seen{M:LkM n}{U:M.σ->List Sp}(h:SeU M U):M.Seen where
 sO:=λst N i j H _ hi Y hne=>by
  rw[h.sp,h.sp]
  rcases h.step st N i H hi with e|⟨p,e,_⟩
  .rw[e]
  .exact acF
 s1:=λst N i H _ hi I h1=>by
  refine⟨?_,by rw[fM h.rd,fM h.rd]⟩
  rw[h.sp]at I h1 ⊢
  have O:=h.len st N H
  rcases h.step st N i H hi with e|⟨p,e,q,_⟩
  .rw[e];omega
  .rw[e,ba,if_pos ⟨rfl,by omega⟩];exact q I h1
 s3:=λst N i H _ hi I=>by
  rw[fM h.rd,fM h.rd]
  rw[h.sp]at I ⊢
  have O:=h.len st N H
  rcases h.step st N i H hi with e|⟨p,e,_,q⟩
  .rw[e];right;simpa using I
  .rw[e,ba,if_pos ⟨rfl,by omega⟩];have:=q I;simpa using this
 aO:=λst N i r j H _ hi Y hne=>by
  cases r
  .rw[h.sp,h.sp]
   rcases h.ask st N i H hi with⟨e,_⟩|⟨p,e,_⟩
   .rw[e]
   .exact acF
  .rw[h.askT]
 a1:=λst N i r H _ hi I V=>by
  have:r=false:=by cases r;rfl;exact absurd (V rfl) (by rw[h.rd];decide)
  subst this
  refine⟨?_,fM h.rd _⟩
  rw[h.sp]at I ⊢
  have O:=h.len st N H
  rcases h.ask st N i H hi with⟨_,q⟩|⟨p,e,q,_⟩
  .exact absurd I q
  .rw[e,ba,if_pos ⟨rfl,by omega⟩];exact q I
 aN:=λst N i r H _ hi I=>by
  cases r
  .rw[h.sp]at I ⊢
   rw[h.sp]
   rcases h.ask st N i H hi with⟨e,_⟩|⟨p,e,_,q⟩
   .rw[e]
   .rw[e,q I,ba];split<;>rfl
  .rw[h.askT]
 lO:=λst N i j H _ hi Y hne=>by
  rw[h.sp,h.sp]
  rcases h.leave st N i H hi with⟨e,_⟩|⟨p,e,_⟩
  .rw[e]
  .exact acF
 l1:=λst N i H _ hi I=>by
  refine⟨?_,by rw[fM h.rd,fM h.rd]⟩
  rw[h.sp]at I ⊢
  have O:=h.len st N H
  rcases h.leave st N i H hi with⟨_,q⟩|⟨p,e,q,_⟩
  .exact absurd I q
  .rw[e,ba,if_pos ⟨rfl,by omega⟩];exact q I
 lN:=λst N i H _ hi I=>by
  rw[h.sp]at I ⊢
  rw[h.sp]
  rcases h.leave st N i H hi with⟨e,_⟩|⟨p,e,_,q⟩
  .rw[e]
  .rw[e,q I,ba];split<;>rfl
def Bb(p:Sp):(p.pc=10->10<(a9 p).pc)/\(p.pc≠10->a9 p=p):=by unfold a9;split<;>simp[*]
def EO(k:Nat)(p:Sp):(p.pc=0->0<(askK k p).pc/\(askK k p).pc<10)/\(p.pc≠0->askK k p=p):=by
 unfold askK;split;.split<;>simp[*]
 .simp[*]
def PcOk(p p':Sp):Prop:=(0<p.pc->p.pc<10->0<p'.pc/\p'.pc<=10)/\(10<p.pc->p'.pc=0\/10<p'.pc)
def Id{k:Nat}(H:1<=k/\k<=5):(Dw k n m).Seen:=SeU.seen (U:=λst:Ar×List Sp=>st.2)
 {rd:=rfl
  sp:=λ_ _=>rfl
  len:=λ_ _ h=>Nat.le_of_eq h.i.len.symm
  step:=λ_ _ _ h hi=> .inr ⟨_,rfl,(i1 H (hY.at h hi).2).2⟩
  askT:=λ_ _=>rfl
  ask:=λ_ _ _ _ _=> .inr ⟨_,rfl,EO k _⟩
  leave:=λ_ _ _ _ _=> .inr ⟨_,rfl,Bb _⟩}
theorem Fm(n:Nat)(bud:Int)(h:Mal)(i:Nat)(p:Sp):PcOk p (maP n bud h i p).2.2.2:=by
 unfold maP;split;.unfold fi PcOk;grind
 .unfold dw PcOk kF;grind (splits:=40)
def lw(S S':List Sp)(i:Nat)(u v:Int):Prop:=(S'=S/\(sv S i).pc≠u)\/∃p,S'=S.set i p/\p.pc=v/\(sv S i).pc=u
def lw.ask(h:lw S S' i 0 1):(S'=S/\(sv S i).pc≠0)\/∃p,S'=S.set i p/\((sv S i).pc=0->0<p.pc/\p.pc<10)/\((sv S i).pc≠0->p=sv S i):=by exact acG
def lw.leave(h:lw S S' i 10 11):(S'=S/\(sv S i).pc≠10)\/∃p,S'=S.set i p/\((sv S i).pc=10->10<p.pc)/\((sv S i).pc≠10->p=sv S i):=by exact acG
def zx(h:Mal)(i:Nat)(u v:Int):lw h.S (ia h i u v).S i u v:=by
 unfold ia;split;.rename_i e;exact .inr ⟨_,rfl,rfl,e⟩
 .rename_i e;exact .inl ⟨rfl,e⟩
def Ig(n:Nat)(bud:Int):(wO n bud).Seen:=SeU.seen (U:=λst:Mal=>st.S)
 {rd:=rfl
  sp:=λ_ _=>rfl
  len:=λ_ _ h=>Nat.le_of_eq h.1.len.symm
  step:=fun(st:Mal) _ i _ _=>by
   show(dO n bud st i).1.S=st.S\/∃p,(dO n bud st i).1.S=_/\_
   unfold dO
   split
   .exact .inl rfl
   .exact .inr ⟨_,rfl,Fm ..⟩
  askT:=λ_ _=>rfl
  ask:=fun(st:Mal) _ i _ _=>(zx st i 0 1).ask
  leave:=fun(st:Mal) _ i _ _=>(zx st i 10 11).leave}
def kO(h:okI S (i:Int)):getS S (i:Int)=sv S i:=gh (by unfold okI at h;omega)
def ri(h:n<=S.length)(hi:i<n):okI S (i:Int):=by unfold okI;omega
def m7.len{dl:Int}{st:Hc}{N:Nat}(h:m7 dl P T st N):T.length<=st.S.length:=by obtain⟨G,h⟩:=h.1;exact Nat.le_of_eq h.iv.sl.symm
def rW{h:Hc}(hl:okI h.S (i:Int)):lw h.S (bj h i u v).1.S i u v:=by unfold bj;exact acH
theorem Ie(dl:Int)(P T:List Int):(Dx dl P T).Seen:=SeU.seen (U:=λst:Hc=>st.S)
 {rd:=rfl
  sp:=λ_ _=>rfl
  len:=fun(st:Hc) N h=>m7.len h
  step:=fun(st:Hc) N i hk hi=>by
   show(eX _ _ dl _ st i).1.S=st.S\/∃p,(eX _ _ dl _ st i).1.S=_/\_
   unfold eX
   split
   .rename_i h
    rw[kO h.1,Int.toNat_natCast]
    refine .inr ⟨_,rfl,?_⟩
    have hg:=h.2
    rw[kO h.1]at hg
    unfold im at hg
    show PcOk _ _
    unfold PcOk bm
    grind
   .exact .inl rfl
  askT:=λ_ _=>rfl
  ask:=fun(st:Hc) _ i hk hi=>(rW (u:=0) (v:=1) (ri (m7.len hk) hi)).ask
  leave:=fun(st:Hc) _ i hk hi=>(rW (u:=10) (v:=11) (ri (m7.len hk) hi)).leave}
def rV{h:Cn}(hl:okI h.S (i:Int)):lw h.S (bN h i u v).1.S i u v:=by unfold bN;exact acH
theorem yM(n:Nat)(node:Nat->Int)(bud:Int)(h:Cn)(i:Nat)(p:Sp):PcOk p (ah n node bud h i p).2.2:=by
 unfold ah;split;.unfold inC PcOk;grind
 split;.unfold jA PcOk;grind
 split;.unfold me ez PcOk;grind
 .unfold dU PcOk;grind (splits:=30)
def Ib(n:Nat)(nd:List Int)(bud:Int):(wN bud nd n).Seen:=SeU.seen (U:=λst:Cn=>st.S)
 {rd:=rfl
  sp:=λ_ _=>rfl
  len:=fun(st:Cn) N h=>Nat.le_of_eq h.1.len.symm
  step:=fun(st:Cn) N i hk hi=>by
   show(fD n (ndf nd) bud st i).1.S=st.S\/∃p,(fD n (ndf nd) bud st i).1.S=_/\_
   unfold fD
   split
   .rename_i h
    rw[kO h.1,Int.toNat_natCast]
    exact .inr ⟨_,rfl,yM ..⟩
   .exact .inl rfl
  askT:=λ_ _=>rfl
  ask:=fun(st:Cn) _ i hk hi=>(rV (u:=0) (v:=1) (ri (Nat.le_of_eq hk.1.len.symm) hi)).ask
  leave:=fun(st:Cn) _ i hk hi=>(rV (u:=10) (v:=11) (ri (Nat.le_of_eq hk.1.len.symm) hi)).leave}
theorem CT(c:CoC)(st:Co)(i:Nat)(p:Sp):PcOk p (cX c st i p).2.2.2:=by
 unfold cX;split;.unfold xX PcOk;grind
 .unfold pP PcOk;grind
def Ic(c:CoC)(P T:List Int)(L:Nat):(Dv c P T L).Seen:=SeU.seen (U:=λst:Co=>st.T)
 {rd:=rfl
  sp:=λ_ _=>rfl
  len:=fun(st:Co) N h=>h.2.1.v.lT
  step:=fun(st:Co) N i hk hi=>by
   show(aj c st i).T=st.T\/∃p,(aj c st i).T=_/\_
   unfold aj iF
   split
   .exact .inl rfl
   .exact .inr ⟨_,rfl,CT ..⟩
  askT:=λ_ _=>rfl
  ask:=fun(st:Co) _ i _ _=>lw.ask (by
   show lw st.T (bz c st i).T i 0 1
   unfold bz
   split
   .rename_i e;exact .inr ⟨_,rfl,rfl,e⟩
   .rename_i e;exact .inl ⟨rfl,e⟩)
  leave:=fun(st:Co) _ i _ _=>lw.leave (by
   show lw st.T (az st i).T i 10 11
   unfold az
   split
   .rename_i e;exact .inr ⟨_,rfl,rfl,e⟩
   .rename_i e;exact .inl ⟨rfl,e⟩)}
def qw(T:HTr)(bud:Int)(i:Nat):∀(f:Nat) (m:Hm) (k:Nat),((gr T bud f m i k).S=m.S/\(k<T.D->f+k<T.D))\/∃p,(gr T bud f m i k).S=m.S.set i p/\10<p.pc
 |0,m,k=> .inl ⟨rfl,λh=>by omega⟩
 |f+1,m,k=>by
  have w:∀v j u c,(eI m v j u c).S=m.S:=λv j u c=>by unfold eI;split<;>rfl
  unfold gr;split;.exact acI
  .split;.exact acI
   .rcases qw T bud i f m (k+1)with⟨h1,h2⟩|h
    .exact .inl ⟨h1,λq=>by omega⟩
    .exact .inr h
def If(T:HTr)(Y:T.Ok)(bud:Int):(Bg T bud).Seen:=SeU.seen (U:=λst:HmA=>st.m.S)
 {rd:=rfl
  sp:=λ_ _=>rfl
  len:=fun(st:HmA) N h=>by obtain⟨I,h⟩:=h.1;exact Nat.le_of_eq ((h.x 0).sl).symm
  step:=fun(st:HmA) N i hk hi=>by
   show(stepI T bud st.m i).S=st.m.S\/∃p,(stepI T bud st.m i).S=_/\_
   have H':(sv st.m.S i).pc=0\/(sv st.m.S i).pc=1\/(sv st.m.S i).pc=10\/10<(sv st.m.S i).pc:=by
    obtain⟨I,h⟩:=hk.1
    obtain⟨K,h,_⟩:=h.t i hi
    cases h<;>omega
   unfold stepI
   split
   case isFalse=>exact .inl rfl
   rename_i h
   rw[Int.toNat_natCast]
   unfold jQ
   split
   .exact .inl rfl
   rename_i h0
   simp only
   split
   .exact .inl rfl
   split
   .exact .inl rfl
   have ask:∀m v j,(iE m v j).S=m.S:=λm v j=>by unfold iE;split<;>rfl
   have wth:∀m v j u c,(eI m v j u c).S=m.S:=λm v j u c=>by unfold eI;split<;>rfl
   split
   .rename_i e1
    unfold jy
    split
    .exact .inr ⟨_,rfl,λ_ _=>by simp,λq=>by omega⟩
    .refine .inr ⟨_,by show((iE _ _ _).S).set i _=_;rw[ask];rfl,λ_ _=>?_,λq=>by omega⟩
     show 0<(sv st.m.S i).pc/\(sv st.m.S i).pc<=10
     omega
   split
   .unfold jz
    split
    .exact .inr ⟨_,rfl,λO V=>ahE,λ_=> .inl rfl⟩
    .exact .inr ⟨_,by show((eI _ _ _ _ _).S).set i _=_;rw[wth];rfl,λO V=>ahE,λ_=> .inr ahF⟩
   .rcases qw T bud i T.D (rstH st.m (T.pl i (sv st.m.S i).c.toNat) (T.sl i (sv st.m.S i).c.toNat)) ((sv st.m.S i).c.toNat+1)with⟨h1,_⟩|⟨p,h1,H⟩
    .exact .inl h1
    .exact .inr ⟨p,h1,λO V=>ahE,λ_=> .inr H⟩
  askT:=λ_ _=>rfl
  ask:=fun(st:HmA) _ i hk hi=>lw.ask (by
   show lw st.m.S (kI T st.m i).S i 0 1
   obtain⟨I,h⟩:=hk.1
   unfold kI
   rw[if_pos (h.okN hi).1,Int.toNat_natCast]
   unfold pJ
   split
   .rename_i e;refine .inr ⟨_,by show((iE _ _ _).S).set i _=_;unfold iE;split<;>rfl,rfl,e⟩
   .rename_i e;exact .inl ⟨rfl,e⟩)
  leave:=fun(st:HmA) _ i hk hi=>by
   show((gw T bud st.m i).S=_/\_)\/∃p,(gw T bud st.m i).S=_/\_
   obtain⟨I,h⟩:=hk.1
   unfold gw
   rw[if_pos (h.okN hi).1,Int.toNat_natCast]
   unfold j7
   split
   .rename_i e
    rcases qw T bud i T.D st.m 0 with⟨h1,H⟩|⟨p,h1,H⟩
    .have:=H (by have:=Y.d1;omega);omega
    .exact .inr ⟨p,h1,λ_=>H,λq=>absurd e q⟩
   .rename_i e;exact .inl ⟨rfl,e⟩}
end
section
open Go Go.RowKit
structure kv.See(F:kv)(c:CoC)(P T:List Int)(L:Nat):Prop where
 step:∀B x i,F.ok c T.length (ac P).length L (mtQ P T) B x->i<T.length->(F.step c (ac P).length x i).U=x.U\/∃p,(F.step c (ac P).length x i).U=x.U.set i p/\PcOk (sv x.U i) p/\(p.pc≠0->p.a=(sv x.U i).a)
 askN:∀x i r,(sv x.U i).pc≠0->F.ask c x i r=x
 ask:∀x i r,(sv x.U i).pc=0->∃p:Sp,(F.ask c x i r).U=x.U.set i p/\(0<p.pc/\p.pc<10)/\p.a=if r then 1 else 0
def BW{F:kv}{c:CoC}(K:F.Ok c P T L)(h:F.See c P T L):(Dy F c P T L).Seen where
 sO:=fun(x:Nu) N i j hk _ hi hj hne=>by
  show sv (F.step c _ x i).U j=sv x.U j
  rcases h.step _ x i hk.1 hi with e|⟨p,e,_⟩
  .rw[e]
  .exact acF
 s1:=fun(x:Nu) N i hk _ hi H h1=>by
  show(0<(sv (F.step c _ x i).U i).pc/\(sv (F.step c _ x i).U i).pc<=10)/\rdB true (sv (F.step c _ x i).U i)=rdB true (sv x.U i)
  have I:=K.lU _ x hk.1
  replace H:0<(sv x.U i).pc:=H
  replace h1:(sv x.U i).pc<10:=h1
  rcases h.step _ x i hk.1 hi with e|⟨p,e,q,qa⟩
  .rw[e];exact⟨by omega,rfl⟩
  .rw[e,ba,if_pos ⟨rfl,by omega⟩]
   have:=q.1 H h1
   exact⟨this,by unfold rdB;rw[qa ahE]⟩
 s3:=fun(x:Nu) N i hk _ hi H=>by
  show(sv (F.step c _ x i).U i).pc=0\/10<(sv (F.step c _ x i).U i).pc/\rdB true (sv (F.step c _ x i).U i)=rdB true (sv x.U i)
  have I:=K.lU _ x hk.1
  replace H:10<(sv x.U i).pc:=H
  rcases h.step _ x i hk.1 hi with e|⟨p,e,q,qa⟩
  .rw[e];exact .inr ⟨H,rfl⟩
  .rw[e,ba,if_pos ⟨rfl,by omega⟩]
   rcases q.2 H with e0|e0
   .exact .inl e0
   .exact .inr ⟨e0,by unfold rdB;rw[qa ahE]⟩
 aO:=fun(x:Nu) N i r j hk _ hi hj hne=>by
  show sv (F.ask c x i r).U j=sv x.U j
  by_cases e:(sv x.U i).pc=0
  .obtain⟨p,e,_⟩:=h.ask x i r e
   exact acF
  .rw[h.askN x i r e]
 a1:=fun(x:Nu) N i r hk _ hi H _=>by
  show(0<(sv (F.ask c x i r).U i).pc/\(sv (F.ask c x i r).U i).pc<10)/\rdB true (sv (F.ask c x i r).U i)=r
  have I:=K.lU _ x hk.1
  obtain⟨p,e,q,qa⟩:=h.ask x i r H
  rw[e,ba,if_pos ⟨rfl,by omega⟩]
  exact⟨q,by unfold rdB;rw[qa];cases r<;>rfl⟩
 aN:=fun(x:Nu) N i r hk _ hi H=>by
  show sv (F.ask c x i r).U i=sv x.U i
  rw[h.askN x i r H]
 lO:=fun(x:Nu) N i j hk _ hi hj hne=>by
  show sv (aE x i).U j=sv x.U j
  unfold aE
  split
  .show sv (x.U.set i _) j=_
   rw[ba,if_neg (λq=>hne q.1.symm)]
  .rfl
 l1:=fun(x:Nu) N i hk _ hi H=>by
  show 10<(sv (aE x i).U i).pc/\rdB true (sv (aE x i).U i)=rdB true (sv x.U i)
  have I:=K.lU _ x hk.1
  replace H:(sv x.U i).pc=10:=H
  have O:=(K.link _ x hk.1 i hi).2 ahE
  unfold aE
  rw[if_pos H]
  show 10<(sv (x.U.set i _) i).pc/\rdB true (sv (x.U.set i _) i)=_
  rw[ba,if_pos ⟨rfl,by omega⟩]
  exact⟨by show 10<12-(sv x.U i).a;omega,rfl⟩
 lN:=fun(x:Nu) N i hk _ hi H=>by
  show sv (aE x i).U i=sv x.U i
  replace H:¬(sv x.U i).pc=10:=H
  unfold aE
  rw[if_neg H]
def mW(c:CoC)(x:Nu)(i:Nat)(r:Bool):((sv x.U i).pc≠0->cE c x i r=x)/\((sv x.U i).pc=0->∃p:Sp,(cE c x i r).U=x.U.set i p/\(0<p.pc/\p.pc<10)/\p.a=if r then 1 else 0):=by
 unfold cE;constructor;.intro h;rw[if_neg h]
 .intro h;exact acJ
theorem Ii(c:CoC)(P T:List Int)(L:Nat):tD.See c P T L where
 askN:=λx i r=>(mW c x i r).1
 ask:=λx i r=>(mW c x i r).2
 step:=λB x i h hi=>by
  show(cD c _ x i).U=x.U\/∃p,(cD c _ x i).U=x.U.set i p/\_
  unfold cD
  split
  .exact .inl rfl
  split
  .refine .inr ⟨_,rfl,?_,λ_=>rfl⟩
   unfold PcOk;grind
  .refine .inr ⟨_,rfl,?_,λ_=>by unfold nuTo;split<;>rfl⟩
   unfold PcOk nuTo rh;grind
theorem Ij(c:CoC)(P T:List Int)(L:Nat):tF.See c P T L where
 askN:=λx i r=>(mW c x i r).1
 ask:=λx i r=>(mW c x i r).2
 step:=λB x i I hi=>by
  show(a6 c _ x i).U=x.U\/∃p,(a6 c _ x i).U=x.U.set i p/\_
  have H:=RsI.k (RsS.i I) i hi
  unfold a6
  split
  .exact .inl rfl
  .refine .inr ⟨_,rfl,?_,λ_=>rfl⟩
   unfold io at H
   unfold PcOk fk
   rcases H with h|h|h|h|h<;>grind
theorem Ik(c:CoC)(P T:List Int)(L:Nat):tH.See c P T L where
 askN:=λx i r h=>by show fb x i r=x;unfold fb;rw[if_neg h]
 ask:=λx i r h=>by
  show ∃p:Sp,(fb x i r).U=_/\_
  unfold fb
  exact acJ
 step:=λB x i I hi=>by
  show(bh c _ x i).U=x.U\/∃p,(bh c _ x i).U=x.U.set i p/\_
  have H:=WsI.k (WsS.i I) i hi
  unfold bh
  split
  .exact .inl rfl
  .refine .inr ⟨_,rfl,?_,λ_=>rfl⟩
   unfold gU at H
   unfold PcOk iC
   rcases H with h|h|h|h|h|h<;>grind
end
end Go.Proofs.YtglokdbiggbkjaaGreat
