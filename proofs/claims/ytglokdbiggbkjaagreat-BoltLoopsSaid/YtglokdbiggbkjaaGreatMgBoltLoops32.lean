/- Joined texts. -/
import Derived.Test.YtglokdbiggbkjaaGreatMgBoltLoops0
import Derived.Test.YtglokdbiggbkjaaGreatMgBoltLoops3
import Derived.Test.YtglokdbiggbkjaaGreatMgBoltLoops27
set_option linter.unusedVariables false
set_option linter.unusedSimpArgs false
set_option linter.defProp false
set_option maxRecDepth 100000
set_option maxHeartbeats 16000000
open Go.Proofs.Tryz
namespace Go.Proofs.YtglokdbiggbkjaaGreat
open Go.IntKind(i64)
open Go.Value(int bool slice agg tuple pointer)
open Go.Ending(returned)
open Go.Obj(cells)
variable{f:FuncId}{ty:TypeId}{a g:Nat}
section
open Go.RowKit
def Fz(ty:TypeId)(w:World)(a g:Nat)(s:Ar)(kg kl par:Nat)(bud:Int)(P T:List Int)(e:Ending)(w':World):Prop:=
 ∃(B BC:Nat->Prop) (X:SmX),e= returned (tuple #[↑X.l,J 0])/\aw ty B BC w' a g X (fm kg kl par bud P T (smA s (ac P).length)) P T (bG kg kl par P T (smA s (ac P).length)) dr0 (List.replicate T.length Sp.zero)/\(∀i∈SmS a g X,i=a\/i=g\/w.heap.size<=i)/\aa [a,g] w w'/\∀i,i<w.heap.size\/w'.heap.size<=i->¬B i/\¬fb X.x BC i/\i≠X.l/\i≠X.gg
inductive MdN:FuncId->TypeId->Prop
 |n:MdN 148 330
 |r:MdN 149 335
 |w:MdN 150 337
def IL(K:MdN f ty){w:World}{s:Ar}(h:aB w a g s)(hs:s.W=[])(L0:a≠g)(vP vT:Value)(P T:List Int)(hP:RdL w vP 1 encI P)(hT:RdL w vT 1 encI T)(NM:∀i,vP.ownBlock=some i->i≠a/\i<w.heap.size)(P3:∀i,vT.ownBlock=some i->i≠a/\i<w.heap.size)(hc:a5 P T=0)(kg kl:Nat)(hG:KOk kg)(hL:KOk kl)(par:Nat)(hp:1<=par/\par<=4)(bud:Int)(hb:0<=bud/\bud<=3)(I:s.room=4096)(V:s.ops<=1000):Calls prog f #[pointer (some ⟨a,0,none⟩),agg #[vP,vT],agg #[J (kg:Int),J (kl:Int),J par,J bud]] w λe w'=>Fz ty w a g s kg kl par bud P T e w':=by
  obtain⟨i0,hi,Kr,Ku,al⟩:=info_parts Tryz.infoSpF;have KX:=bh (aR hc).1;refine ajz ?_;intro LP L9 Mp My;have MF:(ac P).length<=32:=by exact aaC
  have P1:1<=(ac P).length:=by exact aa8
  have L5:=qh (And.intro hG (And.intro hL (And.intro hp hb)));have H:=qh (And.intro h (And.intro LP (And.intro L9 L0)));have O7:=qh (And.intro (And.intro hP NM) (And.intro hT P3));refine ajN ?_;intro HN Lg;have HS:=qh (And.intro hs (And.intro I V));refine ai9 ?_;intro hlo B0 L8;rw[show(w.alloc (cells #[vP,vT] 24)).heap.size=w.heap.size+1 by simp]at L8;have Pf:=(Blk.new w 24 #[vP,vT]).alloc (cells #[J (kg:Int),J (kl:Int),J par,J bud] 36);have BX:=qh (And.intro L8 Pf);clear h hP hT NM P3 hs I V KX LP L9 hc L8 Pf hG hL hp hb L0;cases K
  all_goals
    first| go_enter func148,ntmps148| go_enter func149,ntmps149| go_enter func150,ntmps150
    go_wp2_with fail;refine HN.o.mono ?_;rintro en w1 ⟨b,rfl,hb,t1,b1⟩;rw[hlo]at hb t1 b1;have tn:aa [] ((w.alloc (cells #[vP,vT] 24)).alloc (cells #[J (kg:Int),J (kl:Int),J par,J bud] 36)) w1:=⟨b1.os,b1.tape,b1.output,b1.size,λi hi _=>b1.block i ahB⟩;have O:=qh (And.intro (t1.q Lg.o) (And.intro (B0.o.trans (b1.mono ahB)) (And.intro (tn.blk BX.o.1 ahC) (And.intro (tn.blk BX.o.2 ahC) hb))));clear t1 b1 hb HN BX B0 tn;go_wp2_with fail;refine LT (eo _ _ _ _ (O.o.1.tab Lg.o)) ?_;go_wp2_with (refine wpList_make_full _ rfl _ _ 237 rfl w1.heap.size 113 i0 (agg #[J 0,J 0,J 0,J 0]) 4 Tryz.underlying237 hi Kr Ku .i64 .i64 T.length T.length T.length rfl rfl rfl rfl ?b2 ?b3 (Nat.le_refl _) ?_);case b2=>rw[al];omega
    case b3=>unfold maxLen;omega
    intro w4 t3 hg;have hb:dD w4 w1.heap.size (List.replicate T.length Sp.zero):=(by unfold dD;rw[wC];have:=gc t3;have e:(madeCells #[Value.int .i64 0,J 0,J 0,J 0] (T.length*4)).toList=List.replicate (T.length*4) (J 0):=rL _ _;exact aa5);have t4:aa [] w1 w4:=aa.of_below ((Below.refl w1.heap.size w1).grown hg (Nat.le_refl _) (λj hj=>by cases hj));have MB:=hb.lt;have H4:=qh (And.intro hb (And.intro t4 MB));clear t3 hg hb t4 MB;go_upto_region 5 with fail;obtain⟨q,hq⟩:=LE w1.heap.size;rw[<-hq]at H4 ⊢;have HQ:=qh hq;clear hq;obtain⟨l,hl⟩:=LE w4.heap.size;generalize Lp:w4.alloc (.cells _ _)=w5;replace Lp:=Lp.symm;rw[<-hl];have RJ:=qh (show Blk w5 l _ #[pointer (some ⟨a,0,none⟩),↑b,.pointer none,.pointer none,J 0,.pointer none,slice (some ⟨q,0,none⟩) T.length T.length]from by rw[Lp,hl];exact Blk.new _ _ _);have H5:=qh (show aa [] w1 w5 from by rw[Lp];exact H4.o.2.1.alloc _);have Tu:=qh (show dD w5 q (List.replicate T.length Sp.zero)from by rw[Lp];exact H4.o.1.turns (T:=[]) ((aa.refl _ _).alloc _) ahC)
    have HO:=qh (show a<w.heap.size/\g<w.heap.size/\a≠g/\w.heap.size+2<=b/\b<w1.heap.size/\w1.heap.size=q/\q<l/\w5.heap.size=l+1 from by
      have e1:b<w1.heap.size:=O.o.1.low.2;have e2:=O.o.2.2.2.2;have e3:=H4.o.2.2;have e4:=H.o;have e5:=HQ.o;rw[Lp,hl];simp
      omega)
    have OG:Kq (∀W,aa [l,b,a] w5 W->(Z W (w.heap.size+1) 0 (J (kg:Int))/\Z W (w.heap.size+1) 1 (J (kl:Int))/\Z W (w.heap.size+1) 2 (J par)/\Z W (w.heap.size+1) 3 (J bud))/\(W.cell? w.heap.size=some vP/\Z W w.heap.size 1 vT)/\RdL W vP 1 encI P/\RdL W vT 1 encI T):=qh λW hW=>by
      have o:=HO.o;have t:aa [l,b,a] w1 W:=(H5.o.mono ahC).trans hW;have n:w.heap.size+1∉[l,b,a]:=(by simp;omega);have n2:w.heap.size∉[l,b,a]:=(by simp;omega);have b1:=t.blk O.o.2.2.1 n;have b2:=t.blk O.o.2.2.2.1 n2;refine⟨⟨b1.cell 0,b1.cell 1,b1.cell 2,b1.cell 3⟩,⟨b2.cell 0,b2.cell 1⟩,?_,?_⟩;. exact(O7.o.1.1.below O.o.2.1 (Nat.le_refl _)).turns t λi hi hm=>by have:=O7.o.1.2 i hi;simp at hm;omega
      . exact(O7.o.2.1.below O.o.2.1 (Nat.le_refl _)).turns t λi hi hm=>by have:=O7.o.2.2 i hi;simp at hm;omega
    obtain⟨N,hN⟩:=LE ((ac P).length);rw[<-hN]at MF P1;have Pz:=qx (λi=>w.heap.size+2<=i/\i<w1.heap.size) w5 b P T Lg.o (O.o.1.turns H5.o ahC);rw[<-hN]at Pz;have OF:=qh Pz;have Mv:=qh hN;have S5:=qh ((H.o.1.turns (aa.of_below (S:=[]) O.o.2.1) ahC ahC).turns H5.o ahC ahC);clear Lp hl hN Pz H4;go_wp2_with fail;refine Op OF.o λw6 t6=>?_;have Q6:=qh (And.intro t6.o.1.lt t6.o.2);have XJ:=qh (S5.o.turns t6.o.2 ahK ahK);go_wp2_with fail;refine(BP XJ.o N P1 MF HS.o.1 HS.o.2.1).mono ?_;rintro en w7 ⟨gg,rfl,PH,Wr,Wq,t7⟩;have Sx:l∉[a]:=(by have:=HO.o;simp;omega);have M8:Blk w7 l _ _:=t7.blk (Q6.o.2.blk RJ.o ahK) Sx;have YT:Z w7 l 2 (.pointer none):=M8.cell 2;have bF:=M8.free 2;have H7:=qh (And.intro PH (And.intro Wr (And.intro Wq t7)));have U5:=qh M8;clear PH Wr Wq t7 M8;go_upto_region 6 with fail;obtain⟨w8,OY⟩:=LE (w7.setCell ⟨l,2,none⟩ ↑gg);rw[<-OY];have ds:l<w7.heap.size:=U5.o.lt;have cu:l<gg:=(by have e1:=Q6.o.2.size;have e2:=H7.o.1;have e3:=HO.o;omega);have OC:aa [l] w7 w8:=(by rw[OY];exact(aa.refl _ _).setCell (.inl ahC) _);have PQ:=qh (show Blk w8 l _ #[pointer (some ⟨a,0,none⟩),↑b,↑gg,.pointer none,J 0,.pointer none,slice (some ⟨q,0,none⟩) T.length T.length]from by rw[OY];exact U5.o.set_ 2 _);have UZ:=qh (H7.o.2.2.1.turns OC ahK ahK);have M7:=qh (OC.blk H7.o.2.1 ahG);have QH:=qh (show aa [l,b,a] w5 w8 from((Q6.o.2.mono ahC).trans (H7.o.2.2.2.mono ahC)).trans (OC.mono ahC));have Uo:(bz s (2*N)).W.length=2*N:=(by unfold bz;rw[HS.o.1];simp);have ZN:l<w8.heap.size:=PQ.o.lt;have UY:=qh OC;clear OY YT bF OC;have Ty:=mZ UZ.o 1 (by rw[Uo];show 2*N+1<=s.room;rw[HS.o.2.1];omega);rw[Uo]at Ty;have VA:=qh Ty;clear Ty;go_wp2_with fail;refine Op VA.o λw9 k9=>?_;have Mo:Blk w9 l _ _:=k9.o.2.blk PQ.o Sx;have YU:Z w9 l 4 (J 0):=Mo.cell 4;have bP:=Mo.free 4;have H9:=qh (And.intro k9.o.1 (And.intro k9.o.2 Mo));clear Mo;go_upto_region 9 with fail;obtain⟨fl,Nb⟩:∃f:Int,f=2*(N:Int)+1:=⟨_,rfl⟩;have Zx:((2*N:Nat):Int)+1=fl:=(by omega);obtain⟨w10,SP⟩:=LE (w9.setCell ⟨l,4,none⟩ (J fl));rw[<-Nb,<-SP];have UV:aa [l] w9 w10:=(by rw[SP];exact(aa.refl _ _).setCell (.inl ahC) _);have U0:=qh (show Blk w10 l _ #[pointer (some ⟨a,0,none⟩),↑b,↑gg,.pointer none,J fl,.pointer none,slice (some ⟨q,0,none⟩) T.length T.length]from by rw[SP];exact H9.o.2.2.set_ 4 _);have Tx:=qh (show aa [l,a] w8 w10 from(H9.o.2.1.mono ahC).trans (UV.mono ahC));have XI:=qh (H9.o.1.turns UV ahK ahK);have Tp:=qh (OG.o w10 (QH.o.trans (Tx.o.mono ahC)));have WD:(bz (bz s (2*N)) 1).W.length=2*N+1:=by show((bz s (2*N)).W++_).length=_;rw[List.length_append,Uo];simp
    have U9:=qh (ox XI.o vP vT P T Tp.o.2.2.1 Tp.o.2.2.2 Lg.o kg kl L5.o.1 L5.o.2.1 par L5.o.2.2.1 bud (by have:=L5.o.2.2.2;omega) (by
      show _<=s.room
      rw[WD,HS.o.2.1];omega) (by rw[WD];omega) (by show s.ops+100<=_;have:=HS.o.2.2;omega))
    obtain⟨⟨p0,p1,p2,p3⟩,⟨y0,y1⟩,_⟩:=Tp.o;have HF:=qh Nb;clear SP YU bP UV Nb Zx VA;go_wp2_with fail;refine U9.o.mono ?_;rintro en w11 ⟨Y,BC,rfl,Xm,Xr,UT⟩;have Z6:l∉[a,g]:=(by have:=HO.o;simp;omega);have R2:Blk w11 l _ _:=UT.blk U0.o Z6;have YP:Z w11 l 5 (.pointer none):=R2.cell 5;have ad:=R2.free 5;have Mf:=qh (And.intro Xm (And.intro Xr (And.intro UT R2)));clear Xm Xr UT R2 p0 p1 p2 p3 y0 y1 U9;go_upto_region 12 with fail;obtain⟨w12,SQ⟩:=LE (w11.setCell ⟨l,5,none⟩ ↑Y.l);rw[<-SQ];have RB:aa [l] w11 w12:=(by rw[SQ];exact(aa.refl _ _).setCell (.inl ahC) _);have S6:=qh (show Blk w12 l _ #[pointer (some ⟨a,0,none⟩),↑b,↑gg,.pointer none,J fl,↑Y.l,slice (some ⟨q,0,none⟩) T.length T.length]from by rw[SQ];exact Mf.o.2.2.2.set_ 5 _);have Yu:=qh (show aa [l,a,g] w8 w12 from((Tx.o.mono ahC).trans (Mf.o.2.2.1.mono ahC)).trans (RB.mono ahC));have Wi:¬fb Y BC l:=λhb=>by have e1:=Mf.o.2.1 l hb;have e2:=U0.o.lt;omega
    have U7:=qh (Mf.o.1.arAway RB (s':=(bG kg kl par P T (bz (bz s (2*N)) 1)).s) (Mf.o.1.ar.turns RB ahK ahK) (λi hi=> .inr (.inr (by simp at hi;rw[hi];exact Wi))));have Yl:=qh (show w11.heap.size<=w12.heap.size from RB.size);have g2:Z w12 l 2 ↑gg:=S6.o.cell 2;have ZM:l<w12.heap.size:=S6.o.lt;clear SQ YP ad RB;go_wp2_with fail;refine(F1 w12 gg).mono ?_;rintro en w13 ⟨dd,rfl,Of,VI,Sk⟩;have R3:Blk w13 l _ _:=S6.o.below Of ZM;have cp:Z w13 l 3 (.pointer none):=R3.cell 3;have cV:=R3.free 3;have Nm:=qh (And.intro Of (And.intro R3 (And.intro VI Sk)));clear Of R3 VI Sk g2;go_wp2;go_ret2;have o:=HO.o;obtain⟨w14,Qk⟩:=LE (w13.setCell ⟨l,3,none⟩ ↑dd);rw[<-Qk];have SZ:aa [l] w12 w14:=(by rw[Qk];exact(aa.of_below Nm.o.1).trans ((aa.refl _ _).setCell (.inl ahC) _));have U1:=(show Blk w14 l _ #[pointer (some ⟨a,0,none⟩),↑b,↑gg,↑dd,J fl,↑Y.l,slice (some ⟨q,0,none⟩) T.length T.length]from by rw[Qk];exact Nm.o.2.1.set_ 3 _);have RF:aa [l,a,g] w8 w14:=Yu.o.trans (SZ.mono ahC)
    have XF:aa [l,a,g] w6 w14:=((H7.o.2.2.2.mono ahC).trans (show aa [l,a,g] w7 w8 from by
      refine aa.mono ?_ (S:=[l]) ahC
      exact UY.o)).trans RF
    have Sk:=Nm.o.2.2.2;have bT:=Mf.o.2.2.1.size;have bV:=Yl.o;have ef:=QH.o.size;have cM:=Tx.o.size;have ec:=H7.o.2.2.2.size;have ee:=UY.o.size;have g7:=H7.o.2.1.lt;have Xz:=Q6.o.2.size;have cv:=H7.o.1;have bA:aa [l] w13 w14:=(by rw[Qk];exact(aa.refl _ _).setCell (.inl ahC) _);have YO:=bA.blk Nm.o.2.2.1 ahG;have Wh:=U7.o.arAway SZ (s':=(bG kg kl par P T (bz (bz s (2*N)) 1)).s) (U7.o.ar.turns SZ ahG ahG) (λi hi=> .inr (.inr (by simp at hi;rw[hi];exact Wi)));have Sh:∀i,fb Y BC i->w10.heap.size<=i/\i<w11.heap.size:=Mf.o.2.1
    have KJ:∀i∈CoS a g Y,i=a\/i=g\/(w10.heap.size<=i/\i<w11.heap.size):=λi hi=>by
      unfold CoS at hi;simp only[List.mem_cons]at hi;rcases hi with rfl|rfl|rfl|rfl|hi
      . exact .inl rfl
      . exact .inr (.inl rfl)
      . exact .inr (.inr (Sh _ (.inr (.inr (.inl rfl)))))
      . exact .inr (.inr (Sh _ (.inr (.inr (.inr (.inl (.inr (.inr rfl))))))))
      . obtain⟨y,hy,rfl⟩:=List.mem_map.1 hi;exact .inr (.inr (Sh _ (.inr (.inr (.inr (.inr (.inl ⟨y,hy,.inr (.inr rfl)⟩)))))))
    have Po:∀q,¬(w10.heap.size<=q/\q<w11.heap.size)->¬fb Y BC q:=λq hq hb=>hq (Sh q hb);have bc:¬(((w.heap.size+2<=q/\q<w1.heap.size)\/w5.heap.size<=q)/\q<w6.heap.size):=(by omega);have ax:¬(((w.heap.size+2<=dd/\dd<w1.heap.size)\/w5.heap.size<=dd)/\dd<w6.heap.size):=(by omega);have bW:=SZ.size;have cT:=XF.size;have cU:=RF.size;have ea:=U1.lt;refine⟨λi=>((w.heap.size+2<=i/\i<w1.heap.size)\/w5.heap.size<=i)/\i<w6.heap.size,BC,⟨l,q,b,gg,dd,Y⟩,rfl,?_,λi hi=>?_,?_,λi hi=>⟨by show ¬(_/\_);omega,Po i ahB,by show i≠l;omega,by show i≠gg;omega⟩⟩
    . refine⟨?_,⟨?_,?_,YO,by show(ac P).length<=32;rw[<-Mv.o];exact MF,⟨by show dd≠a;omega,by show dd≠g;omega,by show dd≠gg;omega⟩,⟨by show gg≠a;omega,by show gg≠g;omega⟩⟩,?_,?_,?_,by simp,λi hi=>?_,⟨Po q ahB,Po dd ahB⟩,⟨by show q≠l;omega,by show q≠gg;omega,by show q≠dd;omega,bc⟩,⟨by show dd≠l;omega,by show dd≠gg;omega,ax⟩⟩;. show Blk w14 l _ (smC a ⟨l,q,b,gg,dd,Y⟩ (ac P).length T.length);rw[<-Mv.o];unfold smC;show Blk w14 l _ #[pointer (some ⟨a,0,none⟩),↑b,↑gg,↑dd,J (2*(N:Int)+1),↑Y.l,slice (some ⟨q,0,none⟩) T.length T.length];have FL:fl=2*(N:Int)+1:=HF.o;rw[<-FL];exact U1
      . rw[<-Mv.o];exact Wh.ar
      . rw[<-Mv.o];exact RF.blk M7.o ahG
      . exact Q6.o.1.turns XF λi hi hB=>by simp at hi;omega
      . exact⟨[],by rw[List.append_nil];exact(show Blk w14 q _ _ from(Tu.o.turns (QH.o) ahG).turns RF ahG)⟩
      . rw[<-Mv.o];exact Wh
      . have hq:=KJ i hi;refine⟨?_,?_,?_,?_,?_⟩;. show i≠l;omega
        . show i≠q;omega
        . show i≠gg;omega
        . show i≠dd;omega
        . show ¬(_/\_);omega
    . unfold SmS at hi;simp only[List.mem_cons]at hi;rcases hi with hi|hi|hi
      . right;right;rw[hi];show w.heap.size<=q;omega
      . right;right;rw[hi];show w.heap.size<=dd;omega
      . have hq:=KJ i hi;omega
    . have bw:aa [a,g,l,b] w w5:=(aa.of_below (S:=[a,g,l,b]) O.o.2.1).trans (H5.o.mono ahC);have ab:aa [a,g,l,b] w w14:=(bw.trans (QH.o.mono (by intro i hi;simp at hi ⊢;omega))).trans (RF.mono (by intro i hi;simp at hi ⊢;omega));exact ab.fresh λi hi=>by simp at hi ⊢;omega
end
section
open Go.RowKit
variable{pt:TypeId}{md:Int}
def aw.foreign{B BC:Nat->Prop}{w:World}{q:Nat}{X:SmX}{c:CoC}{P T:List Int}{st:Co}{d:Dr}{U:List Sp}(h:aw ty B BC w a g X c P T st d U)(h1:¬B q/\¬fb X.x BC q/\q≠X.l/\q≠X.gg)(H:q∉SmS a g X)(i:Nat)(u:Value):aw ty B BC (w.setCell ⟨q,i,none⟩ u) a g X c P T st d U:=by unfold SmS CoS at H;simp only[List.mem_cons,not_or]at H;have t:aa [q] w (w.setCell ⟨q,i,none⟩ u):=aW _ _ _;have O:=h.gd.ar.turns t (by simp;exact λe=>H.2.2.1 e.symm) (by simp;exact λe=>H.2.2.2.1 e.symm);have k:=h.co.arAway t (s':=st.s) O (λj I=> .inr (.inr (by simp at I;rw[I];exact h1.2.1)));exact {h with lk:=t.blk h.lk (by simp;exact λe=>h1.2.2.1 e.symm),gd:={h.gd with ar:=O,ga:=t.blk h.gd.ga (by simp;exact λe=>h1.2.2.2 e.symm),dr:=t.blk h.gd.dr (by simp;exact λe=>H.2.1 e.symm)},tb:=h.tb.turns t (λj I=>by simp at I;rw[I];exact h1.1),sp:=h.sp.turns t (by simp;exact λe=>H.1 e.symm),co:=k}
inductive MdR:Int->FuncId->TypeId->TypeId->Prop
 |n:MdR 1 148 330 274
 |r:MdR 2 149 335 277
 |w:MdR 3 150 337 280
def MdR.k(h:MdR md f ty pt):MdN f ty:=by cases h<;>constructor
def Hb(ty pt:TypeId)(md:Int)(w:World)(a g:Nat)(s:Ar)(kg kl par:Nat)(bud:Int)(P T:List Int)(e:Ending)(w':World):Prop:=
 ∃(q:Nat) (B BC:Nat->Prop) (X:SmX),e= returned (tuple #[↑q,J 0])/\aw ty B BC w' a g X (fm kg kl par bud P T (smA s (ac P).length)) P T (bG kg kl par P T (smA s (ac P).length)) dr0 (List.replicate T.length Sp.zero)/\(∀i∈SmS a g X,i=a\/i=g\/w.heap.size<=i)/\aa [a,g] w w'/\
  Blk w' q 273 #[J md,.iface pt ↑X.l]/\w.heap.size<=q/\q∉SmS a g X/\∀i,i<w.heap.size\/w'.heap.size<=i->¬B i/\¬fb X.x BC i/\i≠X.l/\i≠X.gg
def GM(K:MdR md f ty pt){w:World}{s:Ar}(h:aB w a g s)(hs:s.W=[])(L0:a≠g)(H O:Value)(P T:List Int)(hP:RdL w H 1 encI P)(hT:RdL w O 1 encI T)(NM:∀i,H.ownBlock=some i->i≠a/\i<w.heap.size)(P3:∀i,O.ownBlock=some i->i≠a/\i<w.heap.size)(hc:a5 P T=0)(kg kl:Nat)(hG:KOk kg)(hL:KOk kl)(par:Nat)(hp:1<=par/\par<=4)(bud:Int)(hb:0<=bud/\bud<=3)(I:s.room=4096)(V:s.ops<=1000):E 108 #[↑a,J md,agg #[H,O],agg #[J (kg:Int),J (kl:Int),J par,J bud]] w (Hb ty pt md w a g s kg kl par bud P T):=by
  have LP:=h.blk.lt;have L9:=h.wds.lt;obtain⟨wz,Nl⟩:=LE (((w.alloc (cells #[H,O] 24)).alloc (cells #[J (kg:Int),J (kl:Int),J par,J bud] 36)).alloc (cells #[J md,.nilIface] 273));have KR:wz.heap.size=w.heap.size+3:=by rw[Nl];simp
  have HB:=qh (show Below w.heap.size w wz from by rw[Nl];exact(((Below.refl w.heap.size w).alloc (Nat.le_refl _) _).alloc ahC _).alloc ahG _);have Pf:Blk wz w.heap.size 24 #[H,O]:=by rw[Nl];exact((Blk.new w 24 #[H,O]).alloc _).alloc _
  have Pe:Blk wz (w.heap.size+1) 36 #[J (kg:Int),J (kl:Int),J par,J bud]:=by have h1:=Blk.new (w.alloc (cells #[H,O] 24)) 36 #[J (kg:Int),J (kl:Int),J par,J bud];rw[show(w.alloc (cells #[H,O] 24)).heap.size=w.heap.size+1 by simp]at h1;rw[Nl];exact h1.alloc _
  have KQ:Blk wz (w.heap.size+2) 273 #[J md,.nilIface]:=by have h1:=Blk.new ((w.alloc (cells #[H,O] 24)).alloc (cells #[J (kg:Int),J (kl:Int),J par,J bud] 36)) 273 #[J md,.nilIface];rw[show((w.alloc (cells #[H,O] 24)).alloc (cells #[J (kg:Int),J (kl:Int),J par,J bud] 36)).heap.size=w.heap.size+2 by simp]at h1;rw[Nl];exact h1
  have HN:=qh (IL K.k (h.turns (S:=[]) (aa.of_below HB.o) ahC ahC) hs L0 H O P T (hP.below HB.o (Nat.le_refl _)) (hT.below HB.o (Nat.le_refl _)) (λi hi=>⟨(NM i hi).1,by have:=(NM i hi).2;omega⟩) (λi hi=>⟨(P3 i hi).1,by have:=(P3 i hi).2;omega⟩) hc kg kl hG hL par hp bud hb I V);have HX:=qh (And.intro Pf (And.intro Pe KQ));have HS:=qh (And.intro LP L9);clear h hs L0 hP hT NM P3 hc hG hL hp hb I V Pf Pe KQ;obtain⟨V0,V8⟩:∃V0:Nat->Value,∀x,V0 x= .iface pt (pointer (some ⟨x,0,none⟩)):=⟨_,λ_=>rfl⟩;cases K
  all_goals
    go_enter func108,ntmps108;go_upto_region 2 with fail;rw[<-Nl];clear Nl;have f0:wz.cell? w.heap.size=some H:=HX.o.1.cell 0;have f1:Z wz w.heap.size 1 O:=HX.o.1.cell 1;have p0:Z wz (w.heap.size+1) 0 (J (kg:Int)):=HX.o.2.1.cell 0;have p1:Z wz (w.heap.size+1) 1 (J (kl:Int)):=HX.o.2.1.cell 1;have p2:Z wz (w.heap.size+1) 2 (J par):=HX.o.2.1.cell 2;have p3:Z wz (w.heap.size+1) 3 (J bud):=HX.o.2.1.cell 3;go_wp2_with fail;refine HN.o.mono ?_;rintro en w3 ⟨B,BC,X,rfl,k3,hS,Y,n3⟩;have MU:Blk w3 (w.heap.size+2) 273 #[_,.nilIface]:=Y.blk HX.o.2.2 (by have:=HS.o;simp;omega);have qn:w.heap.size+2∉SmS a g X:=λhm=>by have:=hS _ hm;have:=HS.o;omega
    have z1:=MU.free 1;have e1:=MU.cell 1;have HK:=qh (And.intro (k3.foreign (n3 (w.heap.size+2) ahB) qn 1 (V0 X.l)) (And.intro hS (And.intro (MU.set_ 1 (V0 X.l)) (And.intro qn n3))));rw[V8]at HK;have HT:=qh Y;clear k3 hS Y n3 MU qn HN f0 f1 p0 p1 p2 p3;go_wp2;go_ret2;refine⟨w.heap.size+2,B,BC,X,rfl,HK.o.1,λi hi=>?_,?_,HK.o.2.2.1,by omega,HK.o.2.2.2.1,λi hi=>HK.o.2.2.2.2 i (hi.elim (λz=> .inl ahB) λz=> .inr (by simpa using z))⟩;. have:=HK.o.2.1 i hi;omega
    . rw[<-V8 X.l];have t9:aa [a,g,w.heap.size+2] w (w3.setCell ⟨w.heap.size+2,1,none⟩ (V0 X.l)):=((aa.of_below HB.o).trans (HT.o.mono ahC)).setCell (.inl ahC) _;exact t9.fresh λi hi=>by simp at hi ⊢;omega
end
end Go.Proofs.YtglokdbiggbkjaaGreat
