/- Joined texts. -/
import Derived.Test.YtglokdbiggbkjaaGreatMgBoltLoops0
import Derived.Test.YtglokdbiggbkjaaGreatMgBoltLoops2
import Derived.Test.YtglokdbiggbkjaaGreatMgBoltLoops3
import Derived.Test.YtglokdbiggbkjaaGreatMgBoltLoops4
import Derived.Test.YtglokdbiggbkjaaGreatMgBoltLoops5
import Derived.Test.YtglokdbiggbkjaaGreatMgBoltLoops6
import Derived.Test.YtglokdbiggbkjaaGreatMgBoltLoops7
import Derived.Test.YtglokdbiggbkjaaGreatMgBoltLoops8
set_option linter.unusedVariables false
set_option linter.unusedSimpArgs false
set_option linter.defProp false
set_option maxRecDepth 100000
set_option maxHeartbeats 16000000
open Go.Proofs.Tryz
namespace Go.Proofs.YtglokdbiggbkjaaGreat
open Go.IntKind(i64)
open Go.Value(int bool slice agg tuple pointer)
open Go.Ending(returned)
open Go.Obj(cells)
variable{w w':World}{v:Value}{sz b g lo n l a u hi i N:Nat}{P T:List Int}{B:Nat->Prop}{dl:Int}{G:Nat->List Nat}
section
open Go.RowKit
variable{α:Type}{S:List Nat}
structure ip(B:Nat->Prop)(w:World)(b:Nat)(P T:List Int):Prop where
 low:B b
 ex:∃AP cP AT cT,Blk w b 213 #[.slice AP P.length cP,.slice AT T.length cT,.int .u32 0,.int .i32 0,.int .u32 0,.slice none 0 0,.slice none 0 0,.slice none 0 0,.slice none 0 0]/\RdL w (.slice AP P.length cP) 1 encI P/\RdL w (.slice AT T.length cT) 1 encI T/\(∀g,(Value.slice AP P.length cP).ownBlock=some g->g≠b)/\(∀g,(Value.slice AT T.length cT).ownBlock=some g->g≠b)/\
  (∀g,(Value.slice AP P.length cP).ownBlock=some g->B g)/\(∀g,(Value.slice AT T.length cT).ownBlock=some g->B g)
def jW{enc:α->List Value}{l:List α}(h:RdL w v sz enc l)(I:0<l.length)(hg:v.ownBlock=some g):g<w.heap.size:=by obtain⟨A,cap,rfl,_,_,H⟩:=h;obtain⟨b,off,rfl,hb,_⟩:=H I;injection hg with hg;subst hg;exact hb
def kI.q(hc:a5 P T=0)(h:kI lo w b P T):ip (λi=>lo<=i/\i<w.heap.size) w b P T:=by have KX:=bh (aR hc).1;obtain⟨O,cP,V,Y,h1,H,I,h4,h5,h6,h7⟩:=h.ex;exact⟨⟨h.low,h1.lt⟩,O,cP,V,Y,h1,H,I,h4,h5,λg hg=>⟨h6 g hg,jW H ahB hg⟩,λg hg=>⟨h7 g hg,jW I ahB hg⟩⟩
def ip.turns(h:ip B w b P T)(k:aa S w w')(H:∀i∈S,¬B i):ip B w' b P T:=by obtain⟨V,cP,Y,cT,h1,h2,h3,h4,h5,I,O⟩:=h.ex;exact⟨h.low,V,cP,Y,cT,k.blk h1 (λhm=>H _ hm h.low),h2.turns k (λg hg hm=>H g hm (I g hg)),h3.turns k (λg hg hm=>H g hm (O g hg)),h4,h5,I,O⟩
def ip.tab(hc:a5 P T=0)(h:ip B w b P T):Tab w b P T:=by obtain⟨H,cP,I,O,h1,V,Y,h4,h5,h6,h7⟩:=h.ex;exact⟨hc,.inl ⟨H,cP,I,O,h1,V,Y,h4,h5⟩⟩
def RdQ(B:Nat->Prop)(w:World)(v:Value)(sz:Nat){α:Type}(enc:α->List Value)(l:List α):Prop:=RdL w v sz enc l/\(0<l.length->∀g,v.ownBlock=some g->B g)
def RdQ.keep{enc:α->List Value}{l:List α}(h:RdQ B w v sz enc l)(k:∀i,B i->i<w.heap.size->w'.heap[i]? =w.heap[i]?)(hs:w.heap.size<=w'.heap.size):RdQ B w' v sz enc l:=by refine⟨?_,h.2⟩;obtain⟨A,cap,rfl,O,V,Y⟩:=h.1;refine⟨A,cap,rfl,O,V,λI=>?_⟩;obtain⟨b,off,rfl,hb,hc⟩:=Y I;have H:=h.2 I b rfl;refine⟨b,off,rfl,by omega,λi x hx j u hu=>?_⟩;rw[World.cell?_of_block (w:=w) (w':=w') (a:=⟨b,off+i*sz+j,none⟩) (k b H hb)];exact hc i x hx j u hu
def RdQ.of{enc:α->List Value}{l:List α}(h:RdL w v sz enc l)(H:∀g,v.ownBlock=some g->B g):RdQ B w v sz enc l:=⟨h,λ_=>H⟩
structure eX(B:Nat->Prop)(w:World)(b:Nat)(P T:List Int):Prop where
 ok:a5 P T=0
 low:B b
 ex:∃AP cP AT cT vU vN vS vM us,Blk w b 213 (fj (.slice AP P.length cP) (.slice AT T.length cT) 1 0 vU vN vS vM)/\RdQ B w (.slice AP P.length cP) 1 encI P/\RdQ B w (.slice AT T.length cT) 1 encI T/\
  RdQ B w vN 1 encI (aq P T T.length)/\RdQ B w vS 1 encI (a6 T T.length)/\RdQ B w vM 1 encI (aH P T T.length)/\
  RdQ B w vU 1 (λv=>[v]) us/\us.length=T.length/\∀(i:Nat) (x:Int) (v:Value),T[i]? =some x->us[i]? =some v->RdQ B w v 1 encI (upL P x)
def eX.f(h:eX B w b P T):iK w b P T:=by exact aah
def eX.turns(h:eX B w b P T)(t:aa S w w')(hS:∀i∈S,¬B i):eX B w' b P T:=by have k:∀i,B i->i<w.heap.size->w'.heap[i]? =w.heap[i]?:=λi hi hl=>t.block i hl λhm=>hS i hm hi;have hs:=t.size;obtain⟨H,cP,I,O,vU,vN,vS,vM,us,h1,V,Y,h4,h5,h6,h7,h8,h9⟩:=h.ex;exact⟨h.ok,h.low,H,cP,I,O,vU,vN,vS,vM,us,(k b h.low h1.lt).trans h1,V.keep k hs,Y.keep k hs,h4.keep k hs,h5.keep k hs,h6.keep k hs,h7.keep k hs,h8,λi x v a c=>(h9 i x v a c).keep k hs⟩
def eX.size{m:Nat}(h:eX (λi=>B i\/m<=i) w b P T)(e:m=n):eX (λi=>B i\/n<=i) w b P T:=by subst e;exact h
def mc{w1 w2:World}{H Y:Option Addr}{cP cT:Nat}{vL vU vN vS vM:Value}{us:List eV}(hc:a5 P T=0)(h:jD w1 w2 b (.slice H P.length cP) (.slice Y T.length cT) P T vL vU vN vS vM us T.length)(hP:RdL w1 (.slice H P.length cP) 1 encI P)(hT:RdL w1 (.slice Y T.length cT) 1 encI T)(nP:∀g,(Value.slice H P.length cP).ownBlock=some g->g≠b)(nT:∀g,(Value.slice Y T.length cT).ownBlock=some g->g≠b)(ab:B b)(lP:∀g,(Value.slice H P.length cP).ownBlock=some g->B g)(lT:∀g,(Value.slice Y T.length cT).ownBlock=some g->B g):eX (λi=>B i\/w1.heap.size<=i) (du b 2 w2) b P T/\aa [b] w1 (du b 2 w2):=by
  refine aji ?_;intro KX Lz k0 k1 I;have Nf:∀r∈([Kf vL (ac P),Kf vM (aH P T T.length),Kf vN (aq P T T.length),Kf vS (a6 T T.length),fh (us.map (·.v)) vU]++us),∀g,r.v.ownBlock=some g->(B g\/w1.heap.size<=g):=λr hm g hg=> .inr ((I r hm).lt g hg).1;refine⟨⟨hc,.inl ab,H,cP,Y,cT,vU,vN,vS,vM,us.map (·.v),?_,RdQ.of (hP.turns k1 (λg hg hm=>by simp at hm;exact nP g hg hm)) (λg hg=> .inl (lP g hg)),RdQ.of (hT.turns k1 (λg hg hm=>by simp at hm;exact nT g hg hm)) (λg hg=> .inl (lT g hg)),RdQ.of ?_ (Nf (Kf vN (aq P T T.length)) ahC),RdQ.of ?_ (Nf (Kf vS (a6 T T.length)) ahC),RdQ.of ?_ (Nf (Kf vM (aH P T T.length)) ahC),RdQ.of ?_ (Nf (fh (us.map (·.v)) vU) ahC),by simp[h.len],λi x v hi O=>?_⟩,k1⟩;. exact((h.blk.drew).set_ 2 (.int .u32 1)).set_ 3 (.int .i32 0)
  . exact dO (I (Kf vN (aq P T T.length)) ahC) (by rw[dt (Nat.le_refl _)];omega)
  . exact dO (I (Kf vS (a6 T T.length)) ahC) (by rw[gy];omega)
  . exact dO (I (Kf vM (aH P T T.length)) ahC) (by rw[cY];omega)
  . have h1:=I (fh (us.map (·.v)) vU) ahC;refine ajP ?_;intro e;exact h1
  . rw[List.getElem?_map]at O;cases hu:us[i]? with
    | none=>rw[hu]at O;cases O
    | some r=>rw[hu]at O;injection O with O;subst O;have MY:=h.up i x r hi hu;have V:=I r aig;rw[MY]at V;refine RdQ.of (dO V (by have:=se P x;omega)) (λg hg=>Nf r aig g ?_);rw[MY];exact hg
def jq(B:Nat->Prop)(w:World)(b:Nat)(P T:List Int)(hc:a5 P T=0)(h:ip B w b P T):E 133 #[↑b] w λe w'=>e= .returned ↑b/\eX (λi=>B i\/w.heap.size<=i) w' b P T/\aa [b] w w':=by
  have H:=h.low;obtain⟨AP,cP,AT,cT,hB,hP,hT,nP,nT,O,lT⟩:=h.ex;refine ajq ?_;intro k0 Oh Mp hf
  have Y:=qh (sY b 2 ↑b w (λw2=>eX (λi=>B i\/w.heap.size<=i) (du b 2 w2) b P T/\aa [b] w (du b 2 w2)) (hB.cell 2) (hB.cell 3) (hB.free 2) (hB.free 3)
    (hf.mono λe w2 ⟨he,vL,vU,vN,vS,vM,us,I⟩=>⟨he,⟨I.blk.cell 2,I.blk.cell 3,I.blk.free 2,I.blk.free 3⟩,(mc hc I Oh Mp nP nT H O lT).1.size ahC,k0.trans (mc hc I Oh Mp nP nT H O lT).2⟩))
  clear hf Oh Mp hB hP hT nP nT O lT k0 hc h H;go_enter func133,ntmps133;go_wp2_with fail;refine Y.o.mono ?_;rintro en w' ⟨rfl,w2,V,hw⟩;have HR:=qh (show eX (λi=>B i\/w.heap.size<=i) w' b P T/\aa [b] w w' by rw[hw];exact V);clear V hw;go_wp2;go_ret;exact⟨rfl,HR.o⟩
def EA(B:Nat->Prop)(w:World)(b:Nat)(P T:List Int)(hc:a5 P T=0)(i:Nat)(hi:i<T.length)(h:ip B w b P T)(x:Int)(hx:(aq P T T.length)[i]? =some x):E 100 #[↑b,J i] w λe w'=>e= returned (J x)/\eX (λi=>B i\/w.heap.size<=i) w' b P T/\aa [b] w w':=by have HF:=qh (jq B w b P T hc h);have HH:=qh (xE w b P T i true (decide_eq_true ahB) (h.tab hc));have HX:=qh hx;clear h hx;go_enter func100,ntmps100;go_wp2_with fail;refine LT HH.o ?_;go_wp2_with fail;refine HF.o.mono ?_;rintro en w1 ⟨rfl,H,t1⟩;have Np:=qh (And.intro H t1);clear t1;have V:=H.f;clear H;obtain⟨AP,cP,AT,cT,vU,vN,vS,vM,us,h1,h2,h3,I,h5,h6,h7,h8,h9⟩:=V.ex;have Y:(aq P T T.length).length=T.length:=dt (Nat.le_refl _);obtain⟨AM,cM,rfl,_,_⟩:=cf I;obtain⟨b1,o1,hA,_,O⟩:=gf I ahB;subst hA;have q1:=O i x HX.o;have c8:=h1.cell 6;rw[Y]at *;simp only[fj]at c8;clear V h1 h2 h3 I h5 h6 h7 h8 h9 O Y;go_wp2;go_ret;exact⟨rfl,Np.o⟩
end
section
open Go Go.RowKit
def zT{M:LkM n}{st:M.σ}(h:∀i<n,(M.sp st i).pc=0):M.view st=List.replicate n (0,false):=by
 apply List.ext_getElem?;intro j;rw[List.getElem?_replicate];split;.rename_i H;rw[kr H,un (h j H)];unfold LkM.stt;rw[h j H];rfl
 .exact List.getElem?_eq_none (by simpa[LkM.view]using by omega)
end
section
open Go.RowKit
def dq(P T:List Int)(i:Nat):Nat:=(fQ (ac P) (T.getD i 0)).toNat
structure bB(w:World)(l a g q b u lo hi:Nat)(dl:Int)(P T:List Int)(h:Hc):Prop where
 ar:aB w a g h.ar
 lk:Blk w l 260 #[↑a,↑b,int i64 1,↑u,int i64 dl,slice (some ⟨q,0,none⟩) T.length T.length]
 sp:dD w q h.S
 tu:eA w u a (2+(ac P).length) T.length h.D
 tab:mh lo hi w b P T
 sl:h.S.length=T.length
 hs:hi<=w.heap.size
 nd:[l,a,g,q,u].Nodup
 o:∀x∈[l,a,g,q,u],x<lo\/hi<=x
section
variable{q:Nat}{h:Hc}
def bB.n32(k:bB w l a g q b u lo hi dl P T h):1<=T.length/\T.length<=32/\(ac P).length<=32:=by have:=bh (aR k.tab.ok).1;have H:=a8 P P.length;exact⟨this.2.2.1,this.2.2.2,by show(am P P.length).length<=32;omega⟩
def bB.next(k:bB w l a g q b u lo hi dl P T h){H:Ar}{V:List Int}{I:List Sp}(t:aa [a,g,q,u] w w')(h1:aB w' a g H)(Y:dD w' q I)(h3:eA w' u a (2+(ac P).length) T.length V)(h4:I.length=T.length):bB w' l a g q b u lo hi dl P T ⟨H,V,I⟩:=by
 have O:=k.nd;refine⟨h1,t.blk k.lk ?_,Y,h3,k.tab.keep (λi ZE MK=>t.block i (by have:=k.hs;omega) λhm=>?_) (Nat.le_trans k.hs t.size),h4,Nat.le_trans k.hs t.size,k.nd,k.o⟩;.exact(List.nodup_cons.1 O).1
 .have:=k.o i (List.mem_cons_of_mem _ hm);omega
def bB.below(k:bB w l a g q b u lo hi dl P T h)(t:Below w.heap.size w w'):bB w' l a g q b u lo hi dl P T h:=by have t0:=aa.of_below (S:=[]) t;exact k.next (t0.mono ahC) (k.ar.turns t0 ahC ahC) (k.sp.turns t0 ahC) (k.tu.turns t0 ahC) k.sl
def bB.spot(k:bB w l a g q b u lo hi dl P T h){H:List Sp}(hs:dD w' q H)(O:H.length=T.length)(t:aa [q] w w'):bB w' l a g q b u lo hi dl P T ⟨h.ar,h.D,H⟩:=by have I:=k.nd;simp at I;exact k.next (t.mono ahC) (k.ar.turns t ahG ahG) hs (k.tu.turns t ahG) O
def bB.c0(k:bB w l a g q b u lo hi dl P T h):w.cell? l=some ↑a:=k.lk.cell 0
def bB.c1(k:bB w l a g q b u lo hi dl P T h):Z w l 1 ↑b:=k.lk.cell 1
def bB.c2(k:bB w l a g q b u lo hi dl P T h):Z w l 2 (J 1):=k.lk.cell 2
def bB.c3(k:bB w l a g q b u lo hi dl P T h):Z w l 3 ↑u:=k.lk.cell 3
def bB.c4(k:bB w l a g q b u lo hi dl P T h):Z w l 4 (J dl):=k.lk.cell 4
def bB.c5(k:bB w l a g q b u lo hi dl P T h):Z w l 5 (slice (some ⟨q,0,none⟩) T.length T.length):=k.lk.cell 5
def kh(k:bB w l a g q b u lo hi dl P T h):E 281 #[↑l] w λe w'=>e= returned (J T.length)/\w=w':=by have c5:=k.c5;clear k;go_enter func281,ntmps281;exact aaa
def xX(k:bB w l a g q b u lo hi dl P T h)(i:Int):E 279 #[↑l,J i] w λe w'=>e= returned (aF (getS h.S i))/\Below w.heap.size w w':=by
  obtain⟨_,HN,_⟩:=k.n32;have O:=k.sl;by_cases I:okI h.S i;. have hp:=dL I;obtain⟨p,mP⟩:=LE (getS h.S i);rw[<-mP]at hp ⊢;have c2:=k.c5;refine aj5 ?_;intro a0 a1 a2 a3;obtain⟨V,h1⟩:=I;rw[O]at h1;obtain⟨n,rfl⟩:=Int.eq_ofNat_of_zero_le V;simp only[Int.toNat_natCast]at a0 a1 a2 a3;have Kl:=k.lk.lt;have Kp:=k.sp.lt;have t2:¬(n:Int)<0:=(by omega);have Y:¬((T.length:Nat):Int)<=(n:Int):=(by omega);have t4:n<T.length:=(by omega);have H:Kq (bB (w.alloc (cells #[J 0,J 0,J 0,J 0] 113)) l a g q b u lo hi dl P T h):=qh (k.below ((Below.refl _ _).alloc (Nat.le_refl _) _));clear k hp mP V h1 O;go_enter func279,ntmps279;go_wp2_with (go_at_call 281;refine(kh H.o).mono ?_;rintro e w' ⟨rfl,rfl⟩);exact bodyPost_ret (results_cell_row ahF _ _ w.heap.size 113 _ (0,0) _ ahF (heap_alloc_new w _) Tryz.underlying113 rfl ahE) rfl ⟨rfl,(Below.refl _ _).alloc (Nat.le_refl _) _⟩
  . have H:Kq (bB (w.alloc (cells #[J 0,J 0,J 0,J 0] 113)) l a g q b u lo hi dl P T h):=qh (k.below ((Below.refl _ _).alloc (Nat.le_refl _) _));rw[dE I];unfold okI at I;rw[O]at I;clear k O;by_cases V:i<0;. go_enter func279,ntmps279;go_wp2;exact bodyPost_ret (results_cell_row ahF _ _ w.heap.size 113 _ (0,0) _ ahF (heap_alloc_new w _) Tryz.underlying113 rfl ahE) rfl ⟨rfl,(Below.refl _ _).alloc (Nat.le_refl _) _⟩
    . have Y:((T.length:Nat):Int)<=i:=(by omega);clear I;go_enter func279,ntmps279;go_wp2_with (go_at_call 281;refine(kh H.o).mono ?_;rintro e w' ⟨rfl,rfl⟩);exact bodyPost_ret (results_cell_row ahF _ _ w.heap.size 113 _ (0,0) _ ahF (heap_alloc_new w _) Tryz.underlying113 rfl ahE) rfl ⟨rfl,(Below.refl _ _).alloc (Nat.le_refl _) _⟩
def HOp(w:World)(l a g q b u lo hi:Nat)(dl:Int)(P T:List Int)(x:Hc×Bool)(e:Ending)(w':World):Prop:=e= returned (.bool x.2)/\bB w' l a g q b u lo hi dl P T x.1/\aa [a,g,q,u] w w'
def xk(k:bB w l a g q b u lo hi dl P T h)(i I O:Int):E 282 #[↑l,J i,J I,J O] w (HOp w l a g q b u lo hi dl P T (bo h i I O)):=by
  have H:=qh k;obtain⟨_,KW,_⟩:=k.n32;have Ks:=k.sl;by_cases hi:okI h.S i
  . have V:=dL hi;obtain⟨p,mP⟩:=LE (getS h.S i);rw[<-mP]at V;have c2:=k.c5;have a0:=ST (k.sp.cell V 0 _ rfl);have f0:=k.sp.free (i.toNat*4);obtain⟨h0,h1⟩:=id hi;rw[Ks]at h1;obtain⟨n,rfl⟩:=Int.eq_ofNat_of_zero_le h0;simp only[Int.toNat_natCast]at a0 f0 V;have t2:¬(n:Int)<0:=(by omega);have Y:¬((T.length:Nat):Int)<=(n:Int):=(by omega);have t4:n<T.length:=(by omega);have HP:=qh (And.intro hi (And.intro mP V));clear k V mP h0 h1 hi Ks;cases hc:(p.pc !=I)
    . have hb:Kq (bo h n I O=(⟨h.ar,h.D,h.S.set n {p with pc:=O}⟩,true)):=qh (by
        unfold bo;have e:p.pc=I:=by simpa using hc
        rw[<-HP.o.2.1,if_pos ⟨HP.o.1,e⟩];simp)
      go_enter func282,ntmps282;go_wp2_with (go_at_call 281;refine(kh H.o).mono ?_;rintro e w' ⟨rfl,rfl⟩);go_ret;rw[hb.o];have ht:aa [q] w (w.setCell ⟨q,n*4,none⟩ (J O)):=(aa.refl _ _).setCell (.inl ahC) _;exact⟨rfl,H.o.spot (H.o.sp.put HP.o.2.2 (j:=0) ahD rfl) (by simp[H.o.sl]) ht,ht.mono ahC⟩
    . have hb:Kq (bo h n I O=(h,false)):=qh (by
        unfold bo;have e:¬p.pc=I:=by simpa using hc
        rw[<-HP.o.2.1,if_neg (λh=>e h.2)])
      go_enter func282,ntmps282;go_wp2_with (go_at_call 281;refine(kh H.o).mono ?_;rintro e w' ⟨rfl,rfl⟩);go_ret;rw[hb.o];exact⟨rfl,H.o,aa.refl _ _⟩
  . have hb:Kq (bo h i I O=(h,false)):=qh (by
      unfold bo
      rw[if_neg (λh=>hi h.1)])
    unfold okI at hi;rw[Ks]at hi;clear k Ks;by_cases h0:i<0;. go_enter func282,ntmps282;go_wp2;go_ret;rw[hb.o];exact⟨rfl,H.o,aa.refl _ _⟩
    . have Y:((T.length:Nat):Int)<=i:=(by omega);clear hi;go_enter func282,ntmps282;go_wp2_with (go_at_call 281;refine(kh H.o).mono ?_;rintro e w' ⟨rfl,rfl⟩);go_ret;rw[hb.o];exact⟨rfl,H.o,aa.refl _ _⟩
def Hf(k:bB w l a g q b u lo hi dl P T h)(i:Int):E 277 #[↑l,J i] w (HOp w l a g q b u lo hi dl P T (bo h i 0 1)):=by obtain⟨x,I⟩:=LE (bo h i 0 1);have H:=qh (xk k i 0 1);rw[<-I]at H ⊢;obtain⟨O,V⟩:=x;clear k I;go_enter func277,ntmps277;go_wp2_with fail;refine Op H.o λw1 H1=>?_;go_wp2;go_ret;exact⟨rfl,H1.o⟩
def Ec(k:bB w l a g q b u lo hi dl P T h)(i:Int):E 278 #[↑l,J i] w (HOp w l a g q b u lo hi dl P T (bo h i 10 11)):=by obtain⟨x,I⟩:=LE (bo h i 10 11);have H:=qh (xk k i 10 11);rw[<-I]at H ⊢;obtain⟨O,V⟩:=x;clear k I;go_enter func278,ntmps278;go_wp2_with fail;refine Op H.o λw1 H1=>?_;go_wp2;go_ret;exact⟨rfl,H1.o⟩
def ug(k:bB w l a g q b u lo hi dl P T h)(hi:i<T.length):(aq P T T.length)[i]? =some ((dq P T i:Nat):Int)/\dq P T i<(ac P).length:=by have hm:T.getD i 0∈ac P:=jy (aR k.tab.ok).2.2.2 (i:=i) (by rw[List.getD_eq_getElem?_getD,List.getElem?_eq_getElem hi];rfl);have h1:=eZ (ac P) (T.getD i 0);have H:=h1.1.2 hm;have I:=h1.2.1;unfold dq;refine⟨?_,by omega⟩;unfold aq;rw[List.getElem?_map,List.getElem?_take,if_pos hi,List.getElem?_eq_getElem hi];simp only[Option.map_some,Option.some.injEq];rw[show T.getD i 0=T[i]by rw[List.getD_eq_getElem?_getD,List.getElem?_eq_getElem hi];rfl]at H ⊢;omega
def Ci(k:bB w l a g q b u lo hi dl P T h)(i:Nat)(hi:i<T.length):E 289 #[↑l,J i] w λe w'=>e= returned (J (2+(dq P T i:Nat)))/\Qt w w':=by obtain⟨H,Y⟩:=ug k hi;obtain⟨_,_,NL⟩:=k.n32;obtain⟨v,O⟩:=LE (dq P T i);rw[<-O]at H Y ⊢;have I:=qh (λW (h:iK W b P T)=>kK W b P T i hi h v H);have V:=qh k.tab;have HS:=qh k.hs;have c1:=k.c1;have c2:=k.c2;have x1:IntKind.i64.wrap (2+(v:Int))=2+v:=IntWalk.i64_in _ ahB;clear k O H;go_enter func289,ntmps289;go_wp2;go_quiet ((go_at_call 100;exact bK (I.o _ (V.o.f.below (Qt.below ⟨_,rfl⟩ _)))));go_wp2;go_ret;exact⟨rfl,⟨_,rfl⟩⟩
end
end
section
open Go.RowKit
section
variable{q:Nat}{h:Hc}
def p7(w:World)(l a g q b u lo hi:Nat)(dl:Int)(P T:List Int)(h:Hc)(i:Nat)(p:Sp)(x:Ar×List Int×Sp)(e:Ending)(w':World):Prop:=
 e= returned (J x.2.2.pc)/\bB w' l a g q b u lo hi dl P T ⟨x.1,x.2.1,h.S.set i {x.2.2 with pc:=p.pc}⟩/\aa [a,g,q,u] w w'
def bB.op(k:bB w l a g q b u lo hi dl P T h){H:Ar}(t:aa [a,g] w w')(h1:aB w' a g H):bB w' l a g q b u lo hi dl P T ⟨H,h.D,h.S⟩:=by have I:=k.nd;simp at I;exact k.next (t.mono ahC) h1 (k.sp.turns t ahG) (k.tu.turns t ahG) k.sl
def bB.putS(k:bB w l a g q b u lo hi dl P T h){p p':Sp}(O:h.S[i]? =some p){j:Nat}(I:j<4)(H:(bi p).set j v=bi p'):bB (w.setCell ⟨q,i*4+j,none⟩ v) l a g q b u lo hi dl P T ⟨h.ar,h.D,h.S.set i p'⟩:=
 k.spot (k.sp.put O I H) (by simp[k.sl]) ((aa.refl _ _).setCell (.inl ahC) _)
def eu{q:Nat}(p:Addr)(v:Value)(H:p.block=q):aa [a,g,q,u] w (w.setCell p v):=(aa.refl _ _).setCell (.inl (by simp[H])) _
def GR(k:bB w l a g q b u lo hi dl P T h)(i:Nat)(hin:i<T.length)(p:Sp)(hp:h.S[i]? =some p)(V:h.ar.ops+1<=1000000000000)(hd:0<=dv h.D i/\dv h.D i<1000000000)(Ki:p.pc=1):E 283 #[↑l,J i] w (p7 w l a g q b u lo hi dl P T h i p (bp (ac P).length T.length dl h (dq P T i) i p)):=by
  obtain⟨_,HN,_⟩:=k.n32;have MK:(i:Int)<T.length:=by omega
  have c5:=k.c5;obtain⟨v,O⟩:=LE (ldW h.ar.W (2+(dq P T i:Int)));obtain⟨ab,mb⟩:=LE (cr h.ar (2+(dq P T i:Int)) (tokH i (dv h.D i+1)))
  have HX:Kq (bp (ac P).length T.length dl h (dq P T i) i p=(ab,h.D,if v≠0 then {p with a:=v,pc:=5} else if 0<dl then {p with a:=v,b:=dl,pc:=2} else {p with a:=v,b:=0,pc:=3})):=qh (by
    unfold bp
    rw[if_pos Ki,<-O,<-mb])
  have HL:=qh (λW (k:bB W l a g q b u lo hi dl P T h)=>Ci k i hin);have Tl:=qh (λW (k:bB W l a g q b u lo hi dl P T h)=>IP k.tu i hin hd);have NI:=(λW (k:bB W l a g q b u lo hi dl P T h)=>fD k.ar (2+(dq P T i:Int)) (tokH i (dv h.D i+1)) V);rw[<-O,<-mb]at NI;have PC:=qh NI;have H:=qh (λW (h:Hc) (k:bB W l a g q b u lo hi dl P T h)=>And.intro k.c0 (And.intro k.c3 k.c4));have K1:=qh (k.below ((Below.refl _ w).drew));have HP:=qh (And.intro hp Ki);clear NI k hp Ki hd O mb;by_cases KI:v=0
  . have t0:(v !=0)=false:=(by simpa using KI);have HV:=qh KI;clear KI;by_cases ON:0<dl
    . have HD:=qh ON;go_enter func283,ntmps283;go_wp2_with fail
      go_region_held3 (λW=>W.cell? l=some ↑a/\Z W l 3 ↑u/\Z W l 4 (J dl))
        (first|with_reducible exact H.o _ _ K1.o|with_reducible exact H.o _ _ Y.o|with_reducible exact H.o _ _ K3.o|with_reducible exact H.o _ _ K4.o|with_reducible exact H.o _ _ I.o)
        (first
          | (go_at_call 289;go_loud (refine Op (HL.o _ K1.o) λw2 q2=>?_);have Y:=qh (K1.o.below (Qt.below q2.o _));have T2:=qh (((aa.refl [a,g,q,u] w).drew).trans (aa.of_qt q2.o)))
          | (go_at_call 290;go_loud (refine Op (Tl.o _ Y.o) λw3 b3=>?_);have K3:=qh (Y.o.below b3.o);have T3:=qh (T2.o.trans (aa.of_below b3.o)))
          | (go_at_call 271;go_loud (refine Op (PC.o _ K3.o) λw4 a4=>?_);have K4:=qh (K3.o.op a4.o.2 a4.o.1);have T4:=qh (T3.o.trans (a4.o.2.mono (T:=[a,g,q,u]) ahC));have I:=qh (K4.o.putS (p':={p with a:=v}) HP.o.1 (j:=1) (v:= J v) ahD rfl);have e1:=K4.o.sp.cell HP.o.1 1 _ rfl;have z1:=K4.o.sp.free (i*4+1)))
      all_goals have c4:=(H.o _ _ I.o).2.2;have e2:=I.o.sp.cell (i:=i) (p:={p with a:=v}) aim 2 _ rfl;have z2:=I.o.sp.free (i*4+2);have K6:=I.o.putS (i:=i) (p:={p with a:=v}) (p':={p with a:=v,b:=dl}) aim (j:=2) (v:= J dl) ahD rfl;simp only[List.set_set]at K6;have TC:=qh K6;clear K6;go_wp2;go_ret;rw[HX.o,if_neg (λh=>h HV.o),if_pos HD.o];exact⟨rfl,by rw[show({({p with a:=v,b:=dl,pc:=2}:Sp)with pc:=p.pc}:Sp)={p with a:=v,b:=dl} from rfl];exact TC.o,(T4.o.trans (eu ⟨q,i*4+1,none⟩ _ rfl)).trans (eu ⟨q,i*4+2,none⟩ _ rfl)⟩
    . have HD:=qh ON;go_enter func283,ntmps283;go_wp2_with fail
      go_region_held3 (λW=>W.cell? l=some ↑a/\Z W l 3 ↑u/\Z W l 4 (J dl))
        (first|with_reducible exact H.o _ _ K1.o|with_reducible exact H.o _ _ Y.o|with_reducible exact H.o _ _ K3.o|with_reducible exact H.o _ _ K4.o|with_reducible exact H.o _ _ I.o)
        (first
          | (go_at_call 289;go_loud (refine Op (HL.o _ K1.o) λw2 q2=>?_);have Y:=qh (K1.o.below (Qt.below q2.o _));have T2:=qh (((aa.refl [a,g,q,u] w).drew).trans (aa.of_qt q2.o)))
          | (go_at_call 290;go_loud (refine Op (Tl.o _ Y.o) λw3 b3=>?_);have K3:=qh (Y.o.below b3.o);have T3:=qh (T2.o.trans (aa.of_below b3.o)))
          | (go_at_call 271;go_loud (refine Op (PC.o _ K3.o) λw4 a4=>?_);have K4:=qh (K3.o.op a4.o.2 a4.o.1);have T4:=qh (T3.o.trans (a4.o.2.mono (T:=[a,g,q,u]) ahC));have I:=qh (K4.o.putS (p':={p with a:=v}) HP.o.1 (j:=1) (v:= J v) ahD rfl);have e1:=K4.o.sp.cell HP.o.1 1 _ rfl;have z1:=K4.o.sp.free (i*4+1)))
      all_goals have c4:=(H.o _ _ I.o).2.2;have e2:=I.o.sp.cell (i:=i) (p:={p with a:=v}) aim 2 _ rfl;have z2:=I.o.sp.free (i*4+2);have K6:=I.o.putS (i:=i) (p:={p with a:=v}) (p':={p with a:=v,b:=0}) aim (j:=2) (v:= J 0) ahD rfl;simp only[List.set_set]at K6;have TC:=qh K6;clear K6;go_wp2;go_ret;rw[HX.o,if_neg (λh=>h HV.o),if_neg (show ¬0<dl by have:=HD.o;omega)];exact⟨rfl,by rw[show({({p with a:=v,b:=0,pc:=3}:Sp)with pc:=p.pc}:Sp)={p with a:=v,b:=0} from rfl];exact TC.o,(T4.o.trans (eu ⟨q,i*4+1,none⟩ _ rfl)).trans (eu ⟨q,i*4+2,none⟩ _ rfl)⟩
  . have t0:(v !=0)=true:=(by simpa using KI);have HV:=qh KI;clear KI;go_enter func283,ntmps283;go_wp2_with fail
    go_region_held3 (λW=>W.cell? l=some ↑a/\Z W l 3 ↑u/\Z W l 4 (J dl))
      (first|with_reducible exact H.o _ _ K1.o|with_reducible exact H.o _ _ Y.o|with_reducible exact H.o _ _ K3.o|with_reducible exact H.o _ _ K4.o|with_reducible exact H.o _ _ I.o)
      (first
        | (go_at_call 289;go_loud (refine Op (HL.o _ K1.o) λw2 q2=>?_);have Y:=qh (K1.o.below (Qt.below q2.o _));have T2:=qh (((aa.refl [a,g,q,u] w).drew).trans (aa.of_qt q2.o)))
        | (go_at_call 290;go_loud (refine Op (Tl.o _ Y.o) λw3 b3=>?_);have K3:=qh (Y.o.below b3.o);have T3:=qh (T2.o.trans (aa.of_below b3.o)))
        | (go_at_call 271;go_loud (refine Op (PC.o _ K3.o) λw4 a4=>?_);have K4:=qh (K3.o.op a4.o.2 a4.o.1);have T4:=qh (T3.o.trans (a4.o.2.mono (T:=[a,g,q,u]) ahC));have I:=qh (K4.o.putS (p':={p with a:=v}) HP.o.1 (j:=1) (v:= J v) ahD rfl);have e1:=K4.o.sp.cell HP.o.1 1 _ rfl;have z1:=K4.o.sp.free (i*4+1)))
    all_goals go_wp2;go_ret;rw[HX.o,if_pos HV.o];exact⟨rfl,by rw[show({({p with a:=v,pc:=5}:Sp)with pc:=p.pc}:Sp)={p with a:=v} from rfl];exact I.o,T4.o.trans (eu ⟨q,i*4+1,none⟩ _ rfl)⟩
end
end
section
open Go.RowKit
section
variable{q:Nat}{h:Hc}
def pu{S:List Sp}{p:Sp}(hp:S[i]? =some p):S.set i p=S:=by exact aaq
def JE(k:bB w l a g q b u lo hi dl P T h)(i:Nat)(ab:i<T.length)(p:Sp)(I:h.S[i]? =some p)(hb:1<=p.b/\p.b<=100000)(Y:p.pc=2):E 284 #[↑l,J i] w (p7 w l a g q b u lo hi dl P T h i p (bp (ac P).length T.length dl h (dq P T i) i p)):=by
  obtain⟨_,HN,_⟩:=k.n32;have MK:(i:Int)<T.length:=by omega
  have c5:=k.c5;have e2:=k.sp.cell I 2 _ rfl;have z2:=k.sp.free (i*4+2);obtain⟨KP,Nw⟩:=hb
  have HX:Kq (bp (ac P).length T.length dl h (dq P T i) i p=(h.ar,h.D,{p with b:=p.b-1,pc:=if 0<p.b-1 then 2 else 3})):=qh (by
    unfold bp
    rw[if_neg ahB,if_pos Y])
  have O:=k.putS (p':={p with b:=p.b-1}) I (j:=2) (v:= J (p.b-1)) ahD rfl;have V:=qh O;have SI:=k.sp.lt;clear k I Y O;by_cases hg:0<p.b-1;. have H:=qh hg;go_enter func284,ntmps284;go_wp2;go_ret;rw[HX.o];exact⟨by rw[if_pos H.o];rfl,V.o,eu ⟨q,i*4+2,none⟩ _ rfl⟩
  . have H:=qh hg;go_enter func284,ntmps284;go_wp2;go_ret;rw[HX.o];exact⟨by rw[if_neg (by have:=H.o;omega)];rfl,V.o,eu ⟨q,i*4+2,none⟩ _ rfl⟩
def JN(k:bB w l a g q b u lo hi dl P T h)(i:Nat)(ad:i<T.length)(p:Sp)(hp:h.S[i]? =some p)(V:h.ar.ops+1<=1000000000000)(Ki:p.pc=3):E 285 #[↑l,J i] w (p7 w l a g q b u lo hi dl P T h i p (bp (ac P).length T.length dl h (dq P T i) i p)):=by
  obtain⟨_,HN,_⟩:=k.n32;have MK:(i:Int)<T.length:=by omega
  obtain⟨v,O⟩:=LE (ldW h.ar.W (2+(dq P T i:Int)));obtain⟨ab,mb⟩:=LE (cr h.ar (2+(dq P T i:Int)) 0)
  have HX:Kq (bp (ac P).length T.length dl h (dq P T i) i p=(ab,h.D,{p with c:=v,pc:=4})):=qh (by
    unfold bp
    rw[if_neg ahB,if_neg ahB,if_pos Ki,<-O,<-mb])
  have HL:=qh (λW (k:bB W l a g q b u lo hi dl P T h)=>Ci k i ad);have NI:=(λW (k:bB W l a g q b u lo hi dl P T h)=>fD k.ar (2+(dq P T i:Int)) 0 V);rw[<-O,<-mb]at NI;have PC:=qh NI;have H:=qh (λW (h:Hc) (k:bB W l a g q b u lo hi dl P T h)=>And.intro k.c0 k.c5);have Y:=qh (k.below ((Below.refl _ w).drew));have HP:=qh (And.intro hp Ki);clear NI k hp Ki O mb;go_enter func285,ntmps285;go_wp2_with fail
  go_region_held3 (λW=>W.cell? l=some ↑a/\Z W l 5 (slice (some ⟨q,0,none⟩) T.length T.length))
    (first|with_reducible exact H.o _ _ Y.o|with_reducible exact H.o _ _ K2.o|with_reducible exact H.o _ _ I.o|with_reducible exact H.o _ _ K5.o)
    (first
      | (go_at_call 289;go_loud (refine Op (HL.o _ Y.o) λw2 q2=>?_);have K2:=qh (Y.o.below (Qt.below q2.o _));have T2:=qh (((aa.refl [a,g,q,u] w).drew).trans (aa.of_qt q2.o)))
      | (go_at_call 271;go_loud (refine Op (PC.o _ K2.o) λw4 a4=>?_);have I:=qh (K2.o.op a4.o.2 a4.o.1);have T4:=qh (T2.o.trans (a4.o.2.mono (T:=[a,g,q,u]) ahC));have K5:=qh (I.o.putS (p':={p with c:=v}) HP.o.1 (j:=3) (v:= J v) ahD rfl);have e1:=I.o.sp.cell HP.o.1 3 _ rfl;have z1:=I.o.sp.free (i*4+3)))
  all_goals go_wp2;go_ret;rw[HX.o];exact⟨rfl,K5.o,T4.o.trans (eu ⟨q,i*4+3,none⟩ _ rfl)⟩
def EO(k:bB w l a g q b u lo hi dl P T h)(i:Nat)(ad:i<T.length)(p:Sp)(hp:h.S[i]? =some p)(V:h.ar.ops+1<=1000000000000)(Ki:p.pc=4):E 286 #[↑l,J i] w (p7 w l a g q b u lo hi dl P T h i p (bp (ac P).length T.length dl h (dq P T i) i p)):=by
  obtain⟨_,HN,_⟩:=k.n32;have MK:(i:Int)<T.length:=by omega
  have c5:=k.c5;obtain⟨v,O⟩:=LE (ldW h.ar.W 1);obtain⟨ab,mb⟩:=LE (cr h.ar 1 p.c)
  have HX:Kq (bp (ac P).length T.length dl h (dq P T i) i p=(ab,h.D,{p with a:=v,pc:=if v=0 then 10 else 5})):=qh (by
    unfold bp
    rw[if_neg ahB,if_neg ahB,if_neg ahB,if_pos Ki,<-O,<-mb])
  have NI:=(λW (k:bB W l a g q b u lo hi dl P T h)=>fD k.ar 1 p.c V);rw[<-O,<-mb]at NI;have PC:=qh NI;have HC:=qh (λW (h:Hc) (k:bB W l a g q b u lo hi dl P T h) (p':Sp) (hp:h.S[i]? =some p') (hc:p'.c=p.c)=>And.intro k.c0 (And.intro k.c2 (show W.cell? ⟨q,i*4+3,none⟩=some (J p.c)by rw[<-hc];exact k.sp.cell hp 3 _ rfl)));have K1:=qh (k.below ((Below.refl _ w).drew));have H:=qh (And.intro hp Ki);have V5:=k.sl;have Yq:=qh V5;clear NI k hp Ki O mb V5;by_cases Y:v=0
  all_goals
    have t0:(v==0)=decide (v=0):=(by by_cases h:v=0<;>simp[h]);first| rw[decide_eq_true Y]at t0| rw[decide_eq_false Y]at t0
    have HV:=qh Y;clear Y;go_enter func286,ntmps286;go_wp2_with fail
    go_region_held3 (λW=>W.cell? l=some ↑a/\Z W l 2 (J 1)/\Z W q (i*4+3) (J p.c))
      (first|with_reducible exact HC.o _ _ K1.o p H.o.1 rfl|with_reducible exact HC.o _ _ I.o p H.o.1 rfl|with_reducible exact XR.o)
      (first
        | (go_at_call 271;go_loud (refine Op (PC.o _ K1.o) λw4 a4=>?_);have I:=qh (K1.o.op a4.o.2 a4.o.1);have T4:=qh (((aa.refl [a,g,q,u] w).drew).trans (a4.o.2.mono (T:=[a,g,q,u]) ahC));have K5:=qh (I.o.putS (p':={p with a:=v}) H.o.1 (j:=1) (v:= J v) ahD rfl);have XR:=qh (HC.o _ _ K5.o {p with a:=v} (by simp[Yq.o,ad]) rfl);have e1:=I.o.sp.cell H.o.1 1 _ rfl;have z1:=I.o.sp.free (i*4+1)))
    all_goals go_wp2;go_ret;rw[HX.o];first| exact⟨by rw[if_pos HV.o];rfl,K5.o,T4.o.trans (eu ⟨q,i*4+1,none⟩ _ rfl)⟩| exact⟨by rw[if_neg HV.o];rfl,K5.o,T4.o.trans (eu ⟨q,i*4+1,none⟩ _ rfl)⟩
def Is(k:bB w l a g q b u lo hi dl P T h)(i:Nat)(ab:i<T.length)(p:Sp)(hp:h.S[i]? =some p)(V:h.ar.ops+1<=1000000000000)(ha:0<=p.a/\p.a<9223372036854775808)(O:p.pc=5):E 287 #[↑l,J i] w (p7 w l a g q b u lo hi dl P T h i p (bp (ac P).length T.length dl h (dq P T i) i p)):=by
  obtain⟨_,HN,_⟩:=k.n32;have H:=k.nd;have Ng:u≠a:=by simp at H;omega
  have Nh:u≠g:=by simp at H;omega
  have MK:(i:Int)<T.length:=by omega
  have c3:=k.c3;have c5:=k.c5;have e1:=k.sp.cell hp 1 _ rfl;obtain⟨bb,Y⟩:=LE (isB h.ar.W (2+((ac P).length:Int)) T.length p.a)
  have HX:Kq (bp (ac P).length T.length dl h (dq P T i) i p=(isA h.ar (2+((ac P).length:Int)) T.length p.a,h.D,{p with pc:=if bb then 10 else 5})):=qh (by
    unfold bp
    rw[if_neg ahB,if_neg ahB,if_neg ahB,if_neg ahB,if_pos O,<-Y])
  have I:=k.below ((Below.refl _ w).drew);have Td:=isU I.ar I.tu Ng Nh p.a ha.1 ha.2 V;rw[<-Y]at Td;have HI:=qh Td;have YJ:=qh I;have HP:=qh (And.intro hp O);clear k hp O Td I H Ng Nh Y ha;go_enter func287,ntmps287;go_wp2_with fail;refine wp_region_still_tail 12 ahE ahE ?_;refine akk ?_;change wpStill _ _ (World.drew _) _ _ _;repeat still_step
  refine wpStill_nil ?_;change wpList _ _ _ _ _ (World.drew w);go_wp2_with fail;refine Op HI.o λw2 a2=>?_;have K2:=qh (YJ.o.op a2.o.2 a2.o.1);have T2:=qh (((aa.refl [a,g,q,u] w).drew).trans (a2.o.2.mono (T:=[a,g,q,u]) ahC));cases bb;all_goals go_wp2;go_ret;rw[HX.o];refine⟨rfl,?_,T2.o⟩;have e:h.S.set i ({({p with pc:=0}:Sp)with pc:=p.pc}:Sp)=h.S:=pu HP.o.1;rw[show ∀x:Int,({({p with pc:=x}:Sp)with pc:=p.pc}:Sp)=p from λ_=>rfl,pu HP.o.1];exact K2.o
def Ib(k:bB w l a g q b u lo hi dl P T h)(i:Nat)(Y:i<T.length)(p:Sp)(hp:h.S[i]? =some p)(V:h.ar.ops+1<=1000000000000)(hd:0<=dv h.D i/\dv h.D i<1000000000)(Ki:p.pc=11):E 288 #[↑l,J i] w (p7 w l a g q b u lo hi dl P T h i p (bp (ac P).length T.length dl h (dq P T i) i p)):=by
  have H:=k.nd;have Ng:u≠a:=by simp at H;omega
  have Nh:u≠g:=by simp at H;omega
  have WV:q∉[a,g,u]:=by simp at H ⊢;omega
  have c3:=k.c3
  have HX:Kq (bp (ac P).length T.length dl h (dq P T i) i p=(addA h.ar (2+((ac P).length:Int)+i) 1,h.D.set i (dv h.D i+1),{p with pc:=0})):=qh (by
    unfold bp
    rw[if_neg ahB,if_neg ahB,if_neg ahB,if_neg ahB,if_neg ahB])
  have HI:=qh (Ia k.ar k.tu Ng Nh i Y hd V);have O:=qh (And.intro k WV);have HP:=qh hp;clear k hp Ki H Ng Nh WV;go_enter func288,ntmps288;go_wp2_with fail;refine Op HI.o λw2 I=>?_;have K2:=qh (And.intro (O.o.1.next (I.o.2.2.mono (T:=[a,g,q,u]) ahC) I.o.1 (O.o.1.sp.turns I.o.2.2 O.o.2) I.o.2.1 O.o.1.sl) (I.o.2.2.mono (T:=[a,g,q,u]) ahC));go_wp2;go_ret;rw[HX.o];refine⟨rfl,?_,K2.o.2⟩;rw[show({({p with pc:=0}:Sp)with pc:=p.pc}:Sp)=p from rfl,pu HP.o];exact K2.o.1
end
end
section
open Go.RowKit
def E3(h:Hc):Prop:=h.ar.ops+1<=1000000000000/\∀j p,h.S[j]? =some p->(0<=dv h.D j/\dv h.D j<1000000000)/\(p.pc=2->1<=p.b/\p.b<=100000)/\(p.pc=5->0<=p.a/\p.a<9223372036854775808)
section
variable{q:Nat}{h:Hc}
def GV(k:bB w l a g q b u lo hi dl P T h)(i:Int)(C:E3 h):E 280 #[↑l,J i] w (HOp w l a g q b u lo hi dl P T (ff (ac P).length T.length dl (dq P T) h i)):=by
  have LI:=aP;have H:=qh k;obtain⟨_,HN,_⟩:=k.n32;have Ks:=k.sl;obtain⟨V,Ue⟩:=C;obtain⟨p,hp⟩:=LE (getS h.S i);have HP:=qh hp;by_cases hc:okI h.S i/\iw p=true
  . obtain⟨Y,hg⟩:=hc;have I:=dL Y;rw[<-hp]at I;obtain⟨hd,Nw,TU⟩:=Ue _ _ I;obtain⟨h0,h9⟩:=id Y;obtain⟨n,rfl⟩:=Int.eq_ofNat_of_zero_le h0;simp only[Int.toNat_natCast]at I hd;rw[Ks]at h9;have hn:n<T.length:=(by omega);have OQ:(n:Int)<T.length:=(by omega);obtain⟨y,hy⟩:=LE (bp (ac P).length T.length dl h (dq P T n) n p)
    have HS:Kq (ff (ac P).length T.length dl (dq P T) h n=(⟨y.1,y.2.1,h.S.set n y.2.2⟩,decide (y.2.2.pc=10\/y.2.2.pc=0))):=qh (by
      unfold ff;rw[<-HP.o,if_pos ⟨Y,hg⟩];simp only[Int.toNat_natCast]
      rw[hy])
    rcases tB.1 hg with e|e|e|e|e|e
    all_goals
      first| have O:=λW (k:bB W l a g q b u lo hi dl P T h)=>GR k n hn p I V hd e| have O:=λW (k:bB W l a g q b u lo hi dl P T h)=>JE k n hn p I (Nw e) e| have O:=λW (k:bB W l a g q b u lo hi dl P T h)=>JN k n hn p I V e| have O:=λW (k:bB W l a g q b u lo hi dl P T h)=>EO k n hn p I V e| have O:=λW (k:bB W l a g q b u lo hi dl P T h)=>Is k n hn p I V (TU e) e| have O:=λW (k:bB W l a g q b u lo hi dl P T h)=>Ib k n hn p I V hd e
      rw[<-hy]at O;have HM:=qh O;first|(have u1:(p.pc==1)=true:=by simp[e])|(have u1:(p.pc==1)=false:=by simp[e])
      first|(have u2:(p.pc==2)=true:=by simp[e])|(have u2:(p.pc==2)=false:=by simp[e])
      first|(have u3:(p.pc==3)=true:=by simp[e])|(have u3:(p.pc==3)=false:=by simp[e])
      first|(have u4:(p.pc==4)=true:=by simp[e])|(have u4:(p.pc==4)=false:=by simp[e])
      first|(have u5:(p.pc==5)=true:=by simp[e])|(have u5:(p.pc==5)=false:=by simp[e])
      first|(have u6:(p.pc==11)=true:=by simp[e])|(have u6:(p.pc==11)=false:=by simp[e])
      have HG:=qh I;clear k hp I h0 h9 Y hg hd Nw TU Ue hy O e Ks;go_enter func280,ntmps280;go_wp2_with fail;refine Pi (xX H.o n) λw1 b1=>?_;refine ajy ?_;intro H1;clear b1;go_wp2_with fail;refine(HM.o _ H1.o.1).mono ?_;rintro en w2 ⟨rfl,K2,t2⟩;have LQ:(h.S.set n {y.2.2 with pc:=p.pc})[n]? =some {y.2.2 with pc:=p.pc}:=(by have:=(List.getElem?_eq_some_iff.1 HG.o).1;simp[this]);have c5:=K2.c5;have d0:=ST (K2.sp.cell LQ 0 _ rfl);have f0:=K2.sp.free (n*4);have hq:=K2.sp.lt;have K3:=K2.putS LQ (j:=0) (v:= J y.2.2.pc) (p':=y.2.2) ahD rfl;simp only[Nat.add_zero,List.set_set]at K3;have H2:=qh (And.intro K3 (((aa.of_below H1.o.2).trans t2).trans (eu ⟨q,n*4,none⟩ (J y.2.2.pc) rfl)));clear K2 t2 LQ K3;cases z1:(y.2.2.pc==10)
      . cases z0:(y.2.2.pc==0);. have HD:Kq (decide (y.2.2.pc=10\/y.2.2.pc=0)=false):=qh aij;go_wp2;go_ret;rw[HS.o];exact⟨az HD.o.symm,H2.o.1,H2.o.2⟩
        . have HD:Kq (decide (y.2.2.pc=10\/y.2.2.pc=0)=true):=qh ail;go_wp2;go_ret;rw[HS.o];exact⟨az HD.o.symm,H2.o.1,H2.o.2⟩
      . have HD:Kq (decide (y.2.2.pc=10\/y.2.2.pc=0)=true):=qh aik;go_wp2;go_ret;rw[HS.o];exact⟨az HD.o.symm,H2.o.1,H2.o.2⟩
  . have HS:Kq (ff (ac P).length T.length dl (dq P T) h i=(h,false)):=qh (by unfold ff;rw[<-hp,if_neg hc])
    have hz:iw p=false:=by
      by_cases Y:okI h.S i
      . cases hg:iw p;. rfl
        . exact absurd ⟨Y,hg⟩ hc
      . rw[hp,dE Y];rfl
    unfold iw at hz;simp only[Bool.or_eq_false_iff]at hz;obtain⟨⟨⟨⟨⟨u1,u2⟩,u3⟩,u4⟩,u5⟩,u6⟩:=hz;clear k hp hc Ue Ks;go_enter func280,ntmps280;go_wp2_with fail;refine Pi (xX H.o i) λw1 b1=>?_;refine ajy ?_;intro H1;clear b1;go_wp2;go_ret;rw[HS.o];exact⟨rfl,H1.o.1,aa.of_below H1.o.2⟩
end
end
section
open Go.RowKit
theorem Tryz.infoSp:(prog.info? 113).map (λi=>(i.zero,i.size,i.bytes))=some (some (agg #[J 0,J 0,J 0,J 0]),4,32):=by kernel_rfl
def jR(u:Value)(n:Nat):(madeCells #[u,u,u,u] n).toList=List.replicate n u:=by exact aaA
def mz(n:Nat):(List.replicate n Sp.zero).flatMap bi=List.replicate (n*4) (J 0):=by exact aaB
def hc0(s:Ar)(nd n:Nat):Hc:=⟨{s with W:=List.replicate (1+nd+n) 0},List.replicate 32 0,List.replicate n Sp.zero⟩
def Fy(w:World)(a g:Nat)(s:Ar)(d:Int)(P T:List Int)(e:Ending)(w':World):Prop:=
 ∃l q b u lo hi,e= returned (tuple #[pointer (some ⟨l,0,none⟩),J 0])/\bB w' l a g q b u lo hi d P T (hc0 s (ac P).length T.length)/\w.heap.size<=l/\w.heap.size<=q/\w.heap.size<=b/\w.heap.size<=u/\aa [a] w w'/\w.heap.size<=lo
def Gv{s:Ar}(h:aB w a g s)(hs:s.W=[])(L0:a≠g)(vP vT:Value)(P T:List Int)(hP:RdL w vP 1 encI P)(hT:RdL w vT 1 encI T)(hc:a5 P T=0)(d:Int)(Na:0<=d)(hd1:d<=1000)(I:s.room=4096):E 105 #[↑a,agg #[vP,vT],J d] w (Fy w a g s d P T):=by
  obtain⟨i0,hi,Kr,Ku,ab⟩:=info_parts Tryz.infoSp;have KX:=bh (aR hc).1;have NL:(ac P).length<=32:=by exact aaC
  refine ajz ?_;intro LP L9 Mp My;obtain⟨nd,O⟩:=LE ((ac P).length);have ME:=qh O;rw[<-O]at NL;have H:=qh (And.intro h (And.intro LP L9));have HN:=qh (i3 (w.alloc (cells #[vP,vT] 24)) vP vT P T (hP.alloc _) (hT.alloc _) hc);have OF:=λlo W b h=>GB lo W b P T hc h;rw[<-O]at OF;have X7:=qh OF;have HS:=qh (And.intro hs I);have HR:=qh (λW=>pp d W Na hd1);refine akf ?_;intro hlo B0;have x1:IntKind.i64.wrap (1+(nd:Int))=1+nd:=IntWalk.i64_in _ ahB;clear h hs hP hT Na hd1 I KX OF O LP L9;go_enter func105,ntmps105;go_wp2_with fail;refine HN.o.mono ?_;rintro en w1 ⟨b,rfl,hb,t1,b1⟩;rw[hlo]at hb t1 b1;have K1:=qh (And.intro t1 (B0.o.trans (b1.mono ahB)));have HB:=qh hb;clear t1 b1 hb HN;go_wp2_with fail;refine LT (HR.o _) ?_;go_wp2_with fail;refine Op (X7.o _ _ _ K1.o.1) λw2 t2=>?_;have Kl:=K1.o.2.size;have Kp:=t2.o.2.size;have T2:aa [] w w2:=((aa.of_below (S:=[b]) K1.o.2).trans t2.o.2).fresh (by have:=HB.o;simp;omega);have A2:=H.o.1.turns T2 ahC ahC;have K2:=qh (And.intro t2.o.1 (And.intro T2 (And.intro A2 (Nat.le_trans Kl Kp))));clear Kl Kp T2 A2;go_wp2_with fail
  have HT:Kq (eh s (1+(nd:Int))=({s with W:=List.replicate (1+nd) 0},(1:Int),(0:Int))):=qh (by
    unfold eh
    rw[HS.o.1,HS.o.2,if_neg ahB,if_neg ahG,show(1+(nd:Int)).toNat=1+nd by omega];rfl)
  refine(gz K2.o.2.2.1 (1+(nd:Int))).mono ?_;rintro en w3 ⟨rfl,k3,Y⟩;rw[HT.o]at k3 ⊢;have Li:=Y.size;have Q3:mh (w.heap.size+1) w2.heap.size w3 b P T:=K2.o.1.keep (λi h1 h2=>Y.block i h2 (by have:=H.o.2.1;simp;omega)) Li;have K3:=qh (And.intro Q3 (And.intro (K2.o.2.1.mono (T:=[a]) ahC |>.trans Y) (And.intro k3 (Nat.le_trans K2.o.2.2.2 Li))));have SK:=qh Li;clear k3 Y Q3 Li;go_wp2_with fail;refine LT (eo _ _ _ _ K3.o.1.f.tab) ?_;go_wp2_with fail;refine(JW K3.o.2.2.1 T.length Mp My (by have:=HS.o.2;simp;omega)).mono ?_;rintro en w4 ⟨u,rfl,hu,k4,v4,t4⟩;have MB:=t4.size;have KQ:=K3.o.1.high;have Q4:mh (w.heap.size+1) w2.heap.size w4 b P T:=K3.o.1.keep (λi h1 h2=>t4.block i (by have:=SK.o;omega) (by have:=H.o.2.1;simp;omega)) (by have:=SK.o;omega);have V:=qh (And.intro Q4 (And.intro (K3.o.2.1.trans t4) (And.intro k4 (And.intro v4 (And.intro (show w3.heap.size<=u from hu) (show w3.heap.size<=w4.heap.size from MB))))));have H4:=qh (show w2.heap.size<=w4.heap.size by have:=SK.o;omega);clear k4 v4 t4 Q4 MB hu;go_wp2_with fail;refine LT (eo _ _ _ _ V.o.1.f.tab) ?_;go_wp2_with (refine wpList_make_full _ rfl (.tmp 52) (.tmp 52) 237 rfl w4.heap.size 113 i0 (agg #[J 0,J 0,J 0,J 0]) 4 Tryz.underlying237 hi Kr Ku .i64 .i64 T.length T.length T.length rfl rfl rfl rfl ?b2 ?b3 (Nat.le_refl _) ?_);case b2=>rw[ab];omega
  case b3=>unfold maxLen;omega
  intro w5 t3 hg;have hb:dD w5 w4.heap.size (List.replicate T.length Sp.zero):=by exact aaD
  have t5:aa [] w4 w5:=aa.of_below ((Below.refl w4.heap.size w4).grown hg (Nat.le_refl _) (λj hj=>by cases hj));have Ox:=hb.lt;have H5:=qh (And.intro hb t5);clear t3 hg hb t5;go_wp2;go_ret2;have t6:aa [] w4 (w5.alloc (cells #[↑a,pointer (some ⟨b,0,none⟩),J 1,↑u,J d,slice (some ⟨w4.heap.size,0,none⟩) T.length T.length] 260)):=H5.o.2.alloc _;have al:=SK.o;have ax:=V.o.2.2.2.2.2;have bc:=V.o.2.2.2.2.1;have bw:=K2.o.2.2.2;have L7:=HB.o;have PM:=V.o.2.2.2.1.blk.lt;have Oi:=H.o.2.1;have ad:=H.o.2.2;have Xz:w5.heap.size+1=(w5.alloc (cells #[↑a,pointer (some ⟨b,0,none⟩),J 1,↑u,J d,slice (some ⟨w4.heap.size,0,none⟩) T.length T.length] 260)).heap.size:=by simp
  have k6:=V.o.2.2.1.turns t6 ahC ahC;have u6:=V.o.2.2.2.1.turns t6 ahC;have e1:(List.replicate (1+nd) (0:Int))++List.replicate T.length 0=List.replicate (1+(ac P).length+T.length) 0:=by rw[List.replicate_append_replicate,<-ME.o]
  refine⟨w5.heap.size,w4.heap.size,b,u,w.heap.size+1,w2.heap.size,rfl,⟨?_,?_,?_,?_,?_,?_,?_,?_,?_⟩,?_,?_,?_,?_,?_,by omega⟩;. unfold hc0;rw[<-e1];exact k6
  . exact Blk.new w5 _ _
  . exact H5.o.1.turns (T:=[]) ((aa.refl _ _).alloc _) ahC
  . have:(((List.replicate (1+nd) (0:Int)).length:Int)+1)=2+((ac P).length:Int):=(by rw[<-ME.o];simp;omega);rw[<-this];exact u6
  . exact V.o.1.keep (λi h1 h2=>t6.block i ahB ahC) (by rw[<-Xz];omega)
  . simp[hc0]
  . omega
  . simp;omega
  . simp;omega
  . omega
  . omega
  . omega
  . omega
  . exact V.o.2.1.trans (t6.mono ahC)
end
section
open Go.RowKit
variable{k:Nat}{x:Int}
def wt(w:World)(b:Nat)(P T:List Int)(R:World->Prop)(H:∀w1,R w1->iK w1 b P T)(O:E 133 #[↑b] w λe w'=>e= .returned ↑b/\R w'):E 137 #[↑b] w λe w'=>e= returned (J ((ac P).length:Nat))/\R w':=by have V:=qh O;have Oc:=qh H;clear O H;go_enter func137,ntmps137;go_wp2_with fail;refine Op V.o λw' I=>?_;have Y:=qh I.o;obtain⟨AP,cP,AT,cT,vU,vN,vS,vM,us,h1,h2,h3,h4,h5,h,h7,h8,h9⟩:=(Oc.o _ I.o).ex;obtain⟨AM,cM,rfl,_,_⟩:=cf h;have c8:=h1.cell 8;simp only[fj,cY]at c8;clear h1 h2 h3 h4 h5 h h7 h8 h9;go_wp2;go_ret;exact⟨rfl,Y.o⟩
def Cy(w:World)(b:Nat)(P T:List Int)(hc:a5 P T=0)(R:World->Prop)(O:∀w1,R w1->iK w1 b P T)(hf:E 133 #[↑b] w λe w'=>e= .returned ↑b/\R w')(V:(ac P)[k]? =some x):E 138 #[↑b,J k] w λe w'=>e= returned (J ((T.count x:Nat):Int))/\R w':=by
  have Y:=qh (wt w b P T R O hf);have Oc:=qh O;have Lz:(ac P).length<=32:=by have h1:=(bh (aR hc).1).2.1;have:=a8 P P.length;show(am P P.length).length<=_;omega
  have LB:=(List.getElem?_eq_some_iff.1 V).1
  have HX:Kq ((aH P T T.length)[k]? =some ((T.count x:Nat):Int)):=qh (by
    unfold aH
    rw[List.take_length,List.getElem?_map,V];rfl)
  obtain⟨L,H⟩:=LE ((ac P).length);rw[<-H]at Y Lz LB;have HL:=qh H;clear O hf V H hc;go_enter func138,ntmps138;go_wp2_with fail;refine Op Y.o λw1 I=>?_;have Np:=qh I.o;have HF:=qh (fe w1 b P T (Oc.o _ I.o));go_wp2_with fail;refine LT HF.o ?_;obtain⟨AP,cP,AT,cT,vU,vN,vS,vM,us,h1,h2,h3,h4,h5,h,h7,h8,h9⟩:=(Oc.o _ Np.o).ex;have hl:(aH P T T.length).length=L:=by rw[cY];exact HL.o.symm
  obtain⟨AM,cM,rfl,_,_⟩:=cf h;obtain⟨b1,o1,hA,_,LD⟩:=gf h ahB;subst hA;have q1:=LD k _ HX.o;have c8:=h1.cell 8;rw[hl]at *;simp only[fj]at c8;clear h1 h2 h3 h4 h5 h h7 h8 h9 LD hl;go_wp2;go_ret;exact⟨rfl,Np.o⟩
def Cw(B:Nat->Prop)(w:World)(b:Nat)(P T:List Int)(hc:a5 P T=0)(h:ip B w b P T)(H:(ac P)[k]? =some x):E 138 #[↑b,J k] w λe w'=>e= returned (J ((T.count x:Nat):Int))/\eX (λi=>B i\/w.heap.size<=i) w' b P T/\aa [b] w w':=
  Cy w b P T hc (λw'=>eX (λi=>B i\/w.heap.size<=i) w' b P T/\aa [b] w w') (λ_ h=>h.1.f) (jq B w b P T hc h) H
def Cv(w:World)(b:Nat)(P T:List Int)(h:iK w b P T)(H:(ac P)[k]? =some x):E 138 #[↑b,J k] w λe w'=>e= returned (J ((T.count x:Nat):Int))/\w=w':=
  Cy w b P T h.ok (λw'=>w=w') (λ_ e=>e ▸ h) (fe w b P T h) H
def Fl(w:World)(b:Nat)(P T:List Int)(i:Nat)(hi:i<T.length)(h:iK w b P T):E 143 #[↑b,J i] w λe w'=>e= returned (J (cO T i))/\w=w':=by have V:=qh (fe w b P T h);have Y:=qh (xE w b P T i true (decide_eq_true ahB) h.tab);have HX:Kq ((a6 T T.length)[i]? =some (cO T i)):=qh (by unfold a6;simp[hi]);have Np:=qh h;clear h;go_enter func143,ntmps143;go_wp2_with fail;refine LT Y.o ?_;go_wp2_with fail;refine LT V.o ?_;obtain⟨AP,cP,AT,cT,vU,vN,vS,vM,us,h1,h2,h3,h4,H,h6,h7,h8,h9⟩:=Np.o.ex;have O:(a6 T T.length).length=T.length:=gy _ _;obtain⟨AM,cM,rfl,_,_⟩:=cf H;obtain⟨b1,o1,hA,_,I⟩:=gf H ahB;subst hA;have q1:=I i _ HX.o;have c8:=h1.cell 7;rw[O]at *;simp only[fj]at c8;clear h1 h2 h3 h4 H h6 h7 h8 h9 I O;go_wp2;go_ret;exact⟨rfl,rfl⟩
def Kc(w:World)(b:Nat)(P T:List Int)(k:Nat)(x:Int)(H:T[k]? =some x)(h:iK w b P T):E 142 #[↑b,J k] w λe w'=>∃v,e= returned v/\w'.ownsRow w.heap.size 3 1 v (upL P x).length ((upL P x).flatMap encI)/\Below w.heap.size w w':=by
  have hk:=(List.getElem?_eq_some_iff.1 H).1;have Y:=qh (xE w b P T k true (decide_eq_true ahB) h.tab);have V:=qh (fe w b P T h);have ab:(upL P x).length<=32:=by have h1:=(bh (aR h.ok).1).2.1;have:=se P x;omega
  obtain⟨b1,o1,cu,A,c,c5,ad,I,Wj,KP⟩:=h.upAt H;have HR:=qh I;clear h H I;go_enter func142,ntmps142;go_wp2_with fail;refine LT Y.o ?_;go_wp2_with fail;refine LT V.o ?_;go_wp2_with fail;refine(mp _ _ (upL P x) HR.o ahB).mono ?_;rintro en w2 ⟨v2,rfl,o2,b2⟩;have O:=qh (And.intro o2 b2);clear o2 b2;go_wp2;go_ret;exact⟨_,rfl,O.o.1,O.o.2⟩
def RdQ.lt{α:Type}{enc:α->List Value}{l:List α}(h:RdQ B w v sz enc l):RdQ (λi=>B i/\i<w.heap.size) w v sz enc l:=⟨h.1,λH g hg=>⟨h.2 H g hg,jW h.1 H hg⟩⟩
def eX.lt(h:eX B w b P T):eX (λi=>B i/\i<w.heap.size) w b P T:=by obtain⟨H,cP,I,O,vU,vN,vS,vM,us,h1,V,Y,h4,h5,h6,h7,h8,h9⟩:=h.ex;exact⟨h.ok,⟨h.low,h1.lt⟩,H,cP,I,O,vU,vN,vS,vM,us,h1,V.lt,Y.lt,h4.lt,h5.lt,h6.lt,h7.lt,h8,λi x v a c=>(h9 i x v a c).lt⟩
end
section
open Go.RowKit
def HOk.cond{nd:Nat}{node:Nat->Nat}{h:Hc}(k:HOk nd n dl node h N G)(hN:N<1000000)(hd:dl<=3):E3 h:=by
 refine⟨by have:=k.ops;omega,λj p H=>?_⟩;have V:j<n:=by rw[<-k.iv.sl];exact(List.getElem?_eq_some_iff.1 H).1
 have e:sv h.S j=p:=by unfold sv;rw[List.getD_eq_getElem?_getD,H];rfl
 subst e;have hn:=k.iv.n32;refine⟨⟨k.iv.d0 j,by have:=k.dn j;omega⟩,λI=>?_,λh5=>?_⟩;.have h1:=k.bb j V I;have Y:=k.iv.at234 V (.inl I);rcases k.iv.mast j (ib Y)with⟨h4|h4,_⟩|⟨h4,_⟩<;>omega
 .rcases k.iv.at5 V h5 with⟨q,p,_,H,O⟩|⟨_,t,d,ht,h1,I,O⟩
  .rw[O];have:=k.iv.d0 p;have:=k.dn p;have:=k.iv.lt _ _ H;unfold tokH;omega
  .rw[O];have:=k.dn t;unfold tokH;omega
section
variable{w0:World}{q:Nat}{d:Int}{h h':Hc}{M:Nat}{G':Nat->List Nat}
end
end
end Go.Proofs.YtglokdbiggbkjaaGreat
