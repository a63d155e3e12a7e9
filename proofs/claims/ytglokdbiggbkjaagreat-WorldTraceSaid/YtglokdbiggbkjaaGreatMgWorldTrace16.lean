/- Joined texts. -/
import Derived.StillTailTactics
import Derived.Deep.RegionHeld3
import Derived.Test.YtglokdbiggbkjaaGreatMgWorldTrace0
import Derived.Test.YtglokdbiggbkjaaGreatMgWorldTrace2
import Derived.Test.YtglokdbiggbkjaaGreatMgWorldTrace4
import Derived.Test.YtglokdbiggbkjaaGreatMgWorldTrace15
set_option linter.unusedVariables false
set_option linter.unusedSimpArgs false
set_option linter.defProp false
set_option maxRecDepth 100000
set_option maxHeartbeats 16000000
open Go.Proofs.Tryz
namespace Go.Proofs.YtglokdbiggbkjaaGreat
open Go.IntKind(i64)
open Go.Value(int bool slice agg tuple pointer)
open Go.Ending(returned)
open Go.Obj(cells)
variable{w w':World}{l a g q n:Nat}{t:Int}
section
open Go.RowKit
variable{i f u:Int}
structure Rg where
 ar:Ar
 S:List Sp
def mQ(r:Rg)(t i:Int):Rg×Bool:=
 if okI r.S i/\(getS r.S i).pc≠0/\(getS r.S i).pc≠10 then
  (⟨(df r.ar t (i+1) (getS r.S i)).1,r.S.set i.toNat (df r.ar t (i+1) (getS r.S i)).2⟩,decide ((df r.ar t (i+1) (getS r.S i)).2.pc=0\/(df r.ar t (i+1) (getS r.S i)).2.pc=10))
 else(r,false)
def dk(r:Rg)(i KN Kr:Int):Rg×Bool:=
 if okI r.S i/\(getS r.S i).pc=KN then(⟨r.ar,r.S.set i.toNat {getS r.S i with pc:=Kr}⟩,true)else(r,false)
def ik(r:Rg)(i Kr v:Int):Rg×Bool:=
 if okI r.S i/\(getS r.S i).pc=10 then(⟨r.ar,r.S.set i.toNat {getS r.S i with pc:=Kr,c:=v}⟩,true)else(r,false)
structure da(w:World)(l a g q:Nat)(t:Int)(r:Rg):Prop where
 ar:aB w a g r.ar
 lk:Blk w l 319 #[↑a,int i64 t,slice (some ⟨q,0,none⟩) r.S.length r.S.length]
 sp:dE w q r.S
 la:l≠a
 lg:l≠g
 lq:l≠q
 qa:q≠a
 qg:q≠g
 len:r.S.length<=32
def da.turns{r:Rg}{T:List Nat}(h:da w l a g q t r)(k:aa T w w')(h1:l∉T)(H:a∉T)(I:g∉T)(O:q∉T):da w' l a g q t r:=
 ⟨h.ar.turns k H I,k.blk h.lk h1,h.sp.turns k O,h.la,h.lg,h.lq,h.qa,h.qg,h.len⟩
def da.below{r:Rg}(h:da w l a g q t r)(k:Below w.heap.size w w'):da w' l a g q t r:=
 h.turns (T:=[]) (aa.of_below k) ahz ahz ahz ahz
def ja{r:Rg}(h:da w l a g q t r):E 263 #[↑l] w λe w'=>e= returned (J r.S.length)/\w=w':=by refine akg ?_;intro c2;clear h;go_enter func263,ntmps263;go_wp2;go_ret;exact⟨rfl,rfl⟩
def pD{r:Rg}(h:da w l a g q t r)(i:Int):E 257 #[↑l,J i] w λe w'=>e= returned (aC (getS r.S i))/\Below w.heap.size w w':=by
  have Y:=h.len;by_cases hi:okI r.S i;. have hp:=dM hi;obtain⟨p,O⟩:=LE (getS r.S i);rw[<-O]at hp ⊢;refine akg ?_;intro c2;refine aiX ?_;intro a0 a1 a2 a3;obtain⟨I,h1⟩:=hi;obtain⟨n,rfl⟩:=Int.eq_ofNat_of_zero_le I;simp only[Int.toNat_natCast]at a0 a1 a2 a3;have Kl:=h.lk.lt;have Ko:=h.sp.lt;have t2:¬(n:Int)<0:=(by omega);have V:¬((r.S.length:Nat):Int)<=(n:Int):=(by omega);have t4:n<r.S.length:=(by omega);have H:Kq (da (w.alloc (cells #[J 0,J 0,J 0,J 0] 113)) l a g q t r):=qh (h.below ((Below.refl _ _).alloc (Nat.le_refl _) _));clear h hp O I h1;go_enter func257,ntmps257;go_wp2_with (go_at_call 263;refine(ja H.o).mono ?_;rintro e w' ⟨rfl,rfl⟩);exact bodyPost_ret (results_cell_row ahC _ _ w.heap.size 113 _ (0,0) _ ahC (heap_alloc_new w _) Tryz.underlying113 rfl ahB) rfl ⟨rfl,(Below.refl _ _).alloc (Nat.le_refl _) _⟩
  . have H:Kq (da (w.alloc (cells #[J 0,J 0,J 0,J 0] 113)) l a g q t r):=qh (h.below ((Below.refl _ _).alloc (Nat.le_refl _) _));rw[dF hi];unfold okI at hi;clear h;by_cases I:i<0;. go_enter func257,ntmps257;go_wp2;exact bodyPost_ret (results_cell_row ahC _ _ w.heap.size 113 _ (0,0) _ ahC (heap_alloc_new w _) Tryz.underlying113 rfl ahB) rfl ⟨rfl,(Below.refl _ _).alloc (Nat.le_refl _) _⟩
    . have V:((r.S.length:Nat):Int)<=i:=(by omega);clear hi;go_enter func257,ntmps257;go_wp2_with (go_at_call 263;refine(ja H.o).mono ?_;rintro e w' ⟨rfl,rfl⟩);exact bodyPost_ret (results_cell_row ahC _ _ w.heap.size 113 _ (0,0) _ ahC (heap_alloc_new w _) Tryz.underlying113 rfl ahB) rfl ⟨rfl,(Below.refl _ _).alloc (Nat.le_refl _) _⟩
def sm(w:World)(l a g q:Nat)(t:Int)(x:Rg×Bool)(e:Ending)(w':World):Prop:=e= returned (.bool x.2)/\da w' l a g q t x.1/\aa [q] w w'
def da.spot{r:Rg}(h:da w l a g q t r){H:List Sp}(hs:dE w' q H)(I:H.length=r.S.length)(k:aa [q] w w'):da w' l a g q t ⟨r.ar,H⟩:=
 ⟨h.ar.turns k (by simpa using λe=>h.qa e.symm) (by simpa using λe=>h.qg e.symm),by
  have:=k.blk h.lk (by simpa using h.lq)
  show Blk w' l _ #[↑a,J t,slice (some ⟨q,0,none⟩) H.length H.length]
  rw[I];exact this,hs,h.la,h.lg,h.lq,h.qa,h.qg,by show H.length<=32;rw[I];exact h.len⟩
def qk{r:Rg}(h:da w l a g q t r)(i O V:Int):E 262 #[↑l,J i,J O,J V] w (sm w l a g q t (dk r i O V)):=by
  have H:=qh h;have KX:=h.len;by_cases hi:okI r.S i
  . have hp:=dM hi;obtain⟨p,i'⟩:=LE (getS r.S i);rw[<-i']at hp;refine akg ?_;intro c2;refine aj8 ?_;intro a0;have f0:=h.sp.free (i.toNat*4);obtain⟨h0,h1⟩:=id hi;obtain⟨n,rfl⟩:=Int.eq_ofNat_of_zero_le h0;simp only[Int.toNat_natCast]at a0 f0 hp;have t2:¬(n:Int)<0:=(by omega);have t3:¬((r.S.length:Nat):Int)<=(n:Int):=(by omega);have t4:n<r.S.length:=(by omega);have Y:=qh (And.intro hi (And.intro i' hp));clear h hp i' h0 h1 hi;cases hc:(p.pc !=O)
    . have I:Kq (dk r n O V=(⟨r.ar,r.S.set n {p with pc:=V}⟩,true)):=qh (by
        unfold dk;have e:p.pc=O:=by simpa using hc
        rw[<-Y.o.2.1,if_pos ⟨Y.o.1,e⟩];simp)
      go_enter func262,ntmps262;go_wp2_with (go_at_call 263;refine(ja H.o).mono ?_;rintro e w' ⟨rfl,rfl⟩);go_ret;rw[I.o];have ht:aa [q] w (w.setCell ⟨q,n*4,none⟩ (J V)):=(aa.refl _ _).setCell (.inl ahz) _;exact⟨rfl,H.o.spot (H.o.sp.put Y.o.2.2 (j:=0) ahA rfl) ahz ht,ht⟩
    . have I:Kq (dk r n O V=(r,false)):=qh (by
        unfold dk;have e:¬p.pc=O:=by simpa using hc
        rw[<-Y.o.2.1,if_neg (λh=>e h.2)])
      go_enter func262,ntmps262;go_wp2_with (go_at_call 263;refine(ja H.o).mono ?_;rintro e w' ⟨rfl,rfl⟩);go_ret;rw[I.o];exact⟨rfl,H.o,aa.refl _ _⟩
  . have I:Kq (dk r i O V=(r,false)):=qh (by
      unfold dk
      rw[if_neg (λh=>hi h.1)])
    unfold okI at hi;clear h;by_cases h0:i<0;. go_enter func262,ntmps262;go_wp2;go_ret;rw[I.o];exact⟨rfl,H.o,aa.refl _ _⟩
    . have t3:((r.S.length:Nat):Int)<=i:=(by omega);clear hi;go_enter func262,ntmps262;go_wp2_with (go_at_call 263;refine(ja H.o).mono ?_;rintro e w' ⟨rfl,rfl⟩);go_ret;rw[I.o];exact⟨rfl,H.o,aa.refl _ _⟩
def Dk{r:Rg}(h:da w l a g q t r)(i:Int):E 256 #[↑l,J i] w (sm w l a g q t (dk r i 0 1)):=by go_enter func256,ntmps256;have H:=qh h;clear h;go_wp2_with fail;refine Pi (qk H.o i 0 1) λw1 H1=>?_;obtain⟨b,I⟩:=LE ((dk r i 0 1).2);rw[<-I];have O:=qh I;clear I;go_wp2;go_ret;exact⟨by rw[O.o];rfl,H1.o.1,H1.o.2⟩
theorem uQ{r:Rg}(h:(dk r i f u).2=true):okI r.S i/\(getS r.S i).pc=f/\(dk r i f u).1=⟨r.ar,r.S.set i.toNat {getS r.S i with pc:=u}⟩:=by
 unfold dk at *;split at h;.rename_i hc;rw[if_pos hc];exact⟨hc.1,hc.2,rfl⟩
 .cases h
theorem sH{r:Rg}(h:(dk r i f u).2=false):¬(okI r.S i/\(getS r.S i).pc=f)/\(dk r i f u).1=r:=by
 unfold dk at *;split at h;.cases h
 .rename_i hc;rw[if_neg hc];exact⟨hc,rfl⟩
def uG{r:Rg}(h:da w l a g q t r)(i O v:Int):E 268 #[↑l,J i,J O,J v] w (sm w l a g q t (ik r i O v)):=by
  have H:=qh h;clear h;go_enter func268,ntmps268;go_wp2_with fail;refine(qk H.o i 10 O).mono ?_;rintro en w1 ⟨rfl,h1,t1⟩;cases I:(dk r i 10 O).2;. obtain⟨hc,V⟩:=sH I;rw[V]at h1;have Y:Kq (ik r i O v=(r,false)):=qh (by unfold ik;rw[if_neg hc]);have H1:=qh (And.intro h1 t1);clear h1 t1 I hc V;go_wp2;go_ret;rw[Y.o];exact⟨rfl,H1.o.1,H1.o.2⟩
  . obtain⟨hi,hc,V⟩:=uQ I;rw[V]at h1;have KK:=dM hi;have KX:=h1.len;simp only[List.length_set]at KX;obtain⟨h0,h9⟩:=id hi;obtain⟨n,rfl⟩:=Int.eq_ofNat_of_zero_le h0;simp only[Int.toNat_natCast]at h1 KK;have hp:(r.S.set n {getS r.S n with pc:=O})[n]? =some {getS r.S n with pc:=O}:=(by have:n<r.S.length:=(by omega);simp[this]);have c2:Z w1 l 2 (slice (some ⟨q,0,none⟩) r.S.length r.S.length):=(by have:=h1.lk.cell 2;simpa using this);have a3:=h1.sp.cell hp 3 _ rfl;have f3:=h1.sp.free (n*4+3);have t4:n<r.S.length:=(by omega);have t5:(n:Int)<r.S.length:=(by omega);have Y:Kq (ik r n O v=(⟨r.ar,r.S.set n {getS r.S n with pc:=O,c:=v}⟩,true)):=qh (by unfold ik;rw[if_pos ⟨hi,hc⟩];simp);have H1:=qh (And.intro h1 (And.intro t1 hp));clear h1 t1 I hc V hp hi KK h0 h9;go_wp2;go_ret;rw[Y.o];have ht:aa [q] w1 (w1.setCell ⟨q,n*4+3,none⟩ (J v)):=(aa.refl _ _).setCell (.inl ahz) _;refine⟨rfl,?_,H1.o.2.1.trans ht⟩;have h2:=H1.o.1.spot (H1.o.1.sp.put H1.o.2.2 (j:=3) (u:= J v) (p':={getS r.S n with pc:=O,c:=v}) ahA rfl) ahz ht;simpa using h2
def yS{r:Rg}(h:da w l a g q t r)(i v:Int):E 264 #[↑l,J i,J v] w (sm w l a g q t (ik r i 11 v)):=by have H:=qh h;clear h;go_enter func264,ntmps264;go_wp2_with fail;refine Pi (uG H.o i 11 v) λw1 H1=>?_;obtain⟨b,I⟩:=LE ((ik r i 11 v).2);rw[<-I];have O:=qh I;clear I;go_wp2;go_ret;exact⟨by rw[O.o];rfl,H1.o.1,H1.o.2⟩
def CA{r:Rg}(h:da w l a g q t r)(i v:Int):E 265 #[↑l,J i,J v] w (sm w l a g q t (ik r i 15 v)):=by have H:=qh h;clear h;go_enter func265,ntmps265;go_wp2_with fail;refine Pi (uG H.o i 15 v) λw1 H1=>?_;obtain⟨b,I⟩:=LE ((ik r i 15 v).2);rw[<-I];have O:=qh I;clear I;go_wp2;go_ret;exact⟨by rw[O.o];rfl,H1.o.1,H1.o.2⟩
def jX{r:Rg}(h:da w l a g q t r)(x:Int):E 269 #[↑l,J x] w λe w'=>e= returned (J (nxA t x))/\w=w':=by have c1:Z w l 1 (J t):=h.lk.cell 1;clear h;go_enter func269,ntmps269;go_wp2;go_ret;exact⟨rfl,rfl⟩
def ke{r:Rg}(h:da w l a g q t r)(x:Int):E 270 #[↑l,J x] w λe w'=>e= returned (J (stA t x))/\w=w':=by have c1:Z w l 1 (J t):=h.lk.cell 1;clear h;go_enter func270,ntmps270;go_wp2;go_ret;exact⟨rfl,rfl⟩
end
section
open Go.RowKit
variable{p:Sp}{s:Ar}{Q:Prop}
def Ah(w:World)(l a g q:Nat)(t:Int)(n:Nat)(r:Rg)(p:Sp)(x:Ar×Sp)(e:Ending)(w':World):Prop:=
 e= returned (J x.2.pc)/\da w' l a g q t ⟨x.1,r.S.set n {x.2 with pc:=p.pc}⟩/\aa [a,g,q] w w'
def fR{P:Program}{f:FuncId}{args:Array Value}{v:Value}(h:Calls P f args w λe w'=>e= returned v/\w=w'):Calls P f args w λe w'=>e= returned v/\w'=w:=
 h.mono λ_ _ ⟨a,b⟩=>⟨a,b.symm⟩
def da.ar_{r:Rg}(h:da w l a g q t r){s':Ar}(hs:aB w' a g s')(k:aa [a,g] w w'):da w' l a g q t ⟨s',r.S⟩:=
 ⟨hs,k.blk h.lk (by simp[h.la,h.lg]),h.sp.turns k (by simp[h.qa,h.qg]),h.la,h.lg,h.lq,h.qa,h.qg,h.len⟩
def da.drew{r:Rg}(h:da w l a g q t r):da w.drew l a g q t r:=h.turns (T:=[]) ((aa.refl _ _).drew) ahz ahz ahz ahz
def uw{S:List Sp}(h:S[n]? =some p):S.set n p=S:=by obtain⟨H,rfl⟩:=List.getElem?_eq_some_iff.1 h;simp
def zK(h:aB w a g s)(x v r:Int)(V:r=ldW s.W x)(Y:s.ops+1<=1000000000000):E 271 #[↑a,J x,J v] w (fh w a g (cz s x v) (J r)):=by rw[V];exact fw h x v Y
def kF(h:aB w a g s)(x r:Int)(V:r=ldW s.W x)(Y:s.ops+1<=1000000000000):E 173 #[↑a,J x] w (fh w a g (af s x) (J r)):=by rw[V];exact aE h x Y
def AD(h:aB w a g s)(x old v:Int)(b:Bool)(I:cK s x old=b)(Y:s.ops+1<=1000000000000):E 272 #[↑a,J x,J old,J v] w (fh w a g (dY s x old v) (.bool b)):=by rw[<-I];exact jo h x old v Y
def da.put1{r:Rg}(h:da w l a g q t r){j:Nat}{p':Sp}{u:Value}(V:r.S[n]? =some p)(O:j<4)(I:(bm p).set j u=bm p'):da (w.setCell ⟨q,n*4+j,none⟩ u) l a g q t ⟨r.ar,r.S.set n p'⟩/\aa [q] w (w.setCell ⟨q,n*4+j,none⟩ u):=by have H:aa [q] w (w.setCell ⟨q,n*4+j,none⟩ u):=(aa.refl _ _).setCell (.inl ahz) _;exact⟨h.spot (h.sp.put V O I) ahz H,H⟩
def rgA(h:Q:=by
    go_wp2
    go_ret
    rw[HE.o]
    refine⟨rfl,?_,H1.o.2.mono ahz⟩
    dsimp only
    rw[uw HP.o]
    exact H1.o.1):Q:=h
def rgB(h:Q:=by
    go_wp2
    go_ret
    rw[HE.o]
    first
      | rw[if_pos HZ.o]
      | rw[if_neg HZ.o]
      | skip
    refine⟨rfl,?_,(H1.o.2.mono ahz).trans (HG.o.2.mono ahz)⟩
    first
      | exact HG.o.1
      | simpa using HG.o.1):Q:=h
def rgS(h:Q:=by
    simp only[List.take_succ_cons,List.take_zero,List.drop_succ_cons,List.drop_zero]
    change wpStill _ _ (World.drew _) _ _ _
    repeat still_step
    try still_call HC.o
    repeat still_step
    refine wpStill_nil ?_
    change wpList _ _ _ _ _ (World.drew w)
    go_wp2_with fail
    refine HO.o.mono ?_
    rintro en w1 ⟨rfl,h1,t1⟩
    have H1:=qh (And.intro (HD.o.ar_ h1 t1) (aa.trans ((aa.refl _ _).drew) t1))
    first
      | exact rgA
      | (have Mr:=qh (HJ.o _ H1.o.1)
         have M2:=Mr.o.1.put1 (n:=n) (j:=2) (u:= J 1) (p:=⟨6,1,pb,pz⟩) (p':=⟨6,1,1,pz⟩) aiO ahA rfl
         have HG:=qh (And.intro M2.1 (Mr.o.2.trans M2.2))
         have J':=H1.o.1.sp
         have d1:=J'.cell HP.o 1 _ rfl
         have d2:=J'.cell HP.o 2 _ rfl
         have f1:=J'.free (n*4+1)
         have f2:=J'.free (n*4+2)
         clear h1 t1 J' M2
         exact rgB)):Q:=h
def rgL(h:Q:=by
    go_region_held3 (λW=>W.cell? l=some ↑a/\Z W l 1 (J t))
      (first|exact⟨c0,c1⟩|exact⟨k0,k1⟩|exact hk.o _ _)
      (first
        | (go_at_call 271;go_loud (refine HO.o.mono ?_);rintro en w1 ⟨rfl,h1,t1⟩;have H1:=qh (And.intro (HD.o.ar_ h1 t1) (aa.trans ((aa.refl _ _).drew) t1));have k0:w1.cell? l=some ↑a:=H1.o.1.lk.cell 0;have k1:Z w1 l 1 (J t):=H1.o.1.lk.cell 1;have hk:Kq (∀(o:Nat) (u:Value),(w1.setCell ⟨q,o,none⟩ u).cell? l=some ↑a/\(w1.setCell ⟨q,o,none⟩ u).cell? ⟨l,1,none⟩=some (J t)):=qh λo u=>⟨(H1.o.1.lk.far (p:=⟨q,o,none⟩) H1.o.1.lq u).cell 0,(H1.o.1.lk.far (p:=⟨q,o,none⟩) H1.o.1.lq u).cell 1⟩;have d0:=H1.o.1.sp.cell HP.o 0 _ rfl;simp only[Nat.add_zero]at d0;have d1:=H1.o.1.sp.cell HP.o 1 _ rfl;have d2:=H1.o.1.sp.cell HP.o 2 _ rfl;have f1:=H1.o.1.sp.free (n*4+1);have f2:=H1.o.1.sp.free (n*4+2))
        | (go_at_call 173;go_loud (refine HO.o.mono ?_);rintro en w1 ⟨rfl,h1,t1⟩;have H1:=qh (And.intro (HD.o.ar_ h1 t1) (aa.trans ((aa.refl _ _).drew) t1));have k0:w1.cell? l=some ↑a:=H1.o.1.lk.cell 0;have k1:Z w1 l 1 (J t):=H1.o.1.lk.cell 1;have hk:Kq (∀(o:Nat) (u:Value),(w1.setCell ⟨q,o,none⟩ u).cell? l=some ↑a/\(w1.setCell ⟨q,o,none⟩ u).cell? ⟨l,1,none⟩=some (J t)):=qh λo u=>⟨(H1.o.1.lk.far (p:=⟨q,o,none⟩) H1.o.1.lq u).cell 0,(H1.o.1.lk.far (p:=⟨q,o,none⟩) H1.o.1.lq u).cell 1⟩;have d0:=H1.o.1.sp.cell HP.o 0 _ rfl;simp only[Nat.add_zero]at d0;have d1:=H1.o.1.sp.cell HP.o 1 _ rfl;have d2:=H1.o.1.sp.cell HP.o 2 _ rfl;have f1:=H1.o.1.sp.free (n*4+1);have f2:=H1.o.1.sp.free (n*4+2))
        | (go_at_call 270;go_loud (refine LT HC.o ?_))
        | (go_at_call 269;go_loud (refine LT HC.o ?_)))
    all_goals clear h1 t1
    have HG:=qh (HJ.o _ H1.o.1)
    cases hz:(v==0)
    . have HZ:Kq (¬v=0):=qh ahZ
      exact rgB
    . have HZ:Kq (v=0):=qh ahZ
      exact rgB):Q:=h
def J5(h:Q:=by
    go_region_held3 (λW=>W.cell? l=some ↑a/\Z W l 1 (J t))
      (first|exact⟨c0,c1⟩|exact⟨k0,k1⟩|exact hk.o _ _)
      (first
        | (go_at_call 173;go_loud (refine HO.o.mono ?_);rintro en w1 ⟨rfl,h1,t1⟩;have H1:=qh (And.intro (HD.o.ar_ h1 t1) (aa.trans ((aa.refl _ _).drew) t1));have k0:w1.cell? l=some ↑a:=H1.o.1.lk.cell 0;have k1:Z w1 l 1 (J t):=H1.o.1.lk.cell 1;have hk:Kq (∀(o:Nat) (u:Value),(w1.setCell ⟨q,o,none⟩ u).cell? l=some ↑a/\(w1.setCell ⟨q,o,none⟩ u).cell? ⟨l,1,none⟩=some (J t)):=qh λo u=>⟨(H1.o.1.lk.far (p:=⟨q,o,none⟩) H1.o.1.lq u).cell 0,(H1.o.1.lk.far (p:=⟨q,o,none⟩) H1.o.1.lq u).cell 1⟩;have d0:=H1.o.1.sp.cell HP.o 0 _ rfl;simp only[Nat.add_zero]at d0;have d1:=H1.o.1.sp.cell HP.o 1 _ rfl;have d2:=H1.o.1.sp.cell HP.o 2 _ rfl;have f1:=H1.o.1.sp.free (n*4+1);have f2:=H1.o.1.sp.free (n*4+2))
        | (go_at_call 270;go_loud (refine LT HC.o ?_)))
    all_goals clear h1 t1
    have Mr:=qh (HJ.o _ H1.o.1)
    by_cases hz:0<v
    . have HZ:=qh hz
      have M2:=Mr.o.1.put1 (n:=n) (j:=2) (u:= J 0) (p:=⟨5,v,pb,pz⟩) (p':=⟨5,v,0,pz⟩) aiO ahA rfl
      have HG:=qh (And.intro M2.1 (Mr.o.2.trans M2.2))
      clear M2
      rw[if_pos hz]at HE
      exact rgB
    . by_cases hz2:v<0
      . have HG:=Mr
        rw[if_neg hz,if_pos hz2]at HE
        exact rgB
      . have HG:=Mr
        rw[if_neg hz,if_neg hz2]at HE
        exact rgB):Q:=h
section
variable{r:Rg}
def BM(h:da w l a g q t r)(n:Nat)(p:Sp)(hp:r.S[n]? =some p)(x:Int)(Y:r.ar.ops+1<=1000000000000)(h1:1<=p.pc)(h6:p.pc<=6):E 266 #[↑l,pointer (some ⟨q,n*4,none⟩),J x] w (Ah w l a g q t n r p (iU r.ar t x p)):=by
  have c0:w.cell? l=some ↑a:=h.lk.cell 0;have c1:Z w l 1 (J t):=h.lk.cell 1;refine aiX ?_;intro a0 a1 a2 a3;have V:p.pc=1\/p.pc=2\/p.pc=3\/p.pc=4\/p.pc=5\/p.pc=6:=by omega
  have H:=qh h;have HD:=qh h.drew;have I:=qh hp;obtain⟨pc,pa,pb,pz⟩:=p;simp only at V a0 a1 a2 a3;clear h hp h1 h6;rcases V with rfl|rfl|rfl|rfl|rfl|rfl
  all_goals have HP:=qh I.o;clear I;go_enter func266,ntmps266;go_wp2
  . have HE:Kq (iU r.ar t x ⟨1,pa,pb,pz⟩=(ae r.ar (nxA t x) 0,⟨2,pa,pb,pz⟩)):=qh ahC;have HC:=qh (fR (jX HD.o x));have HO:=qh (an HD.o.ar (nxA t x) 0 Y);refine wp_region_still_tail 7 ahB ahB ?_;exact rgS
  . have HE:Kq (iU r.ar t x ⟨2,pa,pb,pz⟩=(ae r.ar (stA t x) 0,⟨3,pa,pb,pz⟩)):=qh ahC;have HC:=qh (fR (ke HD.o x));have HO:=qh (an HD.o.ar (stA t x) 0 Y);refine wp_region_still_tail 7 ahB ahB ?_;exact rgS
  . obtain⟨v,O⟩:∃v,v=ldW r.ar.W t:=⟨_,rfl⟩;have HE:Kq (iU r.ar t x ⟨3,pa,pb,pz⟩=(cz r.ar t x,⟨if v=0 then 6 else 4,v,pb,pz⟩)):=qh (by rw[O];rfl);have HO:=qh (zK HD.o.ar t x v O Y);have HJ:=qh (λW (h:da W l a g q t ⟨cz r.ar t x,r.S⟩)=>h.put1 HP.o (j:=1) (u:= J v) (p':=⟨3,v,pb,pz⟩) ahA rfl);clear O;exact rgL
  . have HE:Kq (iU r.ar t x ⟨4,pa,pb,pz⟩=(ae r.ar (nxA t pa) x,⟨5,pa,pb,pz⟩)):=qh ahC;have HC:=qh (fR (jX HD.o pa));have HO:=qh (an HD.o.ar (nxA t pa) x Y);refine wp_region_still_tail 11 ahB ahB ?_;exact rgS
  . obtain⟨v,O⟩:∃v,v=ldW r.ar.W (stA t x):=⟨_,rfl⟩;have HE:Kq (iU r.ar t x ⟨5,pa,pb,pz⟩=(af r.ar (stA t x),if 0<v then⟨10,v,0,pz⟩else if v<0 then⟨6,v,pb,pz⟩else⟨5,v,pb,pz⟩)):=qh (by rw[O];rfl);have HC:=qh (ke HD.o x);have HO:=qh (kF HD.o.ar (stA t x) v O Y);have HJ:=qh (λW (h:da W l a g q t ⟨af r.ar (stA t x),r.S⟩)=>h.put1 HP.o (j:=1) (u:= J v) (p':=⟨5,v,pb,pz⟩) ahA rfl);clear O;exact J5
  . have HE:Kq (iU r.ar t x ⟨6,pa,pb,pz⟩=(ae r.ar (stA t x) 1,⟨10,1,1,pz⟩)):=qh ahC;have HC:=qh (fR (ke HD.o x));have HO:=qh (an HD.o.ar (stA t x) 1 Y);have HJ:=qh (λW (h:da W l a g q t ⟨ae r.ar (stA t x) 1,r.S⟩)=>h.put1 HP.o (j:=1) (u:= J 1) (p':=⟨6,1,pb,pz⟩) ahA rfl);refine wp_region_still_tail 7 ahB ahB ?_;exact rgS
def ED(h:da w l a g q t r)(n:Nat)(p:Sp)(hp:r.S[n]? =some p)(x:Int)(Y:r.ar.ops+1<=1000000000000)(h1:11<=p.pc)(h6:p.pc<=16):E 267 #[↑l,pointer (some ⟨q,n*4,none⟩),J x] w (Ah w l a g q t n r p (eJ r.ar t x p)):=by
  have c0:w.cell? l=some ↑a:=h.lk.cell 0;have c1:Z w l 1 (J t):=h.lk.cell 1;refine aiX ?_;intro a0 a1 a2 a3;have hq:p.pc=11\/p.pc=12\/p.pc=13\/p.pc=14\/p.pc=15\/p.pc=16:=by omega
  have H:=qh h;have HD:=qh h.drew;have V:=qh hp;obtain⟨pc,pa,pb,pz⟩:=p;simp only at hq a0 a1 a2 a3;clear h hp h1 h6;rcases hq with rfl|rfl|rfl|rfl|rfl|rfl
  all_goals have HP:=qh V.o;clear V;go_enter func267,ntmps267;go_wp2
  . obtain⟨v,O⟩:∃v,v=ldW r.ar.W (nxA t x):=⟨_,rfl⟩;have HE:Kq (eJ r.ar t x ⟨11,pa,pb,pz⟩=(af r.ar (nxA t x),⟨if v=0 then 12 else 14,v,pb,pz⟩)):=qh aiv;have HC:=qh (jX HD.o x);have HO:=qh (kF HD.o.ar (nxA t x) v O Y);have HJ:=qh (λW (h:da W l a g q t ⟨af r.ar (nxA t x),r.S⟩)=>h.put1 HP.o (j:=1) (u:= J v) (p':=⟨11,v,pb,pz⟩) ahA rfl);clear O;exact rgL
  . cases I:cK r.ar t x;all_goals have HE:Kq (eJ r.ar t x ⟨12,pa,pb,pz⟩=(dY r.ar t x 0,⟨if cK r.ar t x then 0 else 13,pa,pb,pz⟩)):=qh rfl;rw[I]at HE;have HO:=qh (AD HD.o.ar t x 0 _ I Y);clear I;refine wp_region_still_tail 9 ahB ahB ?_;exact rgS
  . obtain⟨v,O⟩:∃v,v=ldW r.ar.W (nxA t x):=⟨_,rfl⟩;have HE:Kq (eJ r.ar t x ⟨13,pa,pb,pz⟩=(af r.ar (nxA t x),⟨if v=0 then 13 else 14,v,pb,pz⟩)):=qh aiv;have HC:=qh (jX HD.o x);have HO:=qh (kF HD.o.ar (nxA t x) v O Y);have HJ:=qh (λW (h:da W l a g q t ⟨af r.ar (nxA t x),r.S⟩)=>h.put1 HP.o (j:=1) (u:= J v) (p':=⟨13,v,pb,pz⟩) ahA rfl);clear O;exact rgL
  . have HE:Kq (eJ r.ar t x ⟨14,pa,pb,pz⟩=(ae r.ar (stA t pa) pz,⟨0,pa,pb,pz⟩)):=qh ahC;have HC:=qh (fR (ke HD.o pa));have HO:=qh (an HD.o.ar (stA t pa) pz Y);refine wp_region_still_tail 14 ahB ahB ?_;exact rgS
  . obtain⟨v,O⟩:∃v,v=ldW r.ar.W (nxA t x):=⟨_,rfl⟩;have HE:Kq (eJ r.ar t x ⟨15,pa,pb,pz⟩=(af r.ar (nxA t x),⟨if v=0 then 10 else 16,pa,v,pz⟩)):=qh aiv;have HC:=qh (jX HD.o x);have HO:=qh (kF HD.o.ar (nxA t x) v O Y);have HJ:=qh (λW (h:da W l a g q t ⟨af r.ar (nxA t x),r.S⟩)=>h.put1 HP.o (j:=2) (u:= J v) (p':=⟨15,pa,v,pz⟩) ahA rfl);clear O;exact rgL
  . have HE:Kq (eJ r.ar t x ⟨16,pa,pb,pz⟩=(ae r.ar (stA t pb) pz,⟨0,pa,pb,pz⟩)):=qh ahC;have HC:=qh (fR (ke HD.o pb));have HO:=qh (an HD.o.ar (stA t pb) pz Y);refine wp_region_still_tail 14 ahB ahB ?_;exact rgS
end
end
section
open Go.RowKit
def Gy(p:Sp):Prop:=(0<=p.pc/\p.pc<=6)\/(10<=p.pc/\p.pc<=16)
def JM(w:World)(l a g q:Nat)(t:Int)(x:Rg×Bool)(e:Ending)(w':World):Prop:=e= returned (.bool x.2)/\da w' l a g q t x.1/\aa [a,g,q] w w'
def CY{r:Rg}(h:da w l a g q t r)(i:Int)(Y:r.ar.ops+1<=1000000000000)(I':∀p∈r.S,Gy p):E 259 #[↑l,J i] w (JM w l a g q t (mQ r t i)):=by
  have LN:=aP;have H:=qh h;have KX:=h.len;obtain⟨p,hp⟩:=LE (getS r.S i);have HP:=qh hp;by_cases hc:okI r.S i/\p.pc≠0/\p.pc≠10
  . obtain⟨hi,I,ht⟩:=hc;have KW:=dM hi;rw[<-hp]at KW;have mP:=I' p (List.mem_of_getElem? KW);obtain⟨h0,h9⟩:=id hi;obtain⟨n,rfl⟩:=Int.eq_ofNat_of_zero_le h0;simp only[Int.toNat_natCast]at KW;have t0:(p.pc==0)=false:=(by simpa using I);have ab:(p.pc==10)=false:=(by simpa using ht);have hn:n<r.S.length:=(by omega);have PP:(n:Int)<r.S.length:=(by omega);have hx:(n:Int)+1<=33:=by omega
    have O:Kq (mQ r t n=(⟨(df r.ar t (n+1) p).1,r.S.set n (df r.ar t (n+1) p).2⟩,decide ((df r.ar t (n+1) p).2.pc=0\/(df r.ar t (n+1) p).2.pc=10))):=qh (by
      unfold mQ
      rw[<-HP.o,if_pos ⟨hi,I,ht⟩];rfl)
    have HG:=qh (And.intro KW hi);have HB:Kq ((1<=p.pc/\p.pc<=6)\/(11<=p.pc/\p.pc<=16)):=qh (by unfold Gy at mP;omega);clear h hp I ht KW h0 h9 hi I' mP;go_enter func259,ntmps259;go_wp2_with fail;refine ST (pD H.o n) λw1 b1=>?_;rw[<-HP.o];unfold aC;have h1:=H.o.below b1;have H1:=qh (And.intro h1 b1);have c2:Z w1 l 2 (slice (some ⟨q,0,none⟩) r.S.length r.S.length):=h1.lk.cell 2;clear h1 b1;by_cases h10:p.pc<10
    all_goals
      go_wp2_with fail;first| refine(BM H1.o.1 n p HG.o.1 _ Y (by have:=HB.o;omega) (by have:=HB.o;omega)).mono ?_| refine(ED H1.o.1 n p HG.o.1 _ Y (by have:=HB.o;omega) (by have:=HB.o;omega)).mono ?_
      rintro en w2 ⟨rfl,V,t2⟩;obtain⟨y,hy⟩:=LE (df r.ar t (n+1) p);have RN:=hy;unfold df at RN;first| rw[if_pos h10]at RN| rw[if_neg ahy]at RN
      rw[<-RN]at V ⊢;rw[<-hy]at O;clear hy RN;have LW:(r.S.set n {y.2 with pc:=p.pc})[n]? =some {y.2 with pc:=p.pc}:=(by simp[hn]);have d0:=aaa (V.sp.cell LW 0 _ rfl);have f0:=V.sp.free (n*4);have hq:=V.sp.lt;have h3:=V.sp.put LW (j:=0) (u:= J y.2.pc) (p':=y.2) ahA rfl;simp only[Nat.add_zero,List.set_set]at h3;have UQ:aa [q] w2 (w2.setCell ⟨q,n*4,none⟩ (J y.2.pc)):=(aa.refl _ _).setCell (.inl ahz) _;have h4:=V.spot h3 ahz UQ;have H2:=qh (And.intro h4 (((aa.of_below H1.o.2).trans t2).trans (UQ.mono ahz)));clear V t2 LW h3 UQ h4;cases z0:(y.2.pc==0)
      . cases z1:(y.2.pc==10);. have HD:Kq (decide (y.2.pc=0\/y.2.pc=10)=false):=qh aie;go_wp2;go_ret;rw[O.o];exact⟨az HD.o.symm,H2.o.1,H2.o.2⟩
        . have HD:Kq (decide (y.2.pc=0\/y.2.pc=10)=true):=qh aif;go_wp2;go_ret;rw[O.o];exact⟨az HD.o.symm,H2.o.1,H2.o.2⟩
      . have HD:Kq (decide (y.2.pc=0\/y.2.pc=10)=true):=qh aig;go_wp2;go_ret;rw[O.o];exact⟨az HD.o.symm,H2.o.1,H2.o.2⟩
  . have O:Kq (mQ r t i=(r,false)):=qh (by unfold mQ;rw[<-hp,if_neg hc])
    have I:p.pc=0\/p.pc=10:=by
      by_cases hi:okI r.S i
      . by_cases h0:p.pc=0;. exact .inl h0
        . by_cases h10:p.pc=10;. exact .inr h10
          . exact absurd ⟨hi,h0,h10⟩ hc
      . rw[hp,dF hi];exact .inl rfl
    clear h hp hc I';go_enter func259,ntmps259;go_wp2_with fail;refine ST (pD H.o i) λw1 b1=>?_;refine ajy ?_;intro H1;clear b1;rcases I with I|I
    . have t0:(p.pc==0)=true:=(by rw[I];rfl);clear I;go_wp2;go_ret;rw[O.o];exact⟨rfl,H1.o.1,aa.of_below H1.o.2⟩
    . have t0:(p.pc==0)=false:=(by rw[I];rfl);have t1:(p.pc==10)=true:=(by rw[I];rfl);clear I;go_wp2;go_ret;rw[O.o];exact⟨rfl,H1.o.1,aa.of_below H1.o.2⟩
end
section
open Go.RowKit
theorem Tryz.infoSpR:(prog.info? 113).map (λi=>(i.zero,i.size,i.bytes))=some (some (agg #[J 0,J 0,J 0,J 0]),4,32):=by kernel_rfl
def mc(u:Value)(n:Nat):(madeCells #[u,u,u,u] n).toList=List.replicate n u:=by exact aax
def px(n:Nat):(List.replicate n Sp.zero).flatMap bm=List.replicate (n*4) (J 0):=by exact aay
def fX(s:Ar)(n:Int):Int:=if n<1\/32<n then 1 else if (s.room:Int)-s.W.length<2*n+1 then 3 else 0
def qe(w:World)(a g:Nat)(s:Ar)(n:Int)(e:Ending)(w':World):Prop:=
 if fX s n=0 then ∃l q,e= returned (tuple #[pointer (some ⟨l,0,none⟩),J 0])/\da w' l a g q (s.W.length+1) ⟨{s with W:=s.W++List.replicate (2*n+1).toNat 0},List.replicate n.toNat Sp.zero⟩/\w.heap.size<=l/\w.heap.size<=q/\aa [a] w w'
 else e= returned (tuple #[.pointer none,J (fX s n)])/\aB w' a g s/\aa [a] w w'
def zh{s:Ar}(h:aB w a g s)(n:Int):E 141 #[↑a,J n] w (qe w a g s n):=by
  obtain⟨i0,hi,Kt,Kv,ab⟩:=info_parts Tryz.infoSpR;have H:=qh h;have Nd:=h.le;have OO:=h.room;clear h;by_cases O:n<1\/32<n
  . have V:Kq (fX s n=1):=qh (by unfold fX;rw[if_pos O]);by_cases h1:n<1;. clear O;go_enter func141,ntmps141;go_wp2;go_ret2;unfold qe;rw[V.o,if_neg ahA];exact⟨rfl,H.o,aa.refl _ _⟩
    . have h2:32<n:=(by omega);clear O;go_enter func141,ntmps141;go_wp2;go_ret2;unfold qe;rw[V.o,if_neg ahA];exact⟨rfl,H.o,aa.refl _ _⟩
  . obtain⟨m,rfl⟩:=Int.eq_ofNat_of_zero_le (show 0<=n by omega);have h1:¬(m:Int)<1:=(by omega);have h2:¬32<(m:Int):=(by omega);have hm:m<=32:=(by omega);by_cases Y:(s.room:Int)-s.W.length<2*m+1;. have V:Kq (fX s m=3):=qh (by unfold fX;rw[if_neg O,if_pos Y]);have HT:Kq (ef s (2*m+1)=(s,(0:Int),(3:Int))):=qh (by unfold ef;rw[if_neg ahy,if_pos Y]);clear O Y;go_enter func141,ntmps141;go_wp2_with fail;refine(gw H.o (2*m+1)).mono ?_;rintro en w1 ⟨rfl,k1,t1⟩;rw[HT.o]at k1 ⊢;have H1:=qh (And.intro k1 t1);clear k1 t1;go_wp2;go_ret2;unfold qe;rw[V.o,if_neg ahA];exact⟨rfl,H1.o.1,H1.o.2⟩
    . have V:Kq (fX s m=0):=qh (by unfold fX;rw[if_neg O,if_neg Y]);have HT:Kq (ef s (2*m+1)=({s with W:=s.W++List.replicate (2*(m:Int)+1).toNat 0},(s.W.length:Int)+1,(0:Int))):=qh (by unfold ef;rw[if_neg ahy,if_neg Y]);clear O Y;go_enter func141,ntmps141;go_wp2_with fail;refine(gw H.o (2*m+1)).mono ?_;rintro en w1 ⟨rfl,k1,t1⟩;rw[HT.o]at k1 ⊢;have H1:=qh (And.intro k1 t1);clear k1 t1;go_wp2_with (refine wpList_make_full _ rfl (.tmp 27) (.tmp 27) 237 rfl w1.heap.size 113 i0 (agg #[J 0,J 0,J 0,J 0]) 4 Tryz.underlying237 hi Kt Kv .i64 .i64 m m m rfl rfl rfl rfl ?b2 ?b3 (Nat.le_refl _) ?_);case b2=>rw[ab];omega
      case b3=>unfold maxLen;omega
      intro w2 r' hg;have I:dE w2 w1.heap.size (List.replicate m Sp.zero):=(by unfold dE;rw[px];have:=fY r';have e:(madeCells #[Value.int .i64 0,J 0,J 0,J 0] (m*4)).toList=List.replicate (m*4) (J 0):=mc _ _;exact aa2);have t2:aa [] w1 w2:=aa.of_below ((Below.refl w1.heap.size w1).grown hg (Nat.le_refl _) (λj hj=>by cases hj));have Ko:=I.lt;have H2:=qh (And.intro I t2);clear r' hg I t2;go_wp2;go_ret2;unfold qe;rw[V.o,if_pos rfl];have Kl:=H1.o.2.size;have UP:=H2.o.2.size;have hk:=(H1.o.1.turns H2.o.2 ahz ahz);have ad:=hk.blk.lt;have LK:=hk.wds.lt;have Ss:=H1.o.1.blk.lt;have Rr:=H1.o.1.wds.lt;refine⟨w2.heap.size,w1.heap.size,rfl,⟨?_,?_,?_,?_,?_,?_,?_,?_,?_⟩,?_,?_,?_⟩;. exact hk.turns (S:=[]) ((aa.refl _ _).alloc _) ahz ahz
      . have:=Blk.new w2 319 #[↑a,J (s.W.length+1),slice (some ⟨w1.heap.size,0,none⟩) m m];simpa using this
      . simpa using H2.o.1.turns (T:=[]) ((aa.refl _ _).alloc _) ahz
      all_goals (try simp only[List.length_replicate,Int.toNat_natCast])
      all_goals first
        | omega
        | exact(((H1.o.2.trans (H2.o.2.mono ahz)).alloc _))
def qK(s:Ar)(t x:Int)(p:Sp):(df s t x p).1.ops<=s.ops+1:=by
 unfold df iU eJ ae cz af dY wrA;split
 .repeat' split
  all_goals exact fP _ _ _ _
 .repeat' split
  all_goals exact fP _ _ _ _
end
end Go.Proofs.YtglokdbiggbkjaaGreat
