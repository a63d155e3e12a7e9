/- Joined texts. -/
import Derived.StillTailTactics
import Derived.Deep.RegionHeld3
import Derived.Test.YtglokdbiggbkjaaGreatMgWorldAgain0
import Derived.Test.YtglokdbiggbkjaaGreatMgWorldAgain2
import Derived.Test.YtglokdbiggbkjaaGreatMgWorldAgain3
import Derived.Test.YtglokdbiggbkjaaGreatMgWorldAgain8
import Derived.Test.YtglokdbiggbkjaaGreatMgWorldAgain15
set_option linter.unusedVariables false
set_option linter.unusedSimpArgs false
set_option linter.defProp false
set_option maxRecDepth 100000
set_option maxHeartbeats 16000000
open Go.Proofs.Tryz
namespace Go.Proofs.YtglokdbiggbkjaaGreat
open Go.IntKind(i64)
open Go.Value(int bool slice agg tuple pointer)
open Go.Ending(returned)
open Go.Obj(cells)
variable{w w':World}{l a g q n:Nat}{t:Int}
section
open Go.RowKit
variable{i f u:Int}
structure Rg where
 ar:Ar
 S:List Sp
def mA(r:Rg)(t i:Int):Rg×Bool:=
 if okI r.S i/\(getS r.S i).pc≠0/\(getS r.S i).pc≠10 then
  (⟨(dc r.ar t (i+1) (getS r.S i)).1,r.S.set i.toNat (dc r.ar t (i+1) (getS r.S i)).2⟩,decide ((dc r.ar t (i+1) (getS r.S i)).2.pc=0\/(dc r.ar t (i+1) (getS r.S i)).2.pc=10))
 else(r,false)
def dg(r:Rg)(i Kn J3:Int):Rg×Bool:=
 if okI r.S i/\(getS r.S i).pc=Kn then(⟨r.ar,r.S.set i.toNat {getS r.S i with pc:=J3}⟩,true)else(r,false)
def ia(r:Rg)(i J3 v:Int):Rg×Bool:=
 if okI r.S i/\(getS r.S i).pc=10 then(⟨r.ar,r.S.set i.toNat {getS r.S i with pc:=J3,c:=v}⟩,true)else(r,false)
structure cX(w:World)(l a g q:Nat)(t:Int)(r:Rg):Prop where
 ar:aB w a g r.ar
 lk:Blk w l 319 #[↑a,int i64 t,slice (some ⟨q,0,none⟩) r.S.length r.S.length]
 sp:dA w q r.S
 la:l≠a
 lg:l≠g
 lq:l≠q
 qa:q≠a
 qg:q≠g
 len:r.S.length<=32
def cX.turns{r:Rg}{T:List Nat}(h:cX w l a g q t r)(k:aa T w w')(h1:l∉T)(H:a∉T)(I:g∉T)(O:q∉T):cX w' l a g q t r:=
 ⟨h.ar.turns k H I,k.blk h.lk h1,h.sp.turns k O,h.la,h.lg,h.lq,h.qa,h.qg,h.len⟩
def cX.below{r:Rg}(h:cX w l a g q t r)(k:Below w.heap.size w w'):cX w' l a g q t r:=
 h.turns (T:=[]) (aa.of_below k) ahq ahq ahq ahq
def i3{r:Rg}(h:cX w l a g q t r):E 263 #[↑l] w λe w'=>e= returned (J r.S.length)/\w=w':=by refine aj3 ?_;intro c2;clear h;go_enter func263,ntmps263;go_wp2;go_ret;exact⟨rfl,rfl⟩
def po{r:Rg}(h:cX w l a g q t r)(i:Int):E 257 #[↑l,J i] w λe w'=>e= returned (aC (getS r.S i))/\Below w.heap.size w w':=by
  have Y:=h.len;by_cases hi:okI r.S i;. have hp:=dJ hi;obtain⟨p,O⟩:=LE (getS r.S i);rw[<-O]at hp ⊢;refine aj3 ?_;intro c2;refine aiM ?_;intro a0 a1 a2 a3;obtain⟨I,h1⟩:=hi;obtain⟨n,rfl⟩:=Int.eq_ofNat_of_zero_le I;simp only[Int.toNat_natCast]at a0 a1 a2 a3;have JZ:=h.lk.lt;have JY:=h.sp.lt;have t2:¬(n:Int)<0:=(by omega);have V:¬((r.S.length:Nat):Int)<=(n:Int):=(by omega);have t4:n<r.S.length:=(by omega);have H:Kq (cX (w.alloc (cells #[J 0,J 0,J 0,J 0] 113)) l a g q t r):=qh (h.below ((Below.refl _ _).alloc (Nat.le_refl _) _));clear h hp O I h1;go_enter func257,ntmps257;go_wp2_with (go_at_call 263;refine(i3 H.o).mono ?_;rintro e w' ⟨rfl,rfl⟩);exact bodyPost_ret (results_cell_row aht _ _ w.heap.size 113 _ (0,0) _ aht (heap_alloc_new w _) Tryz.underlying113 rfl ahs) rfl ⟨rfl,(Below.refl _ _).alloc (Nat.le_refl _) _⟩
  . have H:Kq (cX (w.alloc (cells #[J 0,J 0,J 0,J 0] 113)) l a g q t r):=qh (h.below ((Below.refl _ _).alloc (Nat.le_refl _) _));rw[dC hi];unfold okI at hi;clear h;by_cases I:i<0;. go_enter func257,ntmps257;go_wp2;exact bodyPost_ret (results_cell_row aht _ _ w.heap.size 113 _ (0,0) _ aht (heap_alloc_new w _) Tryz.underlying113 rfl ahs) rfl ⟨rfl,(Below.refl _ _).alloc (Nat.le_refl _) _⟩
    . have V:((r.S.length:Nat):Int)<=i:=(by omega);clear hi;go_enter func257,ntmps257;go_wp2_with (go_at_call 263;refine(i3 H.o).mono ?_;rintro e w' ⟨rfl,rfl⟩);exact bodyPost_ret (results_cell_row aht _ _ w.heap.size 113 _ (0,0) _ aht (heap_alloc_new w _) Tryz.underlying113 rfl ahs) rfl ⟨rfl,(Below.refl _ _).alloc (Nat.le_refl _) _⟩
def rV(w:World)(l a g q:Nat)(t:Int)(x:Rg×Bool)(e:Ending)(w':World):Prop:=e= returned (.bool x.2)/\cX w' l a g q t x.1/\aa [q] w w'
def cX.spot{r:Rg}(h:cX w l a g q t r){H:List Sp}(hs:dA w' q H)(I:H.length=r.S.length)(k:aa [q] w w'):cX w' l a g q t ⟨r.ar,H⟩:=
 ⟨h.ar.turns k (by simpa using λe=>h.qa e.symm) (by simpa using λe=>h.qg e.symm),by
  have:=k.blk h.lk (by simpa using h.lq)
  show Blk w' l _ #[↑a,J t,slice (some ⟨q,0,none⟩) H.length H.length]
  rw[I];exact this,hs,h.la,h.lg,h.lq,h.qa,h.qg,by show H.length<=32;rw[I];exact h.len⟩
def pY{r:Rg}(h:cX w l a g q t r)(i O V:Int):E 262 #[↑l,J i,J O,J V] w (rV w l a g q t (dg r i O V)):=by
  have H:=qh h;have Kw:=h.len;by_cases hi:okI r.S i
  . have hp:=dJ hi;obtain⟨p,i'⟩:=LE (getS r.S i);rw[<-i']at hp;refine aj3 ?_;intro c2;refine ajU ?_;intro a0;have f0:=h.sp.free (i.toNat*4);obtain⟨h0,h1⟩:=id hi;obtain⟨n,rfl⟩:=Int.eq_ofNat_of_zero_le h0;simp only[Int.toNat_natCast]at a0 f0 hp;have t2:¬(n:Int)<0:=(by omega);have t3:¬((r.S.length:Nat):Int)<=(n:Int):=(by omega);have t4:n<r.S.length:=(by omega);have Y:=qh (And.intro hi (And.intro i' hp));clear h hp i' h0 h1 hi;cases hc:(p.pc !=O)
    . have I:Kq (dg r n O V=(⟨r.ar,r.S.set n {p with pc:=V}⟩,true)):=qh (by
        unfold dg;have e:p.pc=O:=by simpa using hc
        rw[<-Y.o.2.1,if_pos ⟨Y.o.1,e⟩];simp)
      go_enter func262,ntmps262;go_wp2_with (go_at_call 263;refine(i3 H.o).mono ?_;rintro e w' ⟨rfl,rfl⟩);go_ret;rw[I.o];have ht:aa [q] w (w.setCell ⟨q,n*4,none⟩ (J V)):=(aa.refl _ _).setCell (.inl ahq) _;exact⟨rfl,H.o.spot (H.o.sp.put Y.o.2.2 (j:=0) ahr rfl) ahq ht,ht⟩
    . have I:Kq (dg r n O V=(r,false)):=qh (by
        unfold dg;have e:¬p.pc=O:=by simpa using hc
        rw[<-Y.o.2.1,if_neg (λh=>e h.2)])
      go_enter func262,ntmps262;go_wp2_with (go_at_call 263;refine(i3 H.o).mono ?_;rintro e w' ⟨rfl,rfl⟩);go_ret;rw[I.o];exact⟨rfl,H.o,aa.refl _ _⟩
  . have I:Kq (dg r i O V=(r,false)):=qh (by
      unfold dg
      rw[if_neg (λh=>hi h.1)])
    unfold okI at hi;clear h;by_cases h0:i<0;. go_enter func262,ntmps262;go_wp2;go_ret;rw[I.o];exact⟨rfl,H.o,aa.refl _ _⟩
    . have t3:((r.S.length:Nat):Int)<=i:=(by omega);clear hi;go_enter func262,ntmps262;go_wp2_with (go_at_call 263;refine(i3 H.o).mono ?_;rintro e w' ⟨rfl,rfl⟩);go_ret;rw[I.o];exact⟨rfl,H.o,aa.refl _ _⟩
def De{r:Rg}(h:cX w l a g q t r)(i:Int):E 256 #[↑l,J i] w (rV w l a g q t (dg r i 0 1)):=by go_enter func256,ntmps256;have H:=qh h;clear h;go_wp2_with fail;refine Pi (pY H.o i 0 1) λw1 H1=>?_;obtain⟨b,I⟩:=LE ((dg r i 0 1).2);rw[<-I];have O:=qh I;clear I;go_wp2;go_ret;exact⟨by rw[O.o];rfl,H1.o.1,H1.o.2⟩
def uB{r:Rg}(h:(dg r i f u).2=true):okI r.S i/\(getS r.S i).pc=f/\(dg r i f u).1=⟨r.ar,r.S.set i.toNat {getS r.S i with pc:=u}⟩:=by
 unfold dg at *;split at h;.rename_i hc;rw[if_pos hc];exact⟨hc.1,hc.2,rfl⟩
 .cases h
def sm{r:Rg}(h:(dg r i f u).2=false):¬(okI r.S i/\(getS r.S i).pc=f)/\(dg r i f u).1=r:=by
 unfold dg at *;split at h;.cases h
 .rename_i hc;rw[if_neg hc];exact⟨hc,rfl⟩
def un{r:Rg}(h:cX w l a g q t r)(i O v:Int):E 268 #[↑l,J i,J O,J v] w (rV w l a g q t (ia r i O v)):=by
  have H:=qh h;clear h;go_enter func268,ntmps268;go_wp2_with fail;refine(pY H.o i 10 O).mono ?_;rintro en w1 ⟨rfl,h1,t1⟩;cases I:(dg r i 10 O).2;. obtain⟨hc,V⟩:=sm I;rw[V]at h1;have Y:Kq (ia r i O v=(r,false)):=qh (by unfold ia;rw[if_neg hc]);have H1:=qh (And.intro h1 t1);clear h1 t1 I hc V;go_wp2;go_ret;rw[Y.o];exact⟨rfl,H1.o.1,H1.o.2⟩
  . obtain⟨hi,hc,V⟩:=uB I;rw[V]at h1;have Kl:=dJ hi;have Kw:=h1.len;simp only[List.length_set]at Kw;obtain⟨h0,h9⟩:=id hi;obtain⟨n,rfl⟩:=Int.eq_ofNat_of_zero_le h0;simp only[Int.toNat_natCast]at h1 Kl;have hp:(r.S.set n {getS r.S n with pc:=O})[n]? =some {getS r.S n with pc:=O}:=(by have:n<r.S.length:=(by omega);simp[this]);have c2:Z w1 l 2 (slice (some ⟨q,0,none⟩) r.S.length r.S.length):=(by have:=h1.lk.cell 2;simpa using this);have a3:=h1.sp.cell hp 3 _ rfl;have f3:=h1.sp.free (n*4+3);have t4:n<r.S.length:=(by omega);have t5:(n:Int)<r.S.length:=(by omega);have Y:Kq (ia r n O v=(⟨r.ar,r.S.set n {getS r.S n with pc:=O,c:=v}⟩,true)):=qh (by unfold ia;rw[if_pos ⟨hi,hc⟩];simp);have H1:=qh (And.intro h1 (And.intro t1 hp));clear h1 t1 I hc V hp hi Kl h0 h9;go_wp2;go_ret;rw[Y.o];have ht:aa [q] w1 (w1.setCell ⟨q,n*4+3,none⟩ (J v)):=(aa.refl _ _).setCell (.inl ahq) _;refine⟨rfl,?_,H1.o.2.1.trans ht⟩;have h2:=H1.o.1.spot (H1.o.1.sp.put H1.o.2.2 (j:=3) (u:= J v) (p':={getS r.S n with pc:=O,c:=v}) ahr rfl) ahq ht;simpa using h2
def yG{r:Rg}(h:cX w l a g q t r)(i v:Int):E 264 #[↑l,J i,J v] w (rV w l a g q t (ia r i 11 v)):=by have H:=qh h;clear h;go_enter func264,ntmps264;go_wp2_with fail;refine Pi (un H.o i 11 v) λw1 H1=>?_;obtain⟨b,I⟩:=LE ((ia r i 11 v).2);rw[<-I];have O:=qh I;clear I;go_wp2;go_ret;exact⟨by rw[O.o];rfl,H1.o.1,H1.o.2⟩
def Cq{r:Rg}(h:cX w l a g q t r)(i v:Int):E 265 #[↑l,J i,J v] w (rV w l a g q t (ia r i 15 v)):=by have H:=qh h;clear h;go_enter func265,ntmps265;go_wp2_with fail;refine Pi (un H.o i 15 v) λw1 H1=>?_;obtain⟨b,I⟩:=LE ((ia r i 15 v).2);rw[<-I];have O:=qh I;clear I;go_wp2;go_ret;exact⟨by rw[O.o];rfl,H1.o.1,H1.o.2⟩
def jL{r:Rg}(h:cX w l a g q t r)(x:Int):E 269 #[↑l,J x] w λe w'=>e= returned (J (nxA t x))/\w=w':=by have c1:Z w l 1 (J t):=h.lk.cell 1;clear h;go_enter func269,ntmps269;go_wp2;go_ret;exact⟨rfl,rfl⟩
def jT{r:Rg}(h:cX w l a g q t r)(x:Int):E 270 #[↑l,J x] w λe w'=>e= returned (J (stA t x))/\w=w':=by have c1:Z w l 1 (J t):=h.lk.cell 1;clear h;go_enter func270,ntmps270;go_wp2;go_ret;exact⟨rfl,rfl⟩
end
section
open Go.RowKit
variable{p:Sp}{s:Ar}{Q:Prop}
def zT(w:World)(l a g q:Nat)(t:Int)(n:Nat)(r:Rg)(p:Sp)(x:Ar×Sp)(e:Ending)(w':World):Prop:=
 e= returned (J x.2.pc)/\cX w' l a g q t ⟨x.1,r.S.set n {x.2 with pc:=p.pc}⟩/\aa [a,g,q] w w'
def fJ{P:Program}{f:FuncId}{args:Array Value}{v:Value}(h:Calls P f args w λe w'=>e= returned v/\w=w'):Calls P f args w λe w'=>e= returned v/\w'=w:=
 h.mono λ_ _ ⟨a,b⟩=>⟨a,b.symm⟩
def cX.ar_{r:Rg}(h:cX w l a g q t r){s':Ar}(hs:aB w' a g s')(k:aa [a,g] w w'):cX w' l a g q t ⟨s',r.S⟩:=
 ⟨hs,k.blk h.lk (by simp[h.la,h.lg]),h.sp.turns k (by simp[h.qa,h.qg]),h.la,h.lg,h.lq,h.qa,h.qg,h.len⟩
def cX.drew{r:Rg}(h:cX w l a g q t r):cX w.drew l a g q t r:=h.turns (T:=[]) ((aa.refl _ _).drew) ahq ahq ahq ahq
def ua{S:List Sp}(h:S[n]? =some p):S.set n p=S:=by obtain⟨H,rfl⟩:=List.getElem?_eq_some_iff.1 h;simp
def zx(h:aB w a g s)(x v r:Int)(V:r=ldW s.W x)(Y:s.ops+1<=1000000000000):E 271 #[↑a,J x,J v] w (eY w a g (ch s x v) (J r)):=by rw[V];exact fh h x v Y
def kp(h:aB w a g s)(x r:Int)(V:r=ldW s.W x)(Y:s.ops+1<=1000000000000):E 173 #[↑a,J x] w (eY w a g (af s x) (J r)):=by rw[V];exact aE h x Y
def Aq(h:aB w a g s)(x old v:Int)(b:Bool)(I:cB s x old=b)(Y:s.ops+1<=1000000000000):E 272 #[↑a,J x,J old,J v] w (eY w a g (dU s x old v) (.bool b)):=by rw[<-I];exact jc h x old v Y
def cX.put1{r:Rg}(h:cX w l a g q t r){j:Nat}{p':Sp}{u:Value}(V:r.S[n]? =some p)(O:j<4)(I:(bf p).set j u=bf p'):cX (w.setCell ⟨q,n*4+j,none⟩ u) l a g q t ⟨r.ar,r.S.set n p'⟩/\aa [q] w (w.setCell ⟨q,n*4+j,none⟩ u):=by have H:aa [q] w (w.setCell ⟨q,n*4+j,none⟩ u):=(aa.refl _ _).setCell (.inl ahq) _;exact⟨h.spot (h.sp.put V O I) ahq H,H⟩
def rgA(h:Q:=by
    go_wp2
    go_ret
    rw[HE.o]
    refine⟨rfl,?_,H1.o.2.mono ahq⟩
    dsimp only
    rw[ua HP.o]
    exact H1.o.1):Q:=h
def rgB(h:Q:=by
    go_wp2
    go_ret
    rw[HE.o]
    first
      | rw[if_pos HZ.o]
      | rw[if_neg HZ.o]
      | skip
    refine⟨rfl,?_,(H1.o.2.mono ahq).trans (HG.o.2.mono ahq)⟩
    first
      | exact HG.o.1
      | simpa using HG.o.1):Q:=h
def rgS(h:Q:=by
    simp only[List.take_succ_cons,List.take_zero,List.drop_succ_cons,List.drop_zero]
    change wpStill _ _ (World.drew _) _ _ _
    repeat still_step
    try still_call HC.o
    repeat still_step
    refine wpStill_nil ?_
    change wpList _ _ _ _ _ (World.drew w)
    go_wp2_with fail
    refine HO.o.mono ?_
    rintro en w1 ⟨rfl,h1,t1⟩
    have H1:=qh (And.intro (HD.o.ar_ h1 t1) (aa.trans ((aa.refl _ _).drew) t1))
    first
      | exact rgA
      | (have L3:=qh (HJ.o _ H1.o.1)
         have MC:=L3.o.1.put1 (n:=n) (j:=2) (u:= J 1) (p:=⟨6,1,pb,pz⟩) (p':=⟨6,1,1,pz⟩) aiD ahr rfl
         have HG:=qh (And.intro MC.1 (L3.o.2.trans MC.2))
         have JV:=H1.o.1.sp
         have d1:=JV.cell HP.o 1 _ rfl
         have d2:=JV.cell HP.o 2 _ rfl
         have f1:=JV.free (n*4+1)
         have f2:=JV.free (n*4+2)
         clear h1 t1 JV MC
         exact rgB)):Q:=h
def rgL(h:Q:=by
    go_region_held3 (λW=>W.cell? l=some ↑a/\Z W l 1 (J t))
      (first|exact⟨c0,c1⟩|exact⟨k0,k1⟩|exact hk.o _ _)
      (first
        | (go_at_call 271;go_loud (refine HO.o.mono ?_);rintro en w1 ⟨rfl,h1,t1⟩;have H1:=qh (And.intro (HD.o.ar_ h1 t1) (aa.trans ((aa.refl _ _).drew) t1));have k0:w1.cell? l=some ↑a:=H1.o.1.lk.cell 0;have k1:Z w1 l 1 (J t):=H1.o.1.lk.cell 1;have hk:Kq (∀(o:Nat) (u:Value),(w1.setCell ⟨q,o,none⟩ u).cell? l=some ↑a/\(w1.setCell ⟨q,o,none⟩ u).cell? ⟨l,1,none⟩=some (J t)):=qh λo u=>⟨(H1.o.1.lk.far (p:=⟨q,o,none⟩) H1.o.1.lq u).cell 0,(H1.o.1.lk.far (p:=⟨q,o,none⟩) H1.o.1.lq u).cell 1⟩;have d0:=H1.o.1.sp.cell HP.o 0 _ rfl;simp only[Nat.add_zero]at d0;have d1:=H1.o.1.sp.cell HP.o 1 _ rfl;have d2:=H1.o.1.sp.cell HP.o 2 _ rfl;have f1:=H1.o.1.sp.free (n*4+1);have f2:=H1.o.1.sp.free (n*4+2))
        | (go_at_call 173;go_loud (refine HO.o.mono ?_);rintro en w1 ⟨rfl,h1,t1⟩;have H1:=qh (And.intro (HD.o.ar_ h1 t1) (aa.trans ((aa.refl _ _).drew) t1));have k0:w1.cell? l=some ↑a:=H1.o.1.lk.cell 0;have k1:Z w1 l 1 (J t):=H1.o.1.lk.cell 1;have hk:Kq (∀(o:Nat) (u:Value),(w1.setCell ⟨q,o,none⟩ u).cell? l=some ↑a/\(w1.setCell ⟨q,o,none⟩ u).cell? ⟨l,1,none⟩=some (J t)):=qh λo u=>⟨(H1.o.1.lk.far (p:=⟨q,o,none⟩) H1.o.1.lq u).cell 0,(H1.o.1.lk.far (p:=⟨q,o,none⟩) H1.o.1.lq u).cell 1⟩;have d0:=H1.o.1.sp.cell HP.o 0 _ rfl;simp only[Nat.add_zero]at d0;have d1:=H1.o.1.sp.cell HP.o 1 _ rfl;have d2:=H1.o.1.sp.cell HP.o 2 _ rfl;have f1:=H1.o.1.sp.free (n*4+1);have f2:=H1.o.1.sp.free (n*4+2))
        | (go_at_call 270;go_loud (refine LT HC.o ?_))
        | (go_at_call 269;go_loud (refine LT HC.o ?_)))
    all_goals clear h1 t1
    have HG:=qh (HJ.o _ H1.o.1)
    cases hz:(v==0)
    . have HZ:Kq (¬v=0):=qh ahR
      exact rgB
    . have HZ:Kq (v=0):=qh ahR
      exact rgB):Q:=h
def JG(h:Q:=by
    go_region_held3 (λW=>W.cell? l=some ↑a/\Z W l 1 (J t))
      (first|exact⟨c0,c1⟩|exact⟨k0,k1⟩|exact hk.o _ _)
      (first
        | (go_at_call 173;go_loud (refine HO.o.mono ?_);rintro en w1 ⟨rfl,h1,t1⟩;have H1:=qh (And.intro (HD.o.ar_ h1 t1) (aa.trans ((aa.refl _ _).drew) t1));have k0:w1.cell? l=some ↑a:=H1.o.1.lk.cell 0;have k1:Z w1 l 1 (J t):=H1.o.1.lk.cell 1;have hk:Kq (∀(o:Nat) (u:Value),(w1.setCell ⟨q,o,none⟩ u).cell? l=some ↑a/\(w1.setCell ⟨q,o,none⟩ u).cell? ⟨l,1,none⟩=some (J t)):=qh λo u=>⟨(H1.o.1.lk.far (p:=⟨q,o,none⟩) H1.o.1.lq u).cell 0,(H1.o.1.lk.far (p:=⟨q,o,none⟩) H1.o.1.lq u).cell 1⟩;have d0:=H1.o.1.sp.cell HP.o 0 _ rfl;simp only[Nat.add_zero]at d0;have d1:=H1.o.1.sp.cell HP.o 1 _ rfl;have d2:=H1.o.1.sp.cell HP.o 2 _ rfl;have f1:=H1.o.1.sp.free (n*4+1);have f2:=H1.o.1.sp.free (n*4+2))
        | (go_at_call 270;go_loud (refine LT HC.o ?_)))
    all_goals clear h1 t1
    have L3:=qh (HJ.o _ H1.o.1)
    by_cases hz:0<v
    . have HZ:=qh hz
      have MC:=L3.o.1.put1 (n:=n) (j:=2) (u:= J 0) (p:=⟨5,v,pb,pz⟩) (p':=⟨5,v,0,pz⟩) aiD ahr rfl
      have HG:=qh (And.intro MC.1 (L3.o.2.trans MC.2))
      clear MC
      rw[if_pos hz]at HE
      exact rgB
    . by_cases J2:v<0
      . have HG:=L3
        rw[if_neg hz,if_pos J2]at HE
        exact rgB
      . have HG:=L3
        rw[if_neg hz,if_neg J2]at HE
        exact rgB):Q:=h
section
variable{r:Rg}
def BA(h:cX w l a g q t r)(n:Nat)(p:Sp)(hp:r.S[n]? =some p)(x:Int)(Y:r.ar.ops+1<=1000000000000)(h1:1<=p.pc)(h6:p.pc<=6):E 266 #[↑l,pointer (some ⟨q,n*4,none⟩),J x] w (zT w l a g q t n r p (iM r.ar t x p)):=by
  have c0:w.cell? l=some ↑a:=h.lk.cell 0;have c1:Z w l 1 (J t):=h.lk.cell 1;refine aiM ?_;intro a0 a1 a2 a3;have V:p.pc=1\/p.pc=2\/p.pc=3\/p.pc=4\/p.pc=5\/p.pc=6:=by omega
  have H:=qh h;have HD:=qh h.drew;have I:=qh hp;obtain⟨pc,pa,pb,pz⟩:=p;simp only at V a0 a1 a2 a3;clear h hp h1 h6;rcases V with rfl|rfl|rfl|rfl|rfl|rfl
  all_goals have HP:=qh I.o;clear I;go_enter func266,ntmps266;go_wp2
  . have HE:Kq (iM r.ar t x ⟨1,pa,pb,pz⟩=(ae r.ar (nxA t x) 0,⟨2,pa,pb,pz⟩)):=qh aht;have HC:=qh (fJ (jL HD.o x));have HO:=qh (an HD.o.ar (nxA t x) 0 Y);refine wp_region_still_tail 7 ahs ahs ?_;exact rgS
  . have HE:Kq (iM r.ar t x ⟨2,pa,pb,pz⟩=(ae r.ar (stA t x) 0,⟨3,pa,pb,pz⟩)):=qh aht;have HC:=qh (fJ (jT HD.o x));have HO:=qh (an HD.o.ar (stA t x) 0 Y);refine wp_region_still_tail 7 ahs ahs ?_;exact rgS
  . obtain⟨v,O⟩:∃v,v=ldW r.ar.W t:=⟨_,rfl⟩;have HE:Kq (iM r.ar t x ⟨3,pa,pb,pz⟩=(ch r.ar t x,⟨if v=0 then 6 else 4,v,pb,pz⟩)):=qh (by rw[O];rfl);have HO:=qh (zx HD.o.ar t x v O Y);have HJ:=qh (λW (h:cX W l a g q t ⟨ch r.ar t x,r.S⟩)=>h.put1 HP.o (j:=1) (u:= J v) (p':=⟨3,v,pb,pz⟩) ahr rfl);clear O;exact rgL
  . have HE:Kq (iM r.ar t x ⟨4,pa,pb,pz⟩=(ae r.ar (nxA t pa) x,⟨5,pa,pb,pz⟩)):=qh aht;have HC:=qh (fJ (jL HD.o pa));have HO:=qh (an HD.o.ar (nxA t pa) x Y);refine wp_region_still_tail 11 ahs ahs ?_;exact rgS
  . obtain⟨v,O⟩:∃v,v=ldW r.ar.W (stA t x):=⟨_,rfl⟩;have HE:Kq (iM r.ar t x ⟨5,pa,pb,pz⟩=(af r.ar (stA t x),if 0<v then⟨10,v,0,pz⟩else if v<0 then⟨6,v,pb,pz⟩else⟨5,v,pb,pz⟩)):=qh (by rw[O];rfl);have HC:=qh (jT HD.o x);have HO:=qh (kp HD.o.ar (stA t x) v O Y);have HJ:=qh (λW (h:cX W l a g q t ⟨af r.ar (stA t x),r.S⟩)=>h.put1 HP.o (j:=1) (u:= J v) (p':=⟨5,v,pb,pz⟩) ahr rfl);clear O;exact JG
  . have HE:Kq (iM r.ar t x ⟨6,pa,pb,pz⟩=(ae r.ar (stA t x) 1,⟨10,1,1,pz⟩)):=qh aht;have HC:=qh (fJ (jT HD.o x));have HO:=qh (an HD.o.ar (stA t x) 1 Y);have HJ:=qh (λW (h:cX W l a g q t ⟨ae r.ar (stA t x) 1,r.S⟩)=>h.put1 HP.o (j:=1) (u:= J 1) (p':=⟨6,1,pb,pz⟩) ahr rfl);refine wp_region_still_tail 7 ahs ahs ?_;exact rgS
def En(h:cX w l a g q t r)(n:Nat)(p:Sp)(hp:r.S[n]? =some p)(x:Int)(Y:r.ar.ops+1<=1000000000000)(h1:11<=p.pc)(h6:p.pc<=16):E 267 #[↑l,pointer (some ⟨q,n*4,none⟩),J x] w (zT w l a g q t n r p (eB r.ar t x p)):=by
  have c0:w.cell? l=some ↑a:=h.lk.cell 0;have c1:Z w l 1 (J t):=h.lk.cell 1;refine aiM ?_;intro a0 a1 a2 a3;have hq:p.pc=11\/p.pc=12\/p.pc=13\/p.pc=14\/p.pc=15\/p.pc=16:=by omega
  have H:=qh h;have HD:=qh h.drew;have V:=qh hp;obtain⟨pc,pa,pb,pz⟩:=p;simp only at hq a0 a1 a2 a3;clear h hp h1 h6;rcases hq with rfl|rfl|rfl|rfl|rfl|rfl
  all_goals have HP:=qh V.o;clear V;go_enter func267,ntmps267;go_wp2
  . obtain⟨v,O⟩:∃v,v=ldW r.ar.W (nxA t x):=⟨_,rfl⟩;have HE:Kq (eB r.ar t x ⟨11,pa,pb,pz⟩=(af r.ar (nxA t x),⟨if v=0 then 12 else 14,v,pb,pz⟩)):=qh aij;have HC:=qh (jL HD.o x);have HO:=qh (kp HD.o.ar (nxA t x) v O Y);have HJ:=qh (λW (h:cX W l a g q t ⟨af r.ar (nxA t x),r.S⟩)=>h.put1 HP.o (j:=1) (u:= J v) (p':=⟨11,v,pb,pz⟩) ahr rfl);clear O;exact rgL
  . cases I:cB r.ar t x;all_goals have HE:Kq (eB r.ar t x ⟨12,pa,pb,pz⟩=(dU r.ar t x 0,⟨if cB r.ar t x then 0 else 13,pa,pb,pz⟩)):=qh rfl;rw[I]at HE;have HO:=qh (Aq HD.o.ar t x 0 _ I Y);clear I;refine wp_region_still_tail 9 ahs ahs ?_;exact rgS
  . obtain⟨v,O⟩:∃v,v=ldW r.ar.W (nxA t x):=⟨_,rfl⟩;have HE:Kq (eB r.ar t x ⟨13,pa,pb,pz⟩=(af r.ar (nxA t x),⟨if v=0 then 13 else 14,v,pb,pz⟩)):=qh aij;have HC:=qh (jL HD.o x);have HO:=qh (kp HD.o.ar (nxA t x) v O Y);have HJ:=qh (λW (h:cX W l a g q t ⟨af r.ar (nxA t x),r.S⟩)=>h.put1 HP.o (j:=1) (u:= J v) (p':=⟨13,v,pb,pz⟩) ahr rfl);clear O;exact rgL
  . have HE:Kq (eB r.ar t x ⟨14,pa,pb,pz⟩=(ae r.ar (stA t pa) pz,⟨0,pa,pb,pz⟩)):=qh aht;have HC:=qh (fJ (jT HD.o pa));have HO:=qh (an HD.o.ar (stA t pa) pz Y);refine wp_region_still_tail 14 ahs ahs ?_;exact rgS
  . obtain⟨v,O⟩:∃v,v=ldW r.ar.W (nxA t x):=⟨_,rfl⟩;have HE:Kq (eB r.ar t x ⟨15,pa,pb,pz⟩=(af r.ar (nxA t x),⟨if v=0 then 10 else 16,pa,v,pz⟩)):=qh aij;have HC:=qh (jL HD.o x);have HO:=qh (kp HD.o.ar (nxA t x) v O Y);have HJ:=qh (λW (h:cX W l a g q t ⟨af r.ar (nxA t x),r.S⟩)=>h.put1 HP.o (j:=2) (u:= J v) (p':=⟨15,pa,v,pz⟩) ahr rfl);clear O;exact rgL
  . have HE:Kq (eB r.ar t x ⟨16,pa,pb,pz⟩=(ae r.ar (stA t pb) pz,⟨0,pa,pb,pz⟩)):=qh aht;have HC:=qh (fJ (jT HD.o pb));have HO:=qh (an HD.o.ar (stA t pb) pz Y);refine wp_region_still_tail 14 ahs ahs ?_;exact rgS
end
end
section
open Go.RowKit
def Gl(p:Sp):Prop:=(0<=p.pc/\p.pc<=6)\/(10<=p.pc/\p.pc<=16)
def Jo(w:World)(l a g q:Nat)(t:Int)(x:Rg×Bool)(e:Ending)(w':World):Prop:=e= returned (.bool x.2)/\cX w' l a g q t x.1/\aa [a,g,q] w w'
def CR{r:Rg}(h:cX w l a g q t r)(i:Int)(Y:r.ar.ops+1<=1000000000000)(JU:∀p∈r.S,Gl p):E 259 #[↑l,J i] w (Jo w l a g q t (mA r t i)):=by
  have Ll:=aO;have H:=qh h;have Kw:=h.len;obtain⟨p,hp⟩:=LE (getS r.S i);have HP:=qh hp;by_cases hc:okI r.S i/\p.pc≠0/\p.pc≠10
  . obtain⟨hi,I,ht⟩:=hc;have Kv:=dJ hi;rw[<-hp]at Kv;have mP:=JU p (List.mem_of_getElem? Kv);obtain⟨h0,h9⟩:=id hi;obtain⟨n,rfl⟩:=Int.eq_ofNat_of_zero_le h0;simp only[Int.toNat_natCast]at Kv;have t0:(p.pc==0)=false:=(by simpa using I);have Rr:(p.pc==10)=false:=(by simpa using ht);have hn:n<r.S.length:=(by omega);have Pu:(n:Int)<r.S.length:=(by omega);have hx:(n:Int)+1<=33:=by omega
    have O:Kq (mA r t n=(⟨(dc r.ar t (n+1) p).1,r.S.set n (dc r.ar t (n+1) p).2⟩,decide ((dc r.ar t (n+1) p).2.pc=0\/(dc r.ar t (n+1) p).2.pc=10))):=qh (by
      unfold mA
      rw[<-HP.o,if_pos ⟨hi,I,ht⟩];rfl)
    have HG:=qh (And.intro Kv hi);have HB:Kq ((1<=p.pc/\p.pc<=6)\/(11<=p.pc/\p.pc<=16)):=qh (by unfold Gl at mP;omega);clear h hp I ht Kv h0 h9 hi JU mP;go_enter func259,ntmps259;go_wp2_with fail;refine ST (po H.o n) λw1 b1=>?_;rw[<-HP.o];unfold aC;have h1:=H.o.below b1;have H1:=qh (And.intro h1 b1);have c2:Z w1 l 2 (slice (some ⟨q,0,none⟩) r.S.length r.S.length):=h1.lk.cell 2;clear h1 b1;by_cases h10:p.pc<10
    all_goals
      go_wp2_with fail;first| refine(BA H1.o.1 n p HG.o.1 _ Y (by have:=HB.o;omega) (by have:=HB.o;omega)).mono ?_| refine(En H1.o.1 n p HG.o.1 _ Y (by have:=HB.o;omega) (by have:=HB.o;omega)).mono ?_
      rintro en w2 ⟨rfl,V,t2⟩;obtain⟨y,hy⟩:=LE (dc r.ar t (n+1) p);have Rm:=hy;unfold dc at Rm;first| rw[if_pos h10]at Rm| rw[if_neg ahp]at Rm
      rw[<-Rm]at V ⊢;rw[<-hy]at O;clear hy Rm;have Lr:(r.S.set n {y.2 with pc:=p.pc})[n]? =some {y.2 with pc:=p.pc}:=(by simp[hn]);have d0:=aaa (V.sp.cell Lr 0 _ rfl);have f0:=V.sp.free (n*4);have hq:=V.sp.lt;have h3:=V.sp.put Lr (j:=0) (u:= J y.2.pc) (p':=y.2) ahr rfl;simp only[Nat.add_zero,List.set_set]at h3;have Uv:aa [q] w2 (w2.setCell ⟨q,n*4,none⟩ (J y.2.pc)):=(aa.refl _ _).setCell (.inl ahq) _;have h4:=V.spot h3 ahq Uv;have H2:=qh (And.intro h4 (((aa.of_below H1.o.2).trans t2).trans (Uv.mono ahq)));clear V t2 Lr h3 Uv h4;cases z0:(y.2.pc==0)
      . cases z1:(y.2.pc==10);. have HD:Kq (decide (y.2.pc=0\/y.2.pc=10)=false):=qh ah4;go_wp2;go_ret;rw[O.o];exact⟨az HD.o.symm,H2.o.1,H2.o.2⟩
        . have HD:Kq (decide (y.2.pc=0\/y.2.pc=10)=true):=qh ah5;go_wp2;go_ret;rw[O.o];exact⟨az HD.o.symm,H2.o.1,H2.o.2⟩
      . have HD:Kq (decide (y.2.pc=0\/y.2.pc=10)=true):=qh ah6;go_wp2;go_ret;rw[O.o];exact⟨az HD.o.symm,H2.o.1,H2.o.2⟩
  . have O:Kq (mA r t i=(r,false)):=qh (by unfold mA;rw[<-hp,if_neg hc])
    have I:p.pc=0\/p.pc=10:=by
      by_cases hi:okI r.S i
      . by_cases h0:p.pc=0;. exact .inl h0
        . by_cases h10:p.pc=10;. exact .inr h10
          . exact absurd ⟨hi,h0,h10⟩ hc
      . rw[hp,dC hi];exact .inl rfl
    clear h hp hc JU;go_enter func259,ntmps259;go_wp2_with fail;refine ST (po H.o i) λw1 b1=>?_;refine ajm ?_;intro H1;clear b1;rcases I with I|I
    . have t0:(p.pc==0)=true:=(by rw[I];rfl);clear I;go_wp2;go_ret;rw[O.o];exact⟨rfl,H1.o.1,aa.of_below H1.o.2⟩
    . have t0:(p.pc==0)=false:=(by rw[I];rfl);have t1:(p.pc==10)=true:=(by rw[I];rfl);clear I;go_wp2;go_ret;rw[O.o];exact⟨rfl,H1.o.1,aa.of_below H1.o.2⟩
end
section
open Go.RowKit
theorem Tryz.infoSpR:(prog.info? 113).map (λi=>(i.zero,i.size,i.bytes))=some (some (agg #[J 0,J 0,J 0,J 0]),4,32):=by kernel_rfl
def ly(u:Value)(n:Nat):(madeCells #[u,u,u,u] n).toList=List.replicate n u:=by exact aav
def pd(n:Nat):(List.replicate n Sp.zero).flatMap bf=List.replicate (n*4) (J 0):=by exact aaw
def fP(s:Ar)(n:Int):Int:=if n<1\/32<n then 1 else if (s.room:Int)-s.W.length<2*n+1 then 3 else 0
def pV(w:World)(a g:Nat)(s:Ar)(n:Int)(e:Ending)(w':World):Prop:=
 if fP s n=0 then ∃l q,e= returned (tuple #[pointer (some ⟨l,0,none⟩),J 0])/\cX w' l a g q (s.W.length+1) ⟨{s with W:=s.W++List.replicate (2*n+1).toNat 0},List.replicate n.toNat Sp.zero⟩/\w.heap.size<=l/\w.heap.size<=q/\aa [a] w w'
 else e= returned (tuple #[.pointer none,J (fP s n)])/\aB w' a g s/\aa [a] w w'
def yY{s:Ar}(h:aB w a g s)(n:Int):E 141 #[↑a,J n] w (pV w a g s n):=by
  obtain⟨i0,hi,J5,J7,J2⟩:=info_parts Tryz.infoSpR;have H:=qh h;have MO:=h.le;have Ow:=h.room;clear h;by_cases O:n<1\/32<n
  . have V:Kq (fP s n=1):=qh (by unfold fP;rw[if_pos O]);by_cases h1:n<1;. clear O;go_enter func141,ntmps141;go_wp2;go_ret2;unfold pV;rw[V.o,if_neg ahr];exact⟨rfl,H.o,aa.refl _ _⟩
    . have h2:32<n:=(by omega);clear O;go_enter func141,ntmps141;go_wp2;go_ret2;unfold pV;rw[V.o,if_neg ahr];exact⟨rfl,H.o,aa.refl _ _⟩
  . obtain⟨m,rfl⟩:=Int.eq_ofNat_of_zero_le (show 0<=n by omega);have h1:¬(m:Int)<1:=(by omega);have h2:¬32<(m:Int):=(by omega);have hm:m<=32:=(by omega);by_cases Y:(s.room:Int)-s.W.length<2*m+1;. have V:Kq (fP s m=3):=qh (by unfold fP;rw[if_neg O,if_pos Y]);have HT:Kq (d7 s (2*m+1)=(s,(0:Int),(3:Int))):=qh (by unfold d7;rw[if_neg ahp,if_pos Y]);clear O Y;go_enter func141,ntmps141;go_wp2_with fail;refine(gh H.o (2*m+1)).mono ?_;rintro en w1 ⟨rfl,k1,t1⟩;rw[HT.o]at k1 ⊢;have H1:=qh (And.intro k1 t1);clear k1 t1;go_wp2;go_ret2;unfold pV;rw[V.o,if_neg ahr];exact⟨rfl,H1.o.1,H1.o.2⟩
    . have V:Kq (fP s m=0):=qh (by unfold fP;rw[if_neg O,if_neg Y]);have HT:Kq (d7 s (2*m+1)=({s with W:=s.W++List.replicate (2*(m:Int)+1).toNat 0},(s.W.length:Int)+1,(0:Int))):=qh (by unfold d7;rw[if_neg ahp,if_neg Y]);clear O Y;go_enter func141,ntmps141;go_wp2_with fail;refine(gh H.o (2*m+1)).mono ?_;rintro en w1 ⟨rfl,k1,t1⟩;rw[HT.o]at k1 ⊢;have H1:=qh (And.intro k1 t1);clear k1 t1;go_wp2_with (refine wpList_make_full _ rfl (.tmp 27) (.tmp 27) 237 rfl w1.heap.size 113 i0 (agg #[J 0,J 0,J 0,J 0]) 4 Tryz.underlying237 hi J5 J7 .i64 .i64 m m m rfl rfl rfl rfl ?b2 ?b3 (Nat.le_refl _) ?_);case b2=>rw[J2];omega
      case b3=>unfold maxLen;omega
      intro w2 r' hg;have I:dA w2 w1.heap.size (List.replicate m Sp.zero):=(by unfold dA;rw[pd];have:=gA r';have e:(madeCells #[Value.int .i64 0,J 0,J 0,J 0] (m*4)).toList=List.replicate (m*4) (J 0):=ly _ _;exact aa0);have t2:aa [] w1 w2:=aa.of_below ((Below.refl w1.heap.size w1).grown hg (Nat.le_refl _) (λj hj=>by cases hj));have JY:=I.lt;have H2:=qh (And.intro I t2);clear r' hg I t2;go_wp2;go_ret2;unfold pV;rw[V.o,if_pos rfl];have JZ:=H1.o.2.size;have Ut:=H2.o.2.size;have hk:=(H1.o.1.turns H2.o.2 ahq ahq);have ab:=hk.blk.lt;have Li:=hk.wds.lt;have R4:=H1.o.1.blk.lt;have QY:=H1.o.1.wds.lt;refine⟨w2.heap.size,w1.heap.size,rfl,⟨?_,?_,?_,?_,?_,?_,?_,?_,?_⟩,?_,?_,?_⟩;. exact hk.turns (S:=[]) ((aa.refl _ _).alloc _) ahq ahq
      . have:=Blk.new w2 319 #[↑a,J (s.W.length+1),slice (some ⟨w1.heap.size,0,none⟩) m m];simpa using this
      . simpa using H2.o.1.turns (T:=[]) ((aa.refl _ _).alloc _) ahq
      all_goals (try simp only[List.length_replicate,Int.toNat_natCast])
      all_goals first
        | omega
        | exact(((H1.o.2.trans (H2.o.2.mono ahq)).alloc _))
def qv(s:Ar)(t x:Int)(p:Sp):(dc s t x p).1.ops<=s.ops+1:=by
 unfold dc iM eB ae ch af dU wrA;split
 .repeat' split
  all_goals exact fH _ _ _ _
 .repeat' split
  all_goals exact fH _ _ _ _
end
end Go.Proofs.YtglokdbiggbkjaaGreat
