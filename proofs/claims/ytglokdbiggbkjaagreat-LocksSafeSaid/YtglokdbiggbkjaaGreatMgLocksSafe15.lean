/- Joined texts. -/
import Derived.StillTailTactics
import Derived.IntWalk
import Derived.Deep.RegionHeld3
import Derived.Test.YtglokdbiggbkjaaGreatMgLocksSafe0
import Derived.Test.YtglokdbiggbkjaaGreatMgLocksSafe1
import Derived.Test.YtglokdbiggbkjaaGreatMgLocksSafe2
import Derived.Test.YtglokdbiggbkjaaGreatMgLocksSafe4
import Derived.Test.YtglokdbiggbkjaaGreatMgLocksSafe7
import Derived.Test.YtglokdbiggbkjaaGreatMgLocksSafe8
import Derived.Test.YtglokdbiggbkjaaGreatMgLocksSafe12
import Derived.Test.YtglokdbiggbkjaaGreatMgLocksSafe14
set_option linter.unusedVariables false
set_option linter.unusedSimpArgs false
set_option maxRecDepth 100000
set_option maxHeartbeats 16000000
namespace Go.Proofs.YtglokdbiggbkjaaGreat
section
open Go
theorem qu (W X:List Int){y:Int}(hy:y<=(W.length:Int)):ldW (W++X) y=ldW W y:=by
 by_cases h:1<=y;·have h1:inR W y=true:=aO.2 ⟨h,hy⟩;have h2:inR (W++X) y=true:=aO.2 ⟨h,by rw[List.length_append];omega⟩;rw[i6 h1,i6 h2,List.getD_eq_getElem?_getD,List.getElem?_append_left QX,<-List.getD_eq_getElem?_getD]
 ·rw[kI (iD.2 QX),kI (iD.2 QX)]
theorem vI (W:List Int)(j:Nat){y:Int}(hy:(W.length:Int)<y):ldW (W++List.replicate j 0) y=0:=by
 unfold ldW;split;·rw[List.getD_eq_getElem?_getD];rename_i h;have h2:=aO.1 h;rw[List.getElem?_append_right QX,List.getElem?_replicate];split<;>rfl
 ·rfl
theorem jY (k:Nat)(s:Ar)(n m:Nat){y:Int}(hy:y<=(s.W.length:Int)):ldW (aD k s n m).W y=ldW s.W y:=by
 have e:ldW (bi s (szK k n m)).W y=ldW s.W y:=qu _ _ hy
 have key:∀x v:Int,(s.W.length:Int)<x->ldW (ac (bi s (szK k n m)) x v).W y=ldW s.W y:=λx v hx=>by
  rw[aw,<-e];unfold stW;split;·rename_i h;have:=gf h v y;unfold stW at this;rw[if_pos h]at this;rw[this,if_neg QX]
  ·rfl
 unfold aD;split;·exact key _ _ QX
 split;·exact key _ _ QX
 ·exact e
section
variable{kl par:Nat}{f:Nat->Nat}{s:Ar}
theorem fw{j k:Nat}(h:j<=k){y:Int}(hy:y<=((aH kl par f s j).W.length:Int)):ldW (aH kl par f s k).W y=ldW (aH kl par f s j).W y:=by
 induction k with
 |zero=>obtain rfl:j=0:=QX;rfl
 |succ k ih=>
  by_cases e:j=k+1;·subst e;rfl
  ·have hjk:j<=k:=(by omega);have hm:=fV kl par f s hjk;rw[<-ih hjk];show ldW (bi (aD kl (aH kl par f s k) (f k) par) 1).W y=_;have h1:ldW (bi (aD kl (aH kl par f s k) (f k) par) 1).W y=ldW (aD kl (aH kl par f s k) (f k) par).W y:=qu _ _ (by rw[a6];omega);rw[h1];exact jY _ _ _ _ QX
theorem tO{j k:Nat}(h:j<k):ldW (aH kl par f s k).W (cwN kl par f s j:Nat)=0:=by
 rw[fw (j:=j+1) (k:=k) h];·show ldW (bi (aD kl (aH kl par f s j) (f j) par) 1).W _=0;exact vI _ _ (by unfold cwN;omega)
 ·show _<=((bi (aD kl (aH kl par f s j) (f j) par) 1).W.length:Int);rw[ee];unfold cwN;omega
end
theorem pW{k n m:Nat}:szI k n (m:Int)=(szK k n m:Nat):=by
 unfold szI szK;split;·rfl
 split;·rfl
 exact IU
theorem pJ (k n i:Nat):(sv (a7 k n) i).pc=0:=iA (P:=λp=>p.pc=0) (λp hp=>(iK k n p hp).1) rfl i
theorem nH{k:Nat}(hk:1<=k/\k<=5)(s:Ar){n m:Nat}(hm:1<=m):bZ k (s.W.length+1:Nat) (m:Int) n (aD k s n m).W (a7 k n):=by
 have hz:=a6 k s n m;refine⟨gN k n,by omega,by omega,by rw[hz,pW];omega,?_⟩;have p0:=pJ k n;have hr:∀y:Int,(s.W.length:Int)<y->y<=s.W.length+szK k n m->inR (bi s (szK k n m)).W y=true:=λy h1 h2=>aO.2 ⟨by omega,by rw[ee];omega⟩;have h0:∀y:Int,(s.W.length:Int)<y->ldW (bi s (szK k n m)).W y=0:=λy hy=>vI _ _ hy;have hk':k=1\/k=2\/k=3\/k=4\/k=5:=by omega
 rcases hk' with rfl|rfl|rfl|rfl|rfl
 ·show gk _ n _ _;intro i hi hc;rw[p0]at hc;omega
 ·show dz _ n (ldW (bi s 2).W) _;refine⟨?_,λi hi hc=>by rw[p0]at hc;omega,λi hi hc=>by rw[p0]at hc;omega,λi j hi hj hn hc _=>by rw[p0]at hc;omega⟩;have e1:=h0 ((s.W.length+1:Nat)+1) QX;have e2:=h0 (s.W.length+1:Nat) QX;show ldW (bi s (szK 2 n m)).W _<=ldW (bi s (szK 2 n m)).W _;rw[e1,e2];exact Int.le_refl _
 ·show ∃v,dQ _ _ n (ldW (ac (bi s (szK 3 n m)) ((s.W.length:Int)+2) 1).W) _ v;rw[aw];have hw:=gf (hr ((s.W.length:Int)+2) QX (by show(s.W.length:Int)+2<=s.W.length+(1+m:Nat);omega)) 1;refine⟨0,Int.le_refl _,?_,λi hi hc=>by rw[p0]at hc;omega,λi hi hc=>by rw[p0]at hc;omega,λi j hi hj hn hc _=>by rw[p0]at hc;omega,λq q0 q1=>?_,?_⟩;·rw[hw,if_neg QX,h0 _ QX];exact Int.le_refl _
  ·rw[hw];split;·omega
   ·rw[h0 _ QX];omega
  ·rw[hw,if_pos (by unfold pPl;rw[Int.zero_emod];omega)];rfl
 ·have eN:∀x,fN (s.W.length+1:Nat) n (ldW (bi s (szK 4 n m)).W) x=0:=λx=>by unfold fN mNx;split<;>first|exact h0 _ QX|rfl
  have nk:∀i,¬DU (fW (s.W.length+1:Nat) n (ldW (bi s (szK 4 n m)).W)) (sv (a7 4 n)) i:=λi h=>by have h:10<=(sv (a7 4 n) i).pc\/(3<=(sv (a7 4 n) i).pc/\_):=h;rw[p0]at h;omega
  show McA n (ldW (bi s (szK 4 n m)).W _) (fN _ n (ldW (bi s (szK 4 n m)).W)) (fW _ n (ldW (bi s (szK 4 n m)).W)) _;refine⟨⟨λi j _ _ h=>absurd h (nk i),λ_ i _=>nk i⟩,by rw[h0 _ QX];omega,?_,?_,λi _ hc=>by rw[h0 _ QX]at hc;unfold numT at hc;omega,?_,λi j _ _ hc=>by rw[p0]at hc;omega,?_,λi j _ _ hc=>by rw[p0]at hc;omega,?_⟩;all_goals intro i _ hc;rw[p0]at hc;omega
 ·show ∃e,ClA n (ldW (ac (bi s (szK 5 n m)) ((s.W.length:Int)+1) ((n:Int)+1)).W _) (fC _ n (ldW (ac (bi s (szK 5 n m)) ((s.W.length:Int)+1) ((n:Int)+1)).W)) _ e;rw[aw];have hw:=gf (hr ((s.W.length:Int)+1) QX (by show(s.W.length:Int)+1<=s.W.length+(n+2:Nat);omega)) ((n:Int)+1);have ea:∀i,i<n->(sv (a7 5 n) i).a=(i:Int)+1:=λi hi=>by unfold sv a7;rw[List.getD_eq_getElem?_getD];simp[hi]
  refine⟨(n:Int)+1,by omega,λi hi=>by rw[ea i hi];omega,λi j hi hj hn=>by rw[ea i hi,ea j hj]at hn;omega,λi hi=>by rw[ea i hi];omega,?_,?_,?_,λi j _ _ hc=>by rw[p0]at hc;omega,.inl (by rw[hw,if_pos QX]),?_,?_⟩
  ·unfold fC;split;·rw[hw,if_neg QX,h0 _ QX]
   ·rfl
  all_goals intro i _ hc;rw[p0]at hc;omega
theorem bZ.grow{k n:Nat}{t m:Int}{W W':List Int}{S:List Sp}(h:bZ k t m n W S)(hl:W.length<=W'.length)(hf:∀y,t<=y->y<t+szI k n m->ldW W' y=ldW W y):bZ k t m n W' S:=
 ⟨h.len,h.m1,h.t1,by have:=h.t2;omega,h.i.congr h.m1 hf⟩
section
variable{kg kl par:Nat}{bud:Int}{P T:List Int}{s:Ar}
theorem ui (hc:a5 P T=0)(hkg:1<=kg/\kg<=5)(hkl:1<=kl/\kl<=5)(hp:1<=par/\par<=4):cp (eV kg kl par bud P T s) T.length (ab P).length (mtQ P T):=by
 have h0:=uu (bud:=bud) (s:=s) hc hkg hkl hp;obtain⟨s7,hs7⟩:∃x,x=aD kg s (ab P).length par:=⟨_,rfl⟩;have ecw:∀a,(eV kg kl par bud P T s).cw a=((cwN kl par (mtQ P T) s7 a:Nat):Int):=λa=>by rw[hs7];rfl
 have etl:∀a,(eV kg kl par bud P T s).tl a=(((aH kl par (mtQ P T) s7 a).W.length+1:Nat):Int):=λa=>by rw[hs7];rfl
 have hcw:∀a,(eV kg kl par bud P T s).cw a=(eV kg kl par bud P T s).tl a+(szK kl (mtQ P T a) par:Nat):=λa=>by rw[ecw,etl];unfold cwN;rw[a6];omega
 refine⟨h0.k,h0.inj,λi hi=>?_,λa ha=>?_,λa ha=>?_,λa ha=>?_,λa b ha hb hn=>?_⟩;·have:=eD hc hi;exact⟨this.1,this.2.2.2⟩
 ·rw[hcw];show _=_+szI kl (mtQ P T a) ((par:Nat):Int);rw[pW]
 ·show((s.W.length+1:Nat):Int)+szI kg (ab P).length ((par:Nat):Int)<=_;rw[pW,etl];have h1:=fV kl par (mtQ P T) s7 (Nat.zero_le a);have h2:(aH kl par (mtQ P T) s7 0).W.length=s.W.length+szK kg (ab P).length par:=by rw[hs7];exact a6 _ _ _ _
  omega
 ·show 0<=szI kl (mtQ P T a) ((par:Nat):Int);rw[pW];omega
 ·have key:∀a b,a<b->(eV kg kl par bud P T s).cw a<(eV kg kl par bud P T s).tl b:=λa b h=>by rw[ecw,etl];have:=jU kl par (mtQ P T) s7 h;unfold cwN;rw[a6];omega
  rcases Nat.lt_or_gt_of_ne hn with h|h
  ·exact .inl (key a b h)
  ·exact .inr (key b a h)
theorem vO (hc:a5 P T=0)(hkg:1<=kg/\kg<=5)(hkl:1<=kl/\kl<=5)(hp:1<=par/\par<=4)(hs:WdB 40 s):CoM (eV kg kl par bud P T s) T.length (ab P).length (mtQ P T) (bz kg kl par P T s):=by
 have hok:=nY (kg:=kg) (kl:=kl) (par:=par) (bud:=bud) hc hs;have y:=ui (bud:=bud) (s:=s) hc hkg hkl hp;obtain⟨s7,hs7⟩:∃x,x=aD kg s (ab P).length par:=⟨_,rfl⟩;have eW:(bz kg kl par P T s).s=aH kl par (mtQ P T) s7 (ab P).length:=by rw[hs7];rfl
 have hlen0:(aH kl par (mtQ P T) s7 0).W.length=s.W.length+szK kg (ab P).length par:=by rw[hs7];exact a6 _ _ _ _
 have hget:∀n,n<(ab P).length->(bz kg kl par P T s).L.getD n []=a7 kl (mtQ P T n):=λn hn=>by rw[List.getD_eq_getElem?_getD];simp[bz,ic,hn]
 have hT0:∀j,(sv (bz kg kl par P T s).T j).pc=0:=λj=>by show(sv (List.replicate T.length Sp.zero) j).pc=0;exact Jn
 have hnb:∀j,¬cG (sv (bz kg kl par P T s).T j):=λj hb=>by unfold cG at hb;rw[hT0]at hb;omega
 refine⟨?_,λa ha=>?_,by simp[bz,ic],λa ha=>?_,hok.v,λj hj=>jE (hnb j),λa ha _=>?_⟩
 ·have h1:=nH hkg s (n:=(ab P).length) hp.1;rw[eW];refine h1.grow ?_ (λx h2 h3=>?_);·have:=fV kl par (mtQ P T) s7 (Nat.zero_le (ab P).length);rw[a6];omega
  ·rw[pW]at h3;rw[fw (Nat.zero_le _) (by rw[hlen0];omega),hs7];rfl
 ·rw[hget a ha,eW];have h1:=nH hkl (aH kl par (mtQ P T) s7 a) (n:=mtQ P T a) hp.1;have et:(eV kg kl par bud P T s).tl a=(((aH kl par (mtQ P T) s7 a).W.length+1:Nat):Int):=by rw[hs7];rfl
  rw[et];refine h1.grow ?_ (λx h2 h3=>?_);·have:=jU kl par (mtQ P T) s7 ha;rw[a6];omega
  ·rw[pW]at h3;have e1:((aH kl par (mtQ P T) s7 (a+1)).W.length:Int)=(aH kl par (mtQ P T) s7 a).W.length+szK kl (mtQ P T a) par+1:=(by show((bi (aD _ _ _ _) 1).W.length:Int)=_;rw[ee,a6];omega);rw[fw (j:=a+1) ha QX];show ldW (bi (aD kl (aH kl par (mtQ P T) s7 a) (mtQ P T a) par) 1).W x=_;exact qu _ _ (by rw[a6];omega)
 ·have ec:(eV kg kl par bud P T s).cw a=((cwN kl par (mtQ P T) s7 a:Nat):Int):=by rw[hs7];rfl
  rw[ec,eW];have:=jU kl par (mtQ P T) s7 ha;unfold cwN;rw[a6];omega
 ·have ec:(eV kg kl par bud P T s).cw a=((cwN kl par (mtQ P T) s7 a:Nat):Int):=by rw[hs7];rfl
  rw[ec,eW,tO ha];show FrP (sv (a7 kg (ab P).length) a) 0;unfold FrP;rw[pJ];rfl
end
end
section
open Go Go.RowKit
def flV (l:Nat):Value:= .iface 181 (.agg #[.iface 193 ↑l])
def bdF (N:Nat):Int:=40+2*(N:Int)
structure ib (k n m:Nat)(st:Ar×List Sp)(N:Nat):Prop where
 i:bZ k 1 m n st.1.W st.2
 w:WdB (bdF N) st.1
 p:∀p∈st.2,SpB k (bdF N) p/\pcK k p
 o:st.1.ops<=N+1
def flS (k m:Nat)(st:Ar×List Sp)(i:Nat):Ar×List Sp:=((bG k 1 m st.1 i (sv st.2 i)).1,st.2.set i (bG k 1 m st.1 i (sv st.2 i)).2)
structure FlB where
 x:Fx
 hi:Nat
 a:Nat
 g:Nat
def EG (k n m:Nat):LkM n where
 σ:=Ar×List Sp
 β:=FlB
 ok:=λst N=>ib k n m st N
 ar:=λst=>st.1
 sp:=λst i=>sv st.2 i
 cn:=λst i=>if (sv st.2 i).pc=10 then 1 else 0
 rd:=false
 step:=flS k m
 ask:=λst i r=>if r then st else(st.1,st.2.set i (askK k (sv st.2 i)))
 leave:=λst i=>(st.1,st.2.set i (be (sv st.2 i)))
 hi:=λb=>b.hi
 fp:=λb=>[b.a,b.g,b.x.q]
 is:=λb w a g lb st=>di w a g k b.x st.1 st.2/\(b.a=a/\b.g=g/\b.x.n=n/\b.x.m=m/\b.x.t=1)/\jk w lb n k (flV b.x.p) [b.a,b.g,b.x.q] b.hi/\b.x.p<b.hi/\b.x.l<b.hi
section
variable{k n m N:Nat}{st:Ar×List Sp}
theorem ib.at (h:ib k n m st N){i:Nat}(hi:i<n):SpB k (bdF N) (sv st.2 i)/\pcK k (sv st.2 i):=by
 have hl:i<st.2.length:=by rw[h.i.len];exact hi
 exact h.p _ (List.mem_of_getElem? (pV hl))
theorem ib.mono (h:ib k n m st N):ib k n m st (N+1):=⟨h.i,h.w.mono Rn,λp hp=>⟨(h.p p hp).1.mono Rn,(h.p p hp).2⟩,by have:=h.o;omega⟩
theorem ib.set{s':Ar}{S':List Sp}(h:ib k n m st N){i:Nat}{q:Sp}(hi:bZ k 1 m n s'.W S')(hS:S'=st.2.set i q)(hw:WdB (bdF N+2) s')(hq:SpB k (bdF N+2) q/\pcK k q)(ho:s'.ops<=N+2):ib k n m (s',S') (N+1):=by
 have e:bdF (N+1)=bdF N+2:=by unfold bdF;omega
 refine⟨hi,by rw[e];exact hw,λp hp=>?_,ho⟩;rw[e];rw[hS]at hp;rcases List.mem_or_eq_of_mem_set hp with h1|rfl
 ·exact⟨(h.p p h1).1.mono QX,(h.p p h1).2⟩
 ·exact hq
theorem ib.pre (h:ib k n m st N)(hN:N<lkB)(hk:1<=k/\k<=5){x:Fx}(hx:x.n=n/\x.m=m/\x.t=1):kC k x st.1 st.2 (bdF N):=
 ⟨by have:=h.o;unfold lkB at hN;omega,h.w,λp hp=>(h.p p hp).1,by unfold bdF;omega,by unfold bdF;unfold lkB at hN;omega,aO.2 (by
  have h2:=h.i.t2
  have hm:=h.i.m1
  have hz:(1:Int)<=szI k n m:=by unfold szI;(repeat' split)<;>omega
  rw[hx.2.2];omega)⟩
end
theorem xL{k n m:Nat}(hk:1<=k/\k<=5)(hn:1<=n/\n<=32)(hm:1<=m/\m<=4):(EG k n m).Good where
 n32:=hn
 okS:=fun(st:Ar×List Sp) N i h hN hi=>by
  show ib k n m (flS k m st i) (N+1)
  replace h:ib k n m st N:=h
  obtain⟨hp,hc⟩:=h.at hi
  have hb:bdF N<=10000000000000:=by unfold bdF;unfold lkB at hN;omega
  have hst:=p5 (t:=1) (m:=m) (i:=(i:Int)) h.w hp Rn hb Rn Rn
  exact h.set (h.i.step hk h.w Rn hb hi hc).1 rfl hst.1 ⟨hst.2,(jG hk hc).1⟩ (Nat.le_trans (cJ k 1 m st.1 i _).1 (by have:=h.o;omega))
 okA:=fun(st:Ar×List Sp) N i r h _ hi=>by
  replace h:ib k n m st N:=h
  cases r
  ·obtain⟨hp,hc⟩:=h.at hi
   exact h.set (h.i.ask hk hi) rfl (h.w.mono QX) ⟨(tC hp Rn).mono QX,mU hc⟩ (by have:=h.o;omega)
  ·exact h.mono
 okL:=fun(st:Ar×List Sp) N i h _ hi=>by
  replace h:ib k n m st N:=h
  obtain⟨hp,hc⟩:=h.at hi
  exact h.set (h.i.leave hk hi) rfl (h.w.mono QX) ⟨(mV hp).mono QX,i9 hc⟩ (by have:=h.o;omega)
 okm:=fun(st:Ar×List Sp) N (h:ib k n m st N)=>h.mono
 one:=fun(st:Ar×List Sp) N i j (h:ib k n m st N) hi hj h1 h2 _=>h.i.one hk hi hj h1 h2
 pcs:=fun(st:Ar×List Sp) N i (h:ib k n m st N) hi=>by
  have:=(h.at hi).2
  show 0<=(sv st.2 i).pc
  unfold pcK iG at this
  (repeat' split at this)<;>omega
 cnt:=fun(st:Ar×List Sp) N i h hi=>by
  show(sv st.2 i).pc=10↔0<(if (sv st.2 i).pc=10 then(1:Int)else 0)
  split<;>simp[*]
 opsS:=fun(st:Ar×List Sp) N i _ _ _=>(cJ k 1 m st.1 i _).1
 arA:=fun(st:Ar×List Sp) i r=>by cases r<;>rfl
 arL:=fun(st:Ar×List Sp) i=>rfl
 ais:=fun(b:FlB) w a g lb (st:Ar×List Sp) h=>h.1.ki.ar
 lk:=fun(b:FlB) w a g lb (st:Ar×List Sp) h=>h.2.2.1.c1
 kd:=fun(b:FlB) w a g lb (st:Ar×List Sp) h=>⟨k,h.2.2.1.blk.cell 0,(decide_eq_false QX).symm⟩
 fpa:=fun(b:FlB) w a g lb (st:Ar×List Sp) h=>⟨h.2.2.1.fl,h.2.2.1.hw⟩
 far:=fun(b:FlB) w a g lb (st:Ar×List Sp) w' S h t hS=>by
  obtain⟨k1,⟨rfl,rfl,hc⟩,hd,hp,hl⟩:=h
  have h9:∀x∈S,b.hi<=x:=hS
  have ha:=hd.fl b.a QY
  have hg:=hd.fl b.g QY
  have hq:=hd.fl b.x.q QY
  exact⟨k1.turns t (λm=>by have:=h9 _ m;omega) (λm=>by have:=h9 _ m;omega) (λm=>by have:=h9 _ m;omega) (λm=>by have:=h9 _ m;omega) (λm=>by have:=h9 _ m;omega),⟨rfl,rfl,hc⟩,hd.far t h9,hp,hl⟩
 cS:=fun(b:FlB) w a g lb (st:Ar×List Sp) N i h hk' hN hi=>by
  obtain⟨k1,⟨rfl,rfl,hc⟩,hd,hp,hl⟩:=h
  replace hk':ib k n m st N:=hk'
  have hl2:i<st.2.length:=by rw[hk'.i.len];exact hi
  refine(nA .fl hd.c1 hd.c2 hi (R:=λr w'=>r=dA (sv st.2 i) (sv (flS k m st i).2 i)/\di w' b.a b.g k b.x (flS k m st i).1 (flS k m st i).2/\aa [b.a,b.g,b.x.q] w w') λW bw=>?_).mono ?_
  ·have hx:=qi (k1.below bw) (KOk.of hk) i _ (pV hl2) (hk'.pre hN hk hc) (hk'.at hi).2
   unfold yL at hx
   rw[hc.2.2,hc.2.1]at hx
   refine hx.mono ?_
   rintro e w' ⟨rfl,k2,t2⟩
   refine⟨_,rfl,?_,k2,(aa.of_below bw).trans t2⟩
   rw[show(flS k m st i).2=st.2.set i (bG k 1 m st.1 i (sv st.2 i)).2 from rfl,fR hl2,if_pos rfl]
   rfl
  ·exact Jo
 cA:=fun(b:FlB) w a g lb (st:Ar×List Sp) N i r h hk' hN hi=>by
  obtain⟨k1,⟨rfl,rfl,hc⟩,hd,hp,hl⟩:=h
  replace hk':ib k n m st N:=hk'
  have hl2:i<st.2.length:=by rw[hk'.i.len];exact hi
  have tq:∀{w w':World},aa [b.x.q] w w'->aa [b.a,b.g,b.x.q] w w':=λt=>t.mono QY
  refine(xu .fl hd.c1 hd.c2 hi r (R:=λq w'=>q=decide ((sv st.2 i).pc=0/\(r=true->(false:Bool)=true))/\di w' b.a b.g k b.x (if r then st else(st.1,st.2.set i (askK k (sv st.2 i)))).1 (if r then st else(st.1,st.2.set i (askK k (sv st.2 i)))).2/\aa [b.a,b.g,b.x.q] w w') (λhr W bw=>?_) (λhr W bw=>?_)).mono ?_
  ·subst hr
   refine(tW (k1.below bw) (KOk.of hk) i _ (pV hl2)).mono ?_
   rintro e w' ⟨rfl,k2,t2⟩
   exact⟨_,rfl,by simp,k2,(aa.of_below bw).trans (tq t2)⟩
  ·subst hr
   exact⟨by simp,k1.below bw,aa.of_below bw⟩
  ·exact Jo
 cL:=fun(b:FlB) w a g lb (st:Ar×List Sp) N i h hk' hN hi=>by
  obtain⟨k1,⟨rfl,rfl,hc⟩,hd,hp,hl⟩:=h
  replace hk':ib k n m st N:=hk'
  have hl2:i<st.2.length:=by rw[hk'.i.len];exact hi
  have tq:∀{w w':World},aa [b.x.q] w w'->aa [b.a,b.g,b.x.q] w w':=λt=>t.mono QY
  refine(kv .fl hd.c1 hd.c2 hi (R:=λq w'=>q=decide ((sv st.2 i).pc=10)/\di w' b.a b.g k b.x st.1 (st.2.set i (be (sv st.2 i)))/\aa [b.a,b.g,b.x.q] w w') λW bw=>?_).mono ?_
  ·refine(nJ (k1.below bw) (KOk.of hk) i _ (pV hl2)).mono ?_
   rintro e w' ⟨rfl,k2,t2⟩
   exact⟨_,rfl,rfl,k2,(aa.of_below bw).trans (tq t2)⟩
  ·exact Jo
 cP:=fun(b:FlB) w a g lb (st:Ar×List Sp) i h hi=>nz .fl h.2.2.1.c1 h.2.2.1.c2 hi _ λW bw=>vC (h.1.below bw) (KOk.of hk) i _ (pV (by rw[h.1.ki.n,h.2.1.2.2.1];exact hi))
 cC:=fun(b:FlB) w a g lb (st:Ar×List Sp) i h hi=>ny .fl h.2.2.1.c1 h.2.2.1.c2 hi _ λW bw=>vC (h.1.below bw) (KOk.of hk) i _ (pV (by rw[h.1.ki.n,h.2.1.2.2.1];exact hi))
end
section
open Go
structure StA (n:Nat)(node:Nat->Nat)(p p':Sp)(i:Nat)(Q Q':List Nat):Prop where
 row:p.pc=1->p'.pc=5->∃(t:Nat) (d:Int),t<n/\node t=node i/\0<=d/\p'.a=tokH t d
 stay:p.pc≠4->p.pc≠11->Q'=Q
 splice:p.pc=4->(∃r,Q'=Q++i :: r)/\(p'.pc=10->Q=[])
 gone:p.pc=11->Q.head? =some i/\Q'=Q.tail
 enter:p'.pc=10->p.pc≠10->p.pc=4\/(p.pc=5/\Q.head? =some i)
 next:p'.pc=p.pc\/(p.pc=1/\(p'.pc=2\/p'.pc=3\/p'.pc=5))\/(p.pc=2/\p'.pc=3)\/(p.pc=3/\p'.pc=4)\/(p.pc=4/\(p'.pc=5\/p'.pc=10))\/(p.pc=5/\p'.pc=10)\/(p.pc=11/\p'.pc=0)\/(p.pc=0/\p'.pc=1)\/(p.pc=10/\p'.pc=11)
def Fm (n:Nat)(node:Nat->Nat)(S S':List Sp)(I:Int)(Q Q':List Nat):Prop:=
 (S'=S/\Q'=Q)\/∃(j:Nat) (p':Sp),j<n/\I=j/\S'=S.set j p'/\StA n node (sv S j) p' j Q Q'
def yQ (nd n:Nat)(dl:Int)(node:Nat->Nat)(h:Hc)(k i:Int):Hc×Bool:=
 if k=0 then fo nd n dl node h i else if k=1 then bj h i 0 1 else if k=2 then bj h i 10 11 else(h,false)
section
variable{nd n N i:Nat}{dl:Int}{node:Nat->Nat}{h:Hc}{G:Nat->List Nat}
theorem eX{S:List Sp}{j:Nat}(h:j<S.length):getS S (j:Int)=sv S j:=by unfold getS;rw[if_pos QX];rfl
theorem HOk.le (k:HOk nd n dl node h N G){M:Nat}(hM:N<=M):HOk nd n dl node h M G:=⟨k.iv,by have:=k.ops;omega,λt=>by have:=k.dn t;omega,k.bb⟩
theorem HOk.stepI (k:HOk nd n dl node h N G)(hN:N<1000000)(I:Int):∃G',HOk nd n dl node (fo nd n dl node h I).1 (N+1) G'/\(((fo nd n dl node h I).1=h/\G'=G/\¬(okI h.S I/\hJ (getS h.S I)=true))\/∃(j:Nat) (p':Sp),j<n/\I=j/\(fo nd n dl node h I).1.S=h.S.set j p'/\StH n node (sv h.S j) p' j (G 0) (G' 0))/\(fo nd n dl node h I).1.ar.ops<=h.ar.ops+1:=by
 unfold fo;by_cases c:okI h.S I/\hJ (getS h.S I)=true
 ·rw[if_pos c];obtain⟨⟨h0,h1⟩,hg⟩:=c;obtain⟨j,rfl⟩:=Int.eq_ofNat_of_zero_le h0;have hj:j<h.S.length:=by omega
  have hjn:j<n:=by rw[<-k.iv.sl];exact hj
  rw[eX hj]at hg ⊢;simp only[Int.toNat_natCast];obtain⟨G',k',s'⟩:=k.step hN hjn hg _ rfl;refine⟨G',k',.inr ⟨j,_,hjn,rfl,rfl,s'⟩,?_⟩;unfold bm;repeat' split
  all_goals first
   |exact eP _ _ _
   |exact qq _ _ _ _
   |exact jl _ _ _
   |exact Nat.le_succ _
 ·rw[if_neg c];exact⟨G,k.le QX,.inl ⟨rfl,rfl,c⟩,Nat.le_succ _⟩
theorem HOk.beginI (k:HOk nd n dl node h N G)(I f u:Int)(hfu:(f=0/\u=1)\/(f=10/\u=11)):HOk nd n dl node (bj h I f u).1 N G/\(((bj h I f u).1=h/\¬(okI h.S I/\(getS h.S I).pc=f))\/∃(j:Nat),j<n/\I=j/\(sv h.S j).pc=f/\(bj h I f u).1.S=h.S.set j {sv h.S j with pc:=u})/\(bj h I f u).1.ar=h.ar:=by
 unfold bj;by_cases c:okI h.S I/\(getS h.S I).pc=f
 ·rw[if_pos c];obtain⟨⟨h0,h1⟩,hg⟩:=c;obtain⟨j,rfl⟩:=Int.eq_ofNat_of_zero_le h0;have hj:j<h.S.length:=by omega
  have hjn:j<n:=by rw[<-k.iv.sl];exact hj
  rw[eX hj]at hg ⊢;simp only[Int.toNat_natCast];refine⟨⟨?_,k.ops,k.dn,k.bset hjn (by show u=2->_;omega)⟩,.inr ⟨j,hjn,rfl,hg,rfl⟩,by trivial⟩;rcases hfu with⟨rfl,rfl⟩|⟨rfl,rfl⟩
  ·exact k.iv.ask hjn hg rfl
  ·exact k.iv.atFrontP hjn (k.iv.atFront hjn (.inl hg)) (.inr rfl)
 ·rw[if_neg c];exact⟨k,.inl ⟨rfl,c⟩,rfl⟩
theorem HOk.act (k:HOk nd n dl node h N G)(hN:N<1000000)(K I:Int):∃G',HOk nd n dl node (yQ nd n dl node h K I).1 (N+1) G'/\Fm n node h.S (yQ nd n dl node h K I).1.S I (G 0) (G' 0)/\(yQ nd n dl node h K I).1.ar.ops<=h.ar.ops+1/\(K≠0->(yQ nd n dl node h K I).1.ar.ops=h.ar.ops):=by
 unfold yQ;by_cases c0:K=0
 ·rw[if_pos c0];obtain⟨G',k',hs,ho⟩:=k.stepI hN I;refine⟨G',k',?_,ho,λh=>absurd c0 h⟩;rcases hs with⟨h1,h2,_⟩|⟨j,p',h1,h2,h3,s⟩
  ·exact .inl ⟨by rw[h1],by rw[h2]⟩
  ·refine .inr ⟨j,p',h1,h2,h3,s.row,s.stay,s.splice,s.gone,s.enter,?_⟩;rcases s.next with h|h|h|h|h|h|h
   ·exact .inl h
   ·exact .inr (.inl h)
   ·exact .inr (.inr (.inl h))
   ·exact .inr (.inr (.inr (.inl h)))
   ·exact .inr (.inr (.inr (.inr (.inl h))))
   ·exact .inr (.inr (.inr (.inr (.inr (.inl h)))))
   ·exact .inr (.inr (.inr (.inr (.inr (.inr (.inl h))))))
 ·rw[if_neg c0]
  have fin:∀f u:Int,(f=0/\u=1)\/(f=10/\u=11)->∃G',HOk nd n dl node (bj h I f u).1 (N+1) G'/\Fm n node h.S (bj h I f u).1.S I (G 0) (G' 0)/\(bj h I f u).1.ar.ops<=h.ar.ops+1/\(K≠0->(bj h I f u).1.ar.ops=h.ar.ops):=λf u hfu=>by
   obtain⟨k',hs,ha⟩:=k.beginI I f u hfu;refine⟨G,k'.le QX,?_,by rw[ha];exact Nat.le_succ _,λ_=>by rw[ha]⟩;rcases hs with⟨h1,_⟩|⟨j,h1,h2,h3,h4⟩
   ·exact .inl ⟨by rw[h1],rfl⟩
   ·refine .inr ⟨j,_,h1,h2,h4,⟨λh=>?_,λ_ _=>rfl,λh=>?_,λh=>?_,λh=>?_,?_⟩⟩;·omega
    ·omega
    ·omega
    ·intro _;exfalso;have:u=10:=h;omega
    ·rcases hfu with⟨rfl,rfl⟩|⟨rfl,rfl⟩
     ·exact .inr (.inr (.inr (.inr (.inr (.inr (.inr (.inl ⟨h3,rfl⟩)))))))
     ·exact .inr (.inr (.inr (.inr (.inr (.inr (.inr (.inr ⟨h3,rfl⟩)))))))
  by_cases c1:K=1;·rw[if_pos c1];exact fin 0 1 (.inl ⟨rfl,rfl⟩)
  ·rw[if_neg c1];by_cases c2:K=2;·rw[if_pos c2];exact fin 10 11 (.inr ⟨rfl,rfl⟩)
   ·rw[if_neg c2];exact⟨G,k.le QX,.inl ⟨rfl,rfl⟩,Nat.le_succ _,λ_=>rfl⟩
theorem HOk.hold1 (k:HOk nd n dl node h N G){a b:Nat}(ha:a<n)(hb:b<n)(h1:(sv h.S a).pc=10)(h2:(sv h.S b).pc=10):a=b:=by have e1:=k.iv.atFront ha (.inl h1);have e2:=k.iv.atFront hb (.inl h2);rw[e1]at e2;injection e2
end
section
variable{Q r:List Nat}{k u x:Nat}
end
section
variable{nd n N:Nat}{dl:Int}{node:Nat->Nat}{h h':Hc}{G G':Nat->List Nat}{P:Nat->Nat->Int}
end
end
section
open Go
def wgt (p:Sp):Nat:=if p.pc=1 then 9 else if p.pc=2 then 5+p.b.toNat else if p.pc=3 then 5 else if p.pc=4 then 4 else if p.pc=5 then 3 else if p.pc=10 then 2 else if p.pc=11 then 1 else 0
def j6 (f:Sp->Nat)(S:List Sp):Nat:=(S.map f).sum
section
variable{f:Sp->Nat}{S:List Sp}{i:Nat}{p':Sp}
theorem td (hi:i<S.length):j6 f (S.set i p')+f (sv S i)=j6 f S+f p':=by
 induction S generalizing i with
 |nil=>simp at hi
 |cons a S ih=>
  cases i with
  |zero=>simp[j6,sv];omega
  |succ i=>have:=ih (i:=i) Rr;have e:sv (a :: S) (i+1)=sv S i:=rfl;rw[e];simp only[j6,List.set_cons_succ,List.map_cons,List.sum_cons]at this ⊢;omega
theorem BN (hi:i<S.length):f (sv S i)<=j6 f S:=by
 induction S generalizing i with
 |nil=>simp at hi
 |cons a S ih=>
  cases i with
  |zero=>simp[j6,sv]
  |succ i=>have:=ih (i:=i) Rr;have e:sv (a :: S) (i+1)=sv S i:=rfl;rw[e];simp only[j6,List.map_cons,List.sum_cons]at this ⊢;omega
end
def Mov (S:List Sp)(Q:List Nat)(u:Nat):Prop:=(sv S u).pc=1\/(sv S u).pc=2\/(sv S u).pc=3\/(sv S u).pc=4\/(sv S u).pc=10\/(sv S u).pc=11\/((sv S u).pc=5/\Q.head? =some u)
section
variable{nd n N i:Nat}{dl:Int}{node:Nat->Nat}{h:Hc}{G:Nat->List Nat}
theorem HOk.wz (k:HOk nd n dl node h N G)(hi:i<n)(hz:wgt (sv h.S i)=0):(sv h.S i).pc=0:=by
 unfold wgt at hz;have:=k.pcs hi;repeat' split at hz
 all_goals omega
theorem HOk.turn (k:HOk nd n dl node h N G) (hN:N<1000000) (hd:dl<=3) (hi:i<n) (h1 h2:Hc) (e1:h1=(fo nd n dl node h i).1) (e2:h2=(bj h1 i 10 11).1):
    ∃G',HOk nd n dl node h2 (N+1) G'/\j6 wgt h2.S<=j6 wgt h.S/\(Mov h.S (G 0) i->j6 wgt h2.S<j6 wgt h.S)/\(∀u,u<n->u≠i->Mov h.S (G 0) u->Mov h2.S (G' 0) u):=by
  obtain⟨G',k1,hs,_⟩:=k.stepI hN i;rw[<-e1]at k1 hs;obtain⟨k2,hb,_⟩:=k1.beginI i 10 11 (.inr ⟨rfl,rfl⟩);rw[<-e2]at k2 hb;have hl:i<h.S.length:=by rw[k.iv.sl];exact hi
  have hl1:i<h1.S.length:=by rw[k1.iv.sl];exact hi
  have w2:j6 wgt h2.S<=j6 wgt h1.S/\((sv h1.S i).pc=10->j6 wgt h2.S<j6 wgt h1.S)/\(∀u,u≠i->sv h2.S u=sv h1.S u):=by
    rcases hb with⟨rfl,hb⟩|⟨j,hj,hij,h3,h4⟩
    · refine⟨Nat.le_refl _,λh3=>absurd ?_ hb,λ_ _=>rfl⟩;refine⟨⟨by omega,by omega⟩,?_⟩;rw[eX hl1];exact h3
    · obtain rfl:i=j:=by omega
      have:=td (f:=wgt) (p':={sv h1.S i with pc:=11}) hl1;have f1:wgt (sv h1.S i)=2:=(by unfold wgt;simp[h3]);have f2:wgt ({sv h1.S i with pc:=11}:Sp)=1:=rfl;rw[h4];refine⟨by omega,λ_=>by omega,λu hu=>bS hu⟩
  rcases hs with⟨rfl,rfl,hg⟩|⟨j,p',hj,hij,hS,s⟩
  · refine⟨G',k2,w2.1,λhm=>?_,λu _ hu hm=>?_⟩;· refine w2.2.1 ?_;have hg':¬hJ (sv h1.S i)=true:=λh3=>hg ⟨⟨by omega,by omega⟩,by rw[eX hl];exact h3⟩;rw[nL]at hg';unfold Mov at hm;omega
    · unfold Mov;rw[w2.2.2 u hu];exact hm
  · obtain rfl:i=j:=by omega
    have hii:sv h1.S i=p':=by rw[hS];exact oJ hl
    have hwle:wgt p'<=wgt (sv h.S i)/\(Mov h.S (G 0) i->wgt p'<wgt (sv h.S i)):=by
      have hb1:=k1.bb i hi;rw[hii]at hb1;by_cases h5:(sv h.S i).pc=5
      · have f1:wgt (sv h.S i)=3:=(by unfold wgt;simp[h5]);rw[f1];have hp:p'.pc=5\/p'.pc=10:=(by have:=s.next;omega);rcases hp with hp|hp
        · have f2:wgt p'=3:=(by unfold wgt;simp[hp]);refine⟨by omega,λhm=>?_⟩
          have hh:(G 0).head? =some i:=by
            rcases hm with h3|h3|h3|h3|h3|h3|h3
            · omega
            · omega
            · omega
            · omega
            · omega
            · omega
            · exact h3.2
          have:=s.look h5 hh;omega
        · have f2:wgt p'=2:=(by unfold wgt;simp[hp]);exact⟨by omega,λ_=>by omega⟩
      · have hlt:wgt p'<wgt (sv h.S i):=by
          rcases s.next with h3|h3|h3|h3|h3|h3|h3
          · obtain⟨h4,h6,h7⟩:=s.less h5 h3;have f1:wgt p'=5+p'.b.toNat:=(by unfold wgt;simp[h4]);have f2:wgt (sv h.S i)=5+(sv h.S i).b.toNat:=(by unfold wgt;rw[if_neg QX,if_pos QX]);omega
          · have f1:wgt (sv h.S i)=9:=(by unfold wgt;simp[h3.1]);rw[f1];unfold wgt;repeat' split
            all_goals omega
          · have f1:wgt p'=5:=(by unfold wgt;simp[h3.2]);have f2:wgt (sv h.S i)=5+(sv h.S i).b.toNat:=(by unfold wgt;simp[h3.1]);have:=k.iv.mast i (fB (k.iv.at234 hi (.inl h3.1)));omega
          · have f1:wgt p'=4:=(by unfold wgt;simp[h3.2]);have f2:wgt (sv h.S i)=5:=(by unfold wgt;simp[h3.1]);omega
          · have f2:wgt (sv h.S i)=4:=(by unfold wgt;simp[h3.1]);rcases h3.2 with h4|h4
            · have f1:wgt p'=3:=(by unfold wgt;simp[h4]);omega
            · have f1:wgt p'=2:=(by unfold wgt;simp[h4]);omega
          · omega
          · have f1:wgt p'=0:=(by unfold wgt;simp[h3.2]);have f2:wgt (sv h.S i)=1:=(by unfold wgt;simp[h3.1]);omega
        exact⟨by omega,λ_=>hlt⟩
    have hw:=td (f:=wgt) (p':=p') hl;rw[<-hS]at hw;refine⟨G',k2,by omega,λhm=>by have:=hwle.2 hm;omega,λu hun hu hm=>?_⟩;have hu1:sv h1.S u=sv h.S u:=(by rw[hS];exact bS hu);unfold Mov;rw[w2.2.2 u hu,hu1];have hm':=hm;rcases hm with h3|h3|h3|h3|h3|h3|⟨h3,h4⟩
    · exact .inl h3
    · exact .inr (.inl h3)
    · exact .inr (.inr (.inl h3))
    · exact .inr (.inr (.inr (.inl h3)))
    · exact .inr (.inr (.inr (.inr (.inl h3))))
    · exact .inr (.inr (.inr (.inr (.inr (.inl h3)))))
    · refine .inr (.inr (.inr (.inr (.inr (.inr ⟨h3,?_⟩)))));by_cases c4:(sv h.S i).pc=4
      · obtain⟨⟨r,hr⟩,_⟩:=s.splice c4;rw[hr];cases hg:G 0 with
        | nil=>rw[hg]at h4;simp at h4
        | cons a l=>rw[hg]at h4;simpa using h4
      · by_cases c11:(sv h.S i).pc=11;· have:=(s.gone c11).1;rw[h4]at this;injection this with this;exact absurd this hu
        · rw[s.stay c4 c11];exact h4
theorem HOk.rest (k:HOk nd n dl node h N G)(hz:j6 wgt h.S=0)(hi:i<n):(sv h.S i).pc=0:=by refine k.wz hi ?_;have:=BN (f:=wgt) (S:=h.S) (i:=i) (by rw[k.iv.sl];exact hi);omega
end
end
section
open Go
theorem iB{α:Type}(a:α)(n i:Nat):(List.replicate n a).getD i a=a:=by exact Jp
theorem qY (n i:Nat):sv (List.replicate n Sp.zero) i=Sp.zero:=iB _ _ _
section
variable{nd n N:Nat}{dl:Int}{node:Nat->Nat}{h:Hc}{G:Nat->List Nat}
theorem HOk.start (s:Ar) (hn:n<=32) (hnn:∀t,t<n->node t<nd) (hs:s.ops=0) (hW:s.W=List.replicate (1+nd+n) 0):
    HOk nd n dl node ⟨s,List.replicate 32 0,List.replicate n Sp.zero⟩ 0 λ_=>[]:=by
  have z:∀t,(sv (List.replicate n Sp.zero) t).pc=0:=λt=>by rw[qY];rfl
  have d:∀t,dv (List.replicate 32 0) t=0:=λt=>iB _ _ _;refine⟨⟨?_,?_,?_,hn,hnn,?_,?_,?_,?_,?_,?_,?_,?_,?_,?_,?_,?_,?_,?_⟩,by show s.ops<=0;omega,λt=>by rw[d];exact Int.le_refl _,λt _ h2=>?_⟩;· rw[hW];simp
  · simp
  · simpa using hn
  · intro t _;show tnw nd s.W t=_;rw[hW,d];exact iB _ _ _
  · intro t;show 0<=dv (List.replicate 32 0) t;rw[d];exact Int.le_refl _
  · intro _;exact List.nodup_nil
  · intro _ _ t h1;cases h1
  · intro _ t h1;cases h1
  · intro _;trivial
  · intro t _ _;exact .inl (z t)
  · intro m hm;exact absurd rfl hm
  · intro _ t h1;cases h1
  · intro m hm;exact absurd rfl hm
  · intro m _ hm;exact absurd rfl hm
  · intro v _;refine .inl ?_;rw[hW];exact iB _ _ _
  · intro t h1;cases h1
  · refine .inr ⟨rfl,.inl ?_⟩;rw[hW];exact iB _ _ _
  · have:=z t;have h2':(sv (List.replicate n Sp.zero) t).pc=2:=h2;omega
def kf (S:List Sp)(k:Nat):Nat:=(List.range k).countP λj=>decide ((sv S j).pc=10)
theorem ua (S:List Sp)(k:Nat):kf S (k+1)=kf S k+if (sv S k).pc=10 then 1 else 0:=by unfold kf;rw[List.range_succ,List.countP_append];simp[List.countP_cons]
theorem r5{S:List Sp}(hu:∀a b,a<n->b<n->(sv S a).pc=10->(sv S b).pc=10->a=b):∀k,k<=n->kf S k<=1/\(1<=kf S k->∃j,j<k/\(sv S j).pc=10)
 |0,_=>⟨by simp[kf],λh=>by simp[kf]at h⟩
 |k+1,hk=>by
  obtain⟨h1,h2⟩:=r5 hu k QX;rw[ua];by_cases hb:(sv S k).pc=10
  ·rw[if_pos hb]
   have h0:kf S k=0:=by
    rcases Nat.eq_zero_or_pos (kf S k)with h0|h0
    ·exact h0
    ·obtain⟨j,hj,hjq⟩:=h2 h0;have:=hu j k QX QX hjq hb;omega
   exact⟨by omega,λ_=>⟨k,by omega,hb⟩⟩
  ·rw[if_neg hb];exact⟨by omega,λh=>by obtain⟨j,hj,hq⟩:=h2 QX;exact⟨j,by omega,hq⟩⟩
theorem HOk.holds (k:HOk nd n dl node h N G)(m:Nat)(hm:m<=n):kf h.S m<=1:=(r5 (λ_ _ ha hb h1 h2=>k.hold1 ha hb h1 h2) m hm).1
end
end
section
open Go.RowKit
theorem HOk.cond{nd n N:Nat}{dl:Int}{node:Nat->Nat}{h:Hc}{G:Nat->List Nat}(k:HOk nd n dl node h N G)(hN:N<1000000)(hd:dl<=3):Dz h:=by
 refine⟨by have:=k.ops;omega,λj p hp=>?_⟩;have hj:j<n:=by rw[<-k.iv.sl];exact(List.getElem?_eq_some_iff.1 hp).1
 have e:sv h.S j=p:=by unfold sv;rw[List.getD_eq_getElem?_getD,hp];rfl
 subst e;have hn:=k.iv.n32;refine⟨⟨k.iv.d0 j,by have:=k.dn j;omega⟩,λh2=>?_,λh5=>?_⟩;·have h1:=k.bb j hj h2;have h3:=k.iv.at234 hj (.inl h2);rcases k.iv.mast j (fB h3)with⟨h4|h4,_⟩|⟨h4,_⟩<;>omega
 ·rcases k.iv.at5 hj h5 with⟨q,p,_,hp,ha⟩|⟨_,t,d,ht,h1,h2,ha⟩
  ·rw[ha];have:=k.iv.d0 p;have:=k.dn p;have:=k.iv.lt _ _ hp;unfold tokH;omega
  ·rw[ha];have:=k.dn t;unfold tokH;omega
section
variable{w0 w w':World}{l a g q b u lo hi:Nat}{d:Int}{P T:List Int}{h h':Hc}{N M:Nat}{G G':Nat->List Nat}
end
end
section
open Go Go.RowKit
def hcV (l:Nat):Value:= .iface 181 (.agg #[.iface 177 ↑l])
structure HcB where
 l:Nat
 a:Nat
 g:Nat
 q:Nat
 b:Nat
 u:Nat
 lo:Nat
 h1:Nat
 hi:Nat
def kG (p:Sp):Prop:=(0<=p.pc/\p.pc<=5)\/p.pc=10\/p.pc=11
def wJ (dl:Int)(P T:List Int)(st:Hc)(N:Nat):Prop:=(∃G,HOk (ab P).length T.length dl (dc P T) st N G)/\∀i,kG (sv st.S i)
def hcS (dl:Int)(P T:List Int)(st:Hc)(i:Nat):Hc:=(fo (ab P).length T.length dl (dc P T) st i).1
def EH (dl:Int)(P T:List Int):LkM T.length where
 σ:=Hc
 β:=HcB
 ok:=wJ dl P T
 ar:=λst=>st.ar
 sp:=λst i=>sv st.S i
 cn:=λst i=>if (sv st.S i).pc=10 then 1 else 0
 rd:=false
 step:=hcS dl P T
 ask:=λst i r=>if r then st else(bj st i 0 1).1
 leave:=λst i=>(bj st i 10 11).1
 hi:=λb=>b.hi
 fp:=λb=>[b.a,b.g,b.q,b.u]
 is:=λb w a g lb st=>bo w b.l a g b.q b.b b.u b.lo b.h1 dl P T st/\(b.a=a/\b.g=g)/\jk w lb T.length 8 (hcV b.l) [b.a,b.g,b.q,b.u] b.hi/\b.l<b.hi/\b.h1<=b.hi
theorem p6 (st:Hc)(i:Nat)(hi:i<st.S.length)(u v:Int):(bj st i u v).1=(if (sv st.S i).pc=u then⟨st.ar,st.D,st.S.set i {sv st.S i with pc:=v}⟩else st)/\(bj st i u v).2=decide ((sv st.S i).pc=u):=by unfold bj;rw[eX hi,Int.toNat_natCast];exact Jq
theorem r4{nd n:Nat}{dl:Int}{node:Nat->Nat}(st:Hc)(i:Nat)(hi:i<st.S.length):(fo nd n dl node st i).2=dA (sv st.S i) (sv (fo nd n dl node st i).1.S i):=by
 unfold fo;rw[eX hi,Int.toNat_natCast];unfold dA;split
 ·rename_i h;have hg:=h.2;unfold hJ at hg;simp only[Bool.or_eq_true,beq_iff_eq]at hg;simp only[fR hi,if_true];by_cases c:(bm nd n dl st (node i) i (sv st.S i)).2.2.pc=10\/(bm nd n dl st (node i) i (sv st.S i)).2.2.pc=0;·exact IM
  ·exact IN
 ·exact Jr
theorem yj (nd n:Nat)(dl:Int)(h:Hc)(nu i:Nat)(p:Sp)(hp:hJ p=true):kG (bm nd n dl h nu i p).2.2:=by
 unfold hJ at hp;simp only[Bool.or_eq_true,beq_iff_eq]at hp;unfold bm kG;repeat' split
 all_goals (simp only;grind)
theorem wJ.le{dl:Int}{P T:List Int}{st:Hc}{N:Nat}(h:wJ dl P T st N):wJ dl P T st (N+1):=⟨h.1.imp λ_ k=>k.le QX,h.2⟩
theorem bo.far{w w':World}{l a g q b u lo hi:Nat}{dl:Int}{P T:List Int}{h:Hc}{S:List Nat}(k:bo w l a g q b u lo hi dl P T h)(t:aa S w w')(hS:∀x∈[l,a,g,q,u],x∉S)(hh:∀x∈S,x<lo\/hi<=x):bo w' l a g q b u lo hi dl P T h:=by simp only[List.mem_cons,List.not_mem_nil,or_false,forall_eq_or_imp,forall_eq]at hS;obtain⟨h1,h2,h3,h4,h5⟩:=hS;exact⟨k.ar.turns t h2 h3,t.blk k.lk h1,k.sp.turns t h4,k.tu.turns t h5,k.tab.keep (λi hi1 hi2=>t.block i (by have:=k.hs;omega) λhm=>by have:=hh i hm;omega) (Nat.le_trans k.hs t.size),k.sl,Nat.le_trans k.hs t.size,k.nd,k.o⟩
theorem xM{dl:Int}{P T:List Int}(hc:a5 P T=0)(hd:0<=dl/\dl<=3):(EH dl P T).Good where
 n32:=by have:=bh (aR hc).1;exact⟨this.2.2.1,this.2.2.2⟩
 okS:=fun(st:Hc) N i h hN hi=>by
  obtain⟨⟨G,k⟩,hp⟩:=h
  obtain⟨G',k',hcs⟩:=k.stepI hN (i:Int)
  refine⟨⟨G',k'⟩,λj=>?_⟩
  show kG (sv (fo _ _ _ _ st i).1.S j)
  have hl:i<st.S.length:=by rw[k.iv.sl];exact hi
  unfold fo
  rw[eX hl,Int.toNat_natCast]
  split
  ·rename_i e
   show kG (sv (st.S.set i _) j)
   rw[fR hl]
   split
   ·exact yj _ _ _ _ _ _ _ e.2
   ·exact hp j
  ·exact hp j
 okA:=fun(st:Hc) N i r h hN hi=>by
  cases r
  ·obtain⟨⟨G,k⟩,hp⟩:=h
   have hl:i<st.S.length:=by rw[k.iv.sl];exact hi
   refine⟨⟨G,(k.beginI (i:Int) 0 1 (.inl ⟨rfl,rfl⟩)).1.le QX⟩,λj=>?_⟩
   show kG (sv (bj st i 0 1).1.S j)
   rw[(p6 st i hl 0 1).1]
   exact Js
  ·exact wJ.le h
 okL:=fun(st:Hc) N i h hN hi=>by
  obtain⟨⟨G,k⟩,hp⟩:=h
  have hl:i<st.S.length:=by rw[k.iv.sl];exact hi
  refine⟨⟨G,(k.beginI (i:Int) 10 11 (.inr ⟨rfl,rfl⟩)).1.le QX⟩,λj=>?_⟩
  show kG (sv (bj st i 10 11).1.S j)
  rw[(p6 st i hl 10 11).1]
  exact Js
 okm:=fun(st:Hc) N h=>wJ.le h
 one:=fun(st:Hc) N i j h hi hj h1 h2 _=>by obtain⟨⟨G,k⟩,_⟩:=h;exact k.hold1 hi hj h1 h2
 pcs:=fun(st:Hc) N i h hi=>by have:=h.2 i;unfold kG at this;show 0<=(sv st.S i).pc;omega
 cnt:=fun(st:Hc) N i h hi=>by
  exact IO
 opsS:=fun(st:Hc) N i h hN hi=>by
  obtain⟨⟨G,k⟩,_⟩:=h
  obtain⟨G',_,_,h3,_⟩:=k.act hN 0 (i:Int)
  exact h3
 arA:=fun(st:Hc) i r=>by
  cases r
  ·show(bj st i 0 1).1.ar=st.ar
   unfold bj;split<;>rfl
  ·rfl
 arL:=fun(st:Hc) i=>by
  show(bj st i 10 11).1.ar=st.ar
  unfold bj;split<;>rfl
 ais:=fun(b:HcB) w a g lb (st:Hc) h=>h.1.ar
 lk:=fun(b:HcB) w a g lb (st:Hc) h=>h.2.2.1.c1
 kd:=fun(b:HcB) w a g lb (st:Hc) h=>⟨8,h.2.2.1.blk.cell 0,rfl⟩
 fpa:=fun(b:HcB) w a g lb (st:Hc) h=>⟨h.2.2.1.fl,h.2.2.1.hw⟩
 far:=fun(b:HcB) w a g lb (st:Hc) w' S h t hS=>by
  obtain⟨k,⟨rfl,rfl⟩,hd,hl,hh⟩:=h
  have h9:∀x∈S,b.hi<=x:=hS
  have hf:=hd.fl
  refine⟨k.far t (λx hx m=>?_) (λx hx=> .inr (by have:=h9 x hx;omega)),⟨rfl,rfl⟩,hd.far t h9,hl,hh⟩
  have:=h9 x m
  rcases List.mem_cons.1 hx with rfl|hx
  ·omega
  ·have:=hf x hx;omega
 cS:=fun(b:HcB) w a g lb (st:Hc) N i h hk hN hi=>by
  obtain⟨k,⟨rfl,rfl⟩,hd',hl,hh⟩:=h
  obtain⟨⟨G,ko⟩,_⟩:=hk
  refine(nA .hc hd'.c1 hd'.c2 hi (R:=λr w'=>r=dA (sv st.S i) (sv (hcS dl P T st i).S i)/\bo w' b.l b.a b.g b.q b.b b.u b.lo b.h1 dl P T (hcS dl P T st i)/\aa [b.a,b.g,b.q,b.u] w w') λW bw=>?_).mono ?_
  ·refine(Ff (k.below bw) (i:Int) (ko.cond hN hd.2)).mono ?_
   rintro e w' ⟨rfl,k2,t2⟩
   exact⟨_,rfl,r4 st i (by rw[k.sl];exact hi),k2,(aa.of_below bw).trans t2⟩
  ·exact Jt
 cA:=fun(b:HcB) w a g lb (st:Hc) N i r h hk hN hi=>by
  obtain⟨k,⟨rfl,rfl⟩,hd',hl,hh⟩:=h
  have hl2:i<st.S.length:=by rw[k.sl];exact hi
  refine(xu .hc hd'.c1 hd'.c2 hi r (R:=λq w'=>q=decide ((sv st.S i).pc=0/\(r=true->(false:Bool)=true))/\bo w' b.l b.a b.g b.q b.b b.u b.lo b.h1 dl P T (if r then st else(bj st i 0 1).1)/\aa [b.a,b.g,b.q,b.u] w w') (λhr W bw=>?_) (λhr W bw=>?_)).mono ?_
  ·subst hr
   refine(FC (k.below bw) (i:Int)).mono ?_
   rintro e w' ⟨rfl,k2,t2⟩
   exact⟨_,rfl,by rw[(p6 st i hl2 0 1).2];simp,k2,(aa.of_below bw).trans t2⟩
  ·exact IQ
  ·exact Jt
 cL:=fun(b:HcB) w a g lb (st:Hc) N i h hk hN hi=>by
  obtain⟨k,⟨rfl,rfl⟩,hd',hl,hh⟩:=h
  have hl2:i<st.S.length:=by rw[k.sl];exact hi
  refine(kv .hc hd'.c1 hd'.c2 hi (R:=λq w'=>q=decide ((sv st.S i).pc=10)/\bo w' b.l b.a b.g b.q b.b b.u b.lo b.h1 dl P T (bj st i 10 11).1/\aa [b.a,b.g,b.q,b.u] w w') λW bw=>?_).mono ?_
  ·refine(CP (k.below bw) (i:Int)).mono ?_
   rintro e w' ⟨rfl,k2,t2⟩
   exact⟨_,rfl,(p6 st i hl2 10 11).2,k2,(aa.of_below bw).trans t2⟩
  ·exact Jt
 cP:=fun(b:HcB) w a g lb (st:Hc) i h hi=>nz .hc h.2.2.1.c1 h.2.2.1.c2 hi _ λW bw=>by
  exact Ju
 cC:=fun(b:HcB) w a g lb (st:Hc) i h hi=>ny .hc h.2.2.1.c1 h.2.2.1.c2 hi _ λW bw=>by
  exact Ju
end
section
open Go
structure Wk where
 node:Int
 way:Bool
 passed:Int
 last:Int
 found:Int
structure Cn where
 ar:Ar
 wk:Wk
 S:List Sp
def dK (n:Nat)(node:Nat->Int)(w:Wk)(x:Int):Wk:=
 if ¬(1<=x/\x<=n)\/w.passed=n then {w with way:=false}
 else if node (x-1).toNat=w.node then {w with way:=false,found:=x}
 else {w with way:=true,last:=x,passed:=w.passed+1}
def gF (n:Nat)(node:Nat->Int)(w:Wk)(x v:Int):Wk:=dK n node {w with node:=v,passed:=0,last:=0,found:=0} x
def cN (x:Int):Int:=3*x
def cS (x:Int):Int:=3*x+1
def cL (x:Int):Int:=3*x+2
def inC (s:Ar)(x:Int)(p:Sp):Ar×Sp:=
 if p.pc=1 then(ac s (cN x) 0,{p with pc:=2})
 else if p.pc=2 then(ac s (cS x) 0,{p with pc:=3})
 else if p.pc=3 then(bY s 1 x,{p with a:=ldW s.W 1,pc:=if ldW s.W 1=0 then 6 else 4})
 else if p.pc=4 then(ac s (cN p.a) x,{p with pc:=5})
 else if p.pc=5 then(ae s (cS x),{p with a:=ldW s.W (cS x),pc:=if ldW s.W (cS x)≠0 then 10 else 5})
 else(ac s (cS x) (-1),{p with pc:=10})
def j9 (s:Ar)(x:Int)(p:Sp):Ar×Sp:=
 if p.pc=11 then(ae s (cS x),{p with b:=ldW s.W (cS x),pc:=12})
 else if p.pc=12 then(ae s (cN x),{p with a:=ldW s.W (cN x),pc:=if ldW s.W (cN x)≠0 then 17 else if 0<p.b then 14 else 13})
 else if p.pc=13 then(dO s 1 x 0,{p with pc:=if cl s 1 x then 0 else 16})
 else if p.pc=14 then(ae s (cL p.b),{p with c:=ldW s.W (cL p.b),pc:=15})
 else if p.pc=15 then(dO s 1 x p.c,{p with pc:=if cl s 1 x then 28 else 16})
 else(ae s (cN x),{p with a:=ldW s.W (cN x),pc:=if ldW s.W (cN x)≠0 then 17 else 16})
def eG (p:Sp):Sp:={p with pc:=if 0<p.b then 25 else 29}
def nR (n:Nat)(node:Nat->Int)(bud:Int)(s:Ar)(w:Wk)(i:Nat)(p:Sp):Ar×Wk×Sp:=
 if p.pc=18 then
  if w.way then
   (ae s (cN w.last),dK n node w (ldW s.W (cN w.last)),
    if (dK n node w (ldW s.W (cN w.last))).way then {p with pc:=18} else if (dK n node w (ldW s.W (cN w.last))).found≠0 then {p with pc:=19} else eG p)
  else(s,w,{p with pc:=18})
 else if bud<=ldW s.W 2 then(ae s 2,w,eG {p with c:=ldW s.W 2})
 else(ae s 2,gF n node w p.a (node i),{p with c:=ldW s.W 2,pc:=if (gF n node w p.a (node i)).way then 18 else 23})
def eg (s:Ar)(w:Wk)(p:Sp):Ar×Sp:=
 if p.pc=19 then(ac s (cN w.last) 0,if 0<p.b then {p with pc:=20} else {p with b:=p.a,pc:=22})
 else if p.pc=20 then(ae s (cL p.b),{p with c:=ldW s.W (cL p.b),pc:=21})
 else if p.pc=25 then(ae s (cL p.b),{p with c:=ldW s.W (cL p.b),pc:=26})
 else if p.pc=21 then(ac s (cN p.c) p.a,{p with pc:=22})
 else if p.pc=26 then(ac s (cN p.c) p.a,{p with pc:=27})
 else if p.pc=22 then(ac s (cL p.b) w.last,{p with a:=w.found,pc:=23})
 else if p.pc=23 then(addA s 2 1,{p with pc:=24})
 else if p.pc=24 then(ac s (cS p.a) p.b,{p with pc:=0})
 else if p.pc=27 then(ac s 2 0,{p with pc:=28})
 else if p.pc=29 then(ac s 2 0,{p with pc:=30})
 else if p.pc=28 then(ac s (cS p.b) (-1),{p with pc:=0})
 else(ac s (cS p.a) (-1),{p with pc:=0})
def af (n:Nat)(node:Nat->Int)(bud:Int)(h:Cn)(i:Nat)(p:Sp):Ar×Wk×Sp:=
 if p.pc<10 then((inC h.ar (i+1) p).1,h.wk,(inC h.ar (i+1) p).2)
 else if p.pc<=16 then((j9 h.ar (i+1) p).1,h.wk,(j9 h.ar (i+1) p).2)
 else if p.pc<=18 then nR n node bud h.ar h.wk i p
 else((eg h.ar h.wk p).1,h.wk,(eg h.ar h.wk p).2)
def gR (n:Nat)(node:Nat->Int)(bud:Int)(h:Cn)(i:Int):Cn×Bool:=
 if okI h.S i/\(getS h.S i).pc≠0/\(getS h.S i).pc≠10 then
  (⟨(af n node bud h i.toNat (getS h.S i)).1,(af n node bud h i.toNat (getS h.S i)).2.1,h.S.set i.toNat (af n node bud h i.toNat (getS h.S i)).2.2⟩,
   decide ((af n node bud h i.toNat (getS h.S i)).2.2.pc=0\/(af n node bud h i.toNat (getS h.S i)).2.2.pc=10))
 else(h,false)
def bU (h:Cn)(i from_ to_:Int):Cn×Bool:=
 if okI h.S i/\(getS h.S i).pc=from_ then(⟨h.ar,h.wk,h.S.set i.toNat {getS h.S i with pc:=to_}⟩,true)else(h,false)
def num (t:Nat):Int:=(t:Int)+1
section
variable{W:List Int}{n t:Nat}
end
section
variable{P:Nat->Nat->Prop}{l m:List Nat}
theorem Lks.left (h:Lks P (l++m)):Lks P l:=by
 induction l with
 |nil=>trivial
 |cons a l ih=>
  refine⟨λb hb=>h.1 b ?_,ih h.2⟩;cases l with
  |nil=>simp at hb
  |cons c l=>simpa using hb
theorem Lks.right (h:Lks P (l++m)):Lks P m:=by
 induction l with
 |nil=>exact h
 |cons a l ih=>exact ih h.2
end
def vA (A:List Nat):Int:=match A.head? with|some a=>num a|none=>-1
end
section
open Go.RowKit
def wkC (beh:Value)(n1 n:Nat)(x:Wk):Array Value:=#[beh,.slice (some ⟨n1,0,none⟩) n n,.int .i64 x.node,.bool x.way,.int .i64 x.passed,.int .i64 x.last,.int .i64 x.found]
structure cz (w:World)(k n1:Nat)(beh:Value)(nd:List Int)(x:Wk):Prop where
 blk:Blk w k 324 (wkC beh n1 nd.length x)
 row:Blk w n1 3 (nd.map (Value.int .i64)).toArray
 ne:k≠n1
 n32:nd.length<=32
def ndf (nd:List Int)(t:Nat):Int:=nd.getD t 0
section
variable{w w':World}{k n1:Nat}{beh:Value}{nd:List Int}{x:Wk}
theorem cz.c0 (h:cz w k n1 beh nd x):w.cell? k=some beh:=h.blk.cell 0
theorem cz.c1 (h:cz w k n1 beh nd x):w.cell? ⟨k,1,none⟩=some (.slice (some ⟨n1,0,none⟩) nd.length nd.length):=h.blk.cell 1
theorem cz.c2 (h:cz w k n1 beh nd x):w.cell? ⟨k,2,none⟩=some (.int .i64 x.node):=h.blk.cell 2
theorem cz.c3 (h:cz w k n1 beh nd x):w.cell? ⟨k,3,none⟩=some (.bool x.way):=h.blk.cell 3
theorem cz.c4 (h:cz w k n1 beh nd x):w.cell? ⟨k,4,none⟩=some (.int .i64 x.passed):=h.blk.cell 4
theorem cz.c5 (h:cz w k n1 beh nd x):w.cell? ⟨k,5,none⟩=some (.int .i64 x.last):=h.blk.cell 5
theorem cz.c6 (h:cz w k n1 beh nd x):w.cell? ⟨k,6,none⟩=some (.int .i64 x.found):=h.blk.cell 6
theorem cz.nat (h:cz w k n1 beh nd x){m:Nat}(hm:m<nd.length):w.cell? ⟨n1,m,none⟩=some (.int .i64 (ndf nd m)):=by rw[h.row.cell m];unfold ndf;simp[List.getD_eq_getElem?_getD,List.getElem?_eq_getElem hm]
theorem cz.turns{S:List Nat}(h:cz w k n1 beh nd x)(t:aa S w w')(h1:k∉S)(h2:n1∉S):cz w' k n1 beh nd x:=⟨t.blk h.blk h1,t.blk h.row h2,h.ne,h.n32⟩
theorem cz.below (h:cz w k n1 beh nd x)(t:Below w.heap.size w w'):cz w' k n1 beh nd x:=h.turns (aa.of_below (S:=[]) t) QY QY
theorem cz.put (h:cz w k n1 beh nd x){i:Nat}{v:Value}{x':Wk}(e:(wkC beh n1 nd.length x).setIfInBounds i v=wkC beh n1 nd.length x'):cz (w.setCell ⟨k,i,none⟩ v) k n1 beh nd x':=by refine⟨?_,h.row.far (λe=>h.ne e.symm) _,h.ne,h.n32⟩;have:=h.blk.set_ i v;exact Ji
theorem fg{k:Nat}(w:World)(i:Nat)(v:Value):aa [k] w (w.setCell ⟨k,i,none⟩ v):=(aa.refl _ _).setCell (.inl QY) _
theorem isW (h:cz w k n1 beh nd x)(y:Int)(b:Bool)(hb:decide (1<=y/\y<=nd.length)=b):Calls Tryz.prog 329 #[↑k,.int .i64 y] w λe w'=>e= .returned (.bool b)/\w=w':=by
 have c1:=h.c1;have HB:=qh hb;clear h hb;by_cases h1:1<=y;·go_enter Tryz.func329,Tryz.ntmps329;go_wp2;go_ret;exact⟨az (by rw[<-HB.o];simp[h1]),rfl⟩
 ·go_enter Tryz.func329,Tryz.ntmps329;exact IE
def DA (w:World)(k n1:Nat)(beh:Value)(nd:List Int)(x':Wk)(e:Ending)(w':World):Prop:=e= .returned (.bool (!x'.way))/\cz w' k n1 beh nd x'/\aa [k] w w'
theorem Bz (h:cz w k n1 beh nd x)(hp:0<=x.passed/\x.passed<=32)(y:Int):Calls Tryz.prog 327 #[↑k,.int .i64 y] w (DA w k n1 beh nd (dK nd.length (ndf nd) x y)):=by
 have hd:=qh (λm=>h.below (Qt.below ⟨m,rfl⟩ _));obtain⟨hp0,hp1⟩:=hp;have hk:=h.blk.lt;have hn:=h.n32;by_cases h1:1<=y/\y<=nd.length
 ·have HI:=qh (λW (h:cz W k n1 beh nd x)=>isW h y true (decide_eq_true h1));have c1:=h.c1;have c3:=h.c3;have c4:=h.c4;have c5:=h.c5;have c6:=h.c6;have z3:=h.blk.free 3;by_cases h2:x.passed=nd.length;·have t4:(x.passed==(nd.length:Int))=true:=(by simpa using h2);have HT:Kq (dK nd.length (ndf nd) x y={x with way:=false}):=qh (by unfold dK;rw[if_pos (.inr h2)]);clear h h2;exact Jv
  ·have t4:(x.passed==(nd.length:Int))=false:=(by simpa using h2);obtain⟨h1a,h1b⟩:=h1;obtain⟨m,rfl⟩:∃m:Nat,y=(m:Int)+1:=⟨(y-1).toNat,by omega⟩;have hm:m<nd.length:=(by omega);have hmi:(m:Int)<(nd.length:Int):=(by omega);have c2:=h.c2;have cn:=h.nat hm;have z4:=h.blk.free 4;have z5:=h.blk.free 5;have z6:=h.blk.free 6;have kn:=h.ne;have x1:IntKind.i64.wrap (x.passed+1)=x.passed+1:=IntWalk.i64_in _ QX;by_cases h3:ndf nd m=x.node;·have t5:(ndf nd m==x.node)=true:=(by simpa using h3);have HT:Kq (dK nd.length (ndf nd) x ((m:Int)+1)={x with way:=false,found:=(m:Int)+1}):=qh (by unfold dK;rw[if_neg QX,if_pos (by rw[show((m:Int)+1-1).toNat=m by omega];exact h3)]);have KH:=qh h;clear h h2 h3;go_enter Tryz.func327,Tryz.ntmps327;go_wp2_with fail;go_quiet ((go_at_call 329;exact dS (HI.o _ (hd.o _))));go_wp2;go_quiet (fail);go_wp2;go_ret;rw[HT.o];refine⟨rfl,?_,((aa.of_qt ⟨_,rfl⟩).trans (fg _ _ _)).trans (fg _ _ _)⟩;exact(cz.put (x':={x with way:=false}) (hd.o _) rfl).put rfl
   ·have t5:(ndf nd m==x.node)=false:=(by simpa using h3);have HT:Kq (dK nd.length (ndf nd) x ((m:Int)+1)={x with way:=true,last:=(m:Int)+1,passed:=x.passed+1}):=qh (by unfold dK;rw[if_neg QX,if_neg (by rw[show((m:Int)+1-1).toNat=m by omega];exact h3)]);have KH:=qh h;clear h h2 h3;go_enter Tryz.func327,Tryz.ntmps327;go_wp2_with fail;go_quiet ((go_at_call 329;exact dS (HI.o _ (hd.o _))));go_wp2;go_quiet (fail);go_wp2;go_ret;rw[HT.o];refine⟨rfl,?_,(((aa.of_qt ⟨_,rfl⟩).trans (fg _ _ _)).trans (fg _ _ _)).trans (fg _ _ _)⟩;exact(cz.put (x':={x with way:=true,last:=(m:Int)+1}) (cz.put (x':={x with way:=true}) (hd.o _) rfl) rfl).put rfl
 ·have HI:=qh (λW (h:cz W k n1 beh nd x)=>isW h y false (decide_eq_false h1));have c3:=h.c3;have z3:=h.blk.free 3;have HT:Kq (dK nd.length (ndf nd) x y={x with way:=false}):=qh (by unfold dK;rw[if_pos (.inl h1)]);clear h h1;exact Jv
theorem BV (h:cz w k n1 beh nd x)(y v:Int):Calls Tryz.prog 323 #[↑k,.int .i64 y,.int .i64 v] w (DA w k n1 beh nd (gF nd.length (ndf nd) x y v)):=by have k1:cz (w.setCell ⟨k,2,none⟩ (.int .i64 v)) k n1 beh nd {x with node:=v}:=h.put rfl;have k2:cz _ k n1 beh nd {x with node:=v,passed:=0}:=k1.put (i:=4) (v:= .int .i64 0) rfl;have k3:cz _ k n1 beh nd {x with node:=v,passed:=0,last:=0}:=k2.put (i:=5) (v:= .int .i64 0) rfl;have k4:cz _ k n1 beh nd {x with node:=v,passed:=0,last:=0,found:=0}:=k3.put (i:=6) (v:= .int .i64 0) rfl;have K4:=qh k4;have z2:=h.blk.free 2;have z4:=h.blk.free 4;have z5:=h.blk.free 5;have z6:=h.blk.free 6;have hk:=h.blk.lt;have c2:=h.c2;have c4:=h.c4;have c5:=h.c5;have c6:=h.c6;clear h k1 k2 k3 k4;go_enter Tryz.func323,Tryz.ntmps323;go_wp2_with fail;refine(Bz K4.o ⟨Int.le_refl _,by show(0:Int)<=32;decide⟩ y).mono ?_;rintro en w1 ⟨rfl,h1,t1⟩;have H1:=qh (And.intro h1 ((((fg (k:=k) w 2 (.int .i64 v)).trans (fg _ 4 (.int .i64 0))).trans (fg _ 5 (.int .i64 0))).trans (fg _ 6 (.int .i64 0)) |>.trans t1));clear h1 t1;exact Jw
theorem GK (h:cz w k n1 beh nd x):Calls Tryz.prog 328 #[↑k] w λe w'=>e= .returned (.bool (!x.way))/\w=w':=by have c3:=h.c3;clear h;go_enter Tryz.func328,Tryz.ntmps328;exact gs
theorem qk (h:cz w k n1 beh nd x):Calls Tryz.prog 325 #[↑k] w λe w'=>e= .returned (.int .i64 x.found)/\w=w':=by have c3:=h.c6;clear h;go_enter Tryz.func325,Tryz.ntmps325;exact gs
theorem ud (h:cz w k n1 beh nd x):Calls Tryz.prog 326 #[↑k] w λe w'=>e= .returned (.int .i64 x.last)/\w=w':=by have c3:=h.c5;clear h;go_enter Tryz.func326,Tryz.ntmps326;exact gs
end
end
section
open Go
abbrev Cfg:=Option (Nat×List Nat×List Nat)
section
variable{n:Nat}{bud:Int}{node:Nat->Int}{W W':List Int}{w w':Wk}{S:List Sp}{c:Cfg}{i h:Nat}{A R:List Nat}{p':Sp}
end
end
section
open Go
section
variable{n:Nat}{bud:Int}{node:Nat->Int}{s:Cn}{c:Cfg}{i h:Nat}{A R:List Nat}{p:Sp}
theorem Ih (e:p.pc=1):af n node bud s i p=(ac s.ar (cN (num i)) 0,s.wk,{p with pc:=2}):=by simp[af,inC,e,num]
theorem Ii (e:p.pc=2):af n node bud s i p=(ac s.ar (cS (num i)) 0,s.wk,{p with pc:=3}):=by simp[af,inC,e,num]
theorem Ij (e:p.pc=3):af n node bud s i p=(bY s.ar 1 (num i),s.wk,{p with a:=ldW s.ar.W 1,pc:=if ldW s.ar.W 1=0 then 6 else 4}):=by simp[af,inC,e,num]
theorem Ik (e:p.pc=4):af n node bud s i p=(ac s.ar (cN p.a) (num i),s.wk,{p with pc:=5}):=by simp[af,inC,e,num]
theorem Il (e:p.pc=5):af n node bud s i p=(ae s.ar (cS (num i)),s.wk,{p with a:=ldW s.ar.W (cS (num i)),pc:=if ldW s.ar.W (cS (num i))≠0 then 10 else 5}):=by simp[af,inC,e,num];by_cases hc:ldW s.ar.W (cS ((i:Int)+1))=0<;>simp[hc]
theorem Im (e:p.pc=6):af n node bud s i p=(ac s.ar (cS (num i)) (-1),s.wk,{p with pc:=10}):=by simp[af,inC,e,num]
end
end
section
open Go
section
variable{n:Nat}{bud:Int}{node:Nat->Int}{s:Cn}{c:Cfg}{i h:Nat}{A R A' R':List Nat}{p:Sp}
theorem GQ (e:p.pc=11):af n node bud s i p=(ae s.ar (cS (num i)),s.wk,{p with b:=ldW s.ar.W (cS (num i)),pc:=12}):=by simp[af,j9,e,num]
theorem GR (e:p.pc=12):af n node bud s i p=(ae s.ar (cN (num i)),s.wk,{p with a:=ldW s.ar.W (cN (num i)),pc:=if ldW s.ar.W (cN (num i))≠0 then 17 else if 0<p.b then 14 else 13}):=by by_cases hc:ldW s.ar.W (cN ((i:Int)+1))=0<;>simp[af,j9,e,num,hc]
theorem GT (e:p.pc=13):af n node bud s i p=(dO s.ar 1 (num i) 0,s.wk,{p with pc:=if cl s.ar 1 (num i)then 0 else 16}):=by cases hc:cl s.ar 1 ((i:Int)+1)<;>simp[af,j9,e,num,hc]
theorem GU (e:p.pc=14):af n node bud s i p=(ae s.ar (cL p.b),s.wk,{p with c:=ldW s.ar.W (cL p.b),pc:=15}):=by simp[af,j9,e]
theorem GV (e:p.pc=15):af n node bud s i p=(dO s.ar 1 (num i) p.c,s.wk,{p with pc:=if cl s.ar 1 (num i)then 28 else 16}):=by cases hc:cl s.ar 1 ((i:Int)+1)<;>simp[af,j9,e,num,hc]
theorem GW (e:p.pc=16):af n node bud s i p=(ae s.ar (cN (num i)),s.wk,{p with a:=ldW s.ar.W (cN (num i)),pc:=if ldW s.ar.W (cN (num i))≠0 then 17 else 16}):=by by_cases hc:ldW s.ar.W (cN ((i:Int)+1))=0<;>simp[af,j9,e,num,hc]
theorem GY (e:p.pc=17):af n node bud s i p=if bud<=ldW s.ar.W 2 then(ae s.ar 2,s.wk,eG {p with c:=ldW s.ar.W 2})else(ae s.ar 2,gF n node s.wk p.a (node i),{p with c:=ldW s.ar.W 2,pc:=if (gF n node s.wk p.a (node i)).way then 18 else 23}):=by simp[af,nR,e]
theorem GZ (e:p.pc=18) (hw:s.wk.way=true):af n node bud s i p=(ae s.ar (cN s.wk.last),dK n node s.wk (ldW s.ar.W (cN s.wk.last)),
        if (dK n node s.wk (ldW s.ar.W (cN s.wk.last))).way then {p with pc:=18} else if (dK n node s.wk (ldW s.ar.W (cN s.wk.last))).found≠0 then {p with pc:=19} else eG p):=by simp[af,nR,e,hw]
theorem DQ (e:p.pc=19):af n node bud s i p=(ac s.ar (cN s.wk.last) 0,s.wk,if 0<p.b then {p with pc:=20} else {p with b:=p.a,pc:=22}):=by simp[af,eg,e]
theorem G0 (e:p.pc=20):af n node bud s i p=(ae s.ar (cL p.b),s.wk,{p with c:=ldW s.ar.W (cL p.b),pc:=21}):=by simp[af,eg,e]
theorem G2 (e:p.pc=21):af n node bud s i p=(ac s.ar (cN p.c) p.a,s.wk,{p with pc:=22}):=by simp[af,eg,e]
theorem G3 (e:p.pc=22):af n node bud s i p=(ac s.ar (cL p.b) s.wk.last,s.wk,{p with a:=s.wk.found,pc:=23}):=by simp[af,eg,e]
theorem G4 (e:p.pc=23):af n node bud s i p=(addA s.ar 2 1,s.wk,{p with pc:=24}):=by simp[af,eg,e]
theorem G5 (e:p.pc=24):af n node bud s i p=(ac s.ar (cS p.a) p.b,s.wk,{p with pc:=0}):=by simp[af,eg,e]
theorem G6 (e:p.pc=25):af n node bud s i p=(ae s.ar (cL p.b),s.wk,{p with c:=ldW s.ar.W (cL p.b),pc:=26}):=by simp[af,eg,e]
theorem G7 (e:p.pc=26):af n node bud s i p=(ac s.ar (cN p.c) p.a,s.wk,{p with pc:=27}):=by simp[af,eg,e]
theorem G8 (e:p.pc=27):af n node bud s i p=(ac s.ar 2 0,s.wk,{p with pc:=28}):=by simp[af,eg,e]
theorem G9 (e:p.pc=28):af n node bud s i p=(ac s.ar (cS p.b) (-1),s.wk,{p with pc:=0}):=by simp[af,eg,e]
theorem Ha (e:p.pc=29):af n node bud s i p=(ac s.ar 2 0,s.wk,{p with pc:=30}):=by simp[af,eg,e]
theorem Hb (e:p.pc=30):af n node bud s i p=(ac s.ar (cS p.a) (-1),s.wk,{p with pc:=0}):=by simp[af,eg,e]
end
end
section
open Go
section
variable{n N i:Nat}{bud:Int}{node:Nat->Int}{s:Cn}{c:Cfg}
end
def cP1 (P:Nat->Int)(was now:Int)(u:Nat):Nat->Int:=λa=>if (was=3/\now≠3)/\a=u then 0 else P a
def cP2 (P:Nat->Int)(was now:Int)(u:Nat)(pcs:Nat->Int):Nat->Int:=λa=>if (was<10/\now=10)/\a≠u/\3<pcs a/\pcs a<10 then cP1 P was now u a+1 else cP1 P was now u a
section
variable{n N:Nat}{bud:Int}{node:Nat->Int}{W W':List Int}{S S':List Sp}{c c':Cfg}{j:Nat}{p p':Sp}{P:Nat->Int}
end
end
section
open Go
section
variable{n N:Nat}{bud:Int}{node:Nat->Int}{s:Cn}{c:Cfg}
end
def CF (n:Nat)(L:List Int)(P:Nat->Int):Prop:=L.length=n/\∀k,k<n->L.getD k 0=P k
section
variable{n:Nat}{L:List Int}{P P':Nat->Int}
theorem CF.congr (h:CF n L P)(e:∀k,k<n->P k=P' k):CF n L P':=⟨h.1,λk hk=>(h.2 k hk).trans (e k hk)⟩
theorem CF.set (h:CF n L P){u:Nat}(hu:u<n)(x:Int):CF n (L.set u x) (λk=>if k=u then x else P k):=by
 refine⟨by simp[h.1],λk hk=>?_⟩;rw[kF];show _=if k=u then x else P k
 by_cases e:k=u;·subst e;rw[if_pos ⟨rfl,by rw[h.1];exact hk⟩,if_pos rfl]
 ·rw[if_neg (λh=>e h.1.symm),if_neg e];exact h.2 k hk
def CM (P:Nat->Int)(u:Nat)(pcs:Nat->Int)(m:Nat):Nat->Int:=λk=>if k<m/\k≠u/\3<pcs k/\pcs k<10 then P k+1 else P k
theorem CF.m0{u:Nat}{pcs:Nat->Int}(h:CF n L P):CF n L (CM P u pcs 0):=h.congr λk _=>by unfold CM;rw[if_neg (λh=>absurd h.1 (Nat.not_lt_zero _))]
theorem CF.m1{u m:Nat}{pcs:Nat->Int}(h:CF n L (CM P u pcs m))(hm:m<n)(hc:m≠u/\3<pcs m/\pcs m<10):CF n (L.set m (P m+1)) (CM P u pcs (m+1)):=(h.set hm (P m+1)).congr λk _=>by
 unfold CM
 by_cases e:k=m
 ·subst e;rw[if_pos rfl,if_pos ⟨Nat.lt_succ_self _,hc⟩]
 ·rw[if_neg e]
  exact Jx
theorem CF.m2{u m:Nat}{pcs:Nat->Int}(h:CF n L (CM P u pcs m))(hc:¬(m≠u/\3<pcs m/\pcs m<10)):CF n L (CM P u pcs (m+1)):=h.congr λk _=>by
 unfold CM
 by_cases e:k=m
 ·subst e;rw[if_neg (λh=>absurd h.1 (Nat.lt_irrefl _)),if_neg (λh=>hc h.2)]
 ·exact Jx
theorem CM.at_{u m:Nat}{pcs:Nat->Int}:CM P u pcs m m=P m:=by unfold CM;rw[if_neg (λh=>absurd h.1 (Nat.lt_irrefl _))]
theorem CF.done{u:Nat}{pcs:Nat->Int}{was now:Int}(h:CF n L (CM (cP1 P was now u) u pcs n))(hw:was<10/\now=10):CF n L (cP2 P was now u pcs):=h.congr λk hk=>by
 unfold CM cP2
 by_cases c:k≠u/\3<pcs k/\pcs k<10
 ·rw[if_pos ⟨hk,c⟩,if_pos ⟨hw,c⟩]
 ·rw[if_neg (λh=>c h.2),if_neg (λh=>c h.2)]
theorem CF.p1{u:Nat}{was now:Int}(h:CF n L P)(hu:u<n)(hw:was=3/\now≠3):CF n (L.set u 0) (cP1 P was now u):=(h.set hu 0).congr λk _=>by
 unfold cP1
 by_cases e:k=u
 ·rw[if_pos e,if_pos ⟨hw,e⟩]
 ·rw[if_neg e,if_neg (λh=>e h.2)]
theorem CF.p0{u:Nat}{was now:Int}(h:CF n L P)(hw:¬(was=3/\now≠3)):CF n L (cP1 P was now u):=h.congr λk _=>by
 unfold cP1;rw[if_neg (λh=>hw h.1)]
end
end
end Go.Proofs.YtglokdbiggbkjaaGreat
