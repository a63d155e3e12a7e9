/- Joined texts. -/
import Derived.StillTailTactics
import Derived.Deep.RegionHeld3
import Derived.Test.YtglokdbiggbkjaaGreatMgWholeRefuses0
import Derived.Test.YtglokdbiggbkjaaGreatMgWholeRefuses3
import Derived.Test.YtglokdbiggbkjaaGreatMgWholeRefuses11
set_option linter.unusedVariables false
set_option linter.unusedSimpArgs false
set_option linter.defProp false
set_option maxRecDepth 100000
set_option maxHeartbeats 16000000
open Go.Proofs.Tryz
namespace Go.Proofs.YtglokdbiggbkjaaGreat
open Go.IntKind(i64)
open Go.Value(int bool slice agg tuple pointer)
open Go.Ending(returned)
open Go.Obj(cells)
variable{w:World}{l a g q n:Nat}{t:Int}
section
open Go.RowKit
variable{p:Sp}{s:Ar}{Q:Prop}
def zp(w:World)(l a g q:Nat)(t:Int)(n:Nat)(r:Rg)(p:Sp)(x:Ar×Sp)(e:Ending)(w':World):Prop:=
 e= returned (J x.2.pc)/\cW w' l a g q t ⟨x.1,r.S.set n {x.2 with pc:=p.pc}⟩/\aa [a,g,q] w w'
def fO{P:Program}{f:FuncId}{args:Array Value}{v:Value}(h:Calls P f args w λe w'=>e= returned v/\w=w'):Calls P f args w λe w'=>e= returned v/\w'=w:=
 h.mono λ_ _ ⟨a,b⟩=>⟨a,b.symm⟩
def cW.ar_{w':World}{r:Rg}(h:cW w l a g q t r){s':Ar}(hs:aB w' a g s')(k:aa [a,g] w w'):cW w' l a g q t ⟨s',r.S⟩:=
 ⟨hs,k.blk h.lk (by simp[h.la,h.lg]),h.sp.turns k (by simp[h.qa,h.qg]),h.la,h.lg,h.lq,h.qa,h.qg,h.len⟩
def cW.drew{r:Rg}(h:cW w l a g q t r):cW w.drew l a g q t r:=h.turns (T:=[]) ((aa.refl _ _).drew) ahF ahF ahF ahF
def tK{S:List Sp}(h:S[n]? =some p):S.set n p=S:=by obtain⟨H,rfl⟩:=List.getElem?_eq_some_iff.1 h;simp
def yY(h:aB w a g s)(x v r:Int)(V:r=ldW s.W x)(Y:s.ops+1<=1000000000000):E 271 #[↑a,J x,J v] w (fg w a g (ch s x v) (J r)):=by rw[V];exact fu h x v Y
def j8(h:aB w a g s)(x r:Int)(V:r=ldW s.W x)(Y:s.ops+1<=1000000000000):E 173 #[↑a,J x] w (fg w a g (af s x) (J r)):=by rw[V];exact aD h x Y
def zO(h:aB w a g s)(x old v:Int)(b:Bool)(I:cG s x old=b)(Y:s.ops+1<=1000000000000):E 272 #[↑a,J x,J old,J v] w (fg w a g (dR s x old v) (.bool b)):=by rw[<-I];exact jb h x old v Y
def cW.put1{r:Rg}(h:cW w l a g q t r){j:Nat}{p':Sp}{u:Value}(V:r.S[n]? =some p)(O:j<4)(I:(bf p).set j u=bf p'):cW (w.setCell ⟨q,n*4+j,none⟩ u) l a g q t ⟨r.ar,r.S.set n p'⟩/\aa [q] w (w.setCell ⟨q,n*4+j,none⟩ u):=by have H:aa [q] w (w.setCell ⟨q,n*4+j,none⟩ u):=(aa.refl _ _).setCell (.inl ahF) _;exact⟨h.spot (h.sp.put V O I) ahF H,H⟩
def rgA(h:Q:=by
    go_wp2
    go_ret
    rw[HE.o]
    refine⟨rfl,?_,H1.o.2.mono ahF⟩
    dsimp only
    rw[tK HP.o]
    exact H1.o.1):Q:=h
def rgB(h:Q:=by
    go_wp2
    go_ret
    rw[HE.o]
    first
      | rw[if_pos HZ.o]
      | rw[if_neg HZ.o]
      | skip
    refine⟨rfl,?_,(H1.o.2.mono ahF).trans (HG.o.2.mono ahF)⟩
    first
      | exact HG.o.1
      | simpa using HG.o.1):Q:=h
def rgS(h:Q:=by
    simp only[List.take_succ_cons,List.take_zero,List.drop_succ_cons,List.drop_zero]
    change wpStill _ _ (World.drew _) _ _ _
    repeat still_step
    try still_call HC.o
    repeat still_step
    refine wpStill_nil ?_
    change wpList _ _ _ _ _ (World.drew w)
    go_wp2_with fail
    refine HO.o.mono ?_
    rintro en w1 ⟨rfl,h1,t1⟩
    have H1:=qh (And.intro (HD.o.ar_ h1 t1) (aa.trans ((aa.refl _ _).drew) t1))
    first
      | exact rgA
      | (have Li:=qh (HJ.o _ H1.o.1)
         have L2:=Li.o.1.put1 (n:=n) (j:=2) (u:= J 1) (p:=⟨6,1,pb,pz⟩) (p':=⟨6,1,1,pz⟩) aiR ahG rfl
         have HG:=qh (And.intro L2.1 (Li.o.2.trans L2.2))
         have Jr:=H1.o.1.sp
         have d1:=Jr.cell HP.o 1 _ rfl
         have d2:=Jr.cell HP.o 2 _ rfl
         have f1:=Jr.free (n*4+1)
         have f2:=Jr.free (n*4+2)
         clear h1 t1 Jr L2
         exact rgB)):Q:=h
def rgL(h:Q:=by
    go_region_held3 (λW=>W.cell? l=some ↑a/\Z W l 1 (J t))
      (first|exact⟨c0,c1⟩|exact⟨k0,k1⟩|exact hk.o _ _)
      (first
        | (go_at_call 271;go_loud (refine HO.o.mono ?_);rintro en w1 ⟨rfl,h1,t1⟩;have H1:=qh (And.intro (HD.o.ar_ h1 t1) (aa.trans ((aa.refl _ _).drew) t1));have k0:w1.cell? l=some ↑a:=H1.o.1.lk.cell 0;have k1:Z w1 l 1 (J t):=H1.o.1.lk.cell 1;have hk:Kq (∀(o:Nat) (u:Value),(w1.setCell ⟨q,o,none⟩ u).cell? l=some ↑a/\(w1.setCell ⟨q,o,none⟩ u).cell? ⟨l,1,none⟩=some (J t)):=qh λo u=>⟨(H1.o.1.lk.far (p:=⟨q,o,none⟩) H1.o.1.lq u).cell 0,(H1.o.1.lk.far (p:=⟨q,o,none⟩) H1.o.1.lq u).cell 1⟩;have d0:=H1.o.1.sp.cell HP.o 0 _ rfl;simp only[Nat.add_zero]at d0;have d1:=H1.o.1.sp.cell HP.o 1 _ rfl;have d2:=H1.o.1.sp.cell HP.o 2 _ rfl;have f1:=H1.o.1.sp.free (n*4+1);have f2:=H1.o.1.sp.free (n*4+2))
        | (go_at_call 173;go_loud (refine HO.o.mono ?_);rintro en w1 ⟨rfl,h1,t1⟩;have H1:=qh (And.intro (HD.o.ar_ h1 t1) (aa.trans ((aa.refl _ _).drew) t1));have k0:w1.cell? l=some ↑a:=H1.o.1.lk.cell 0;have k1:Z w1 l 1 (J t):=H1.o.1.lk.cell 1;have hk:Kq (∀(o:Nat) (u:Value),(w1.setCell ⟨q,o,none⟩ u).cell? l=some ↑a/\(w1.setCell ⟨q,o,none⟩ u).cell? ⟨l,1,none⟩=some (J t)):=qh λo u=>⟨(H1.o.1.lk.far (p:=⟨q,o,none⟩) H1.o.1.lq u).cell 0,(H1.o.1.lk.far (p:=⟨q,o,none⟩) H1.o.1.lq u).cell 1⟩;have d0:=H1.o.1.sp.cell HP.o 0 _ rfl;simp only[Nat.add_zero]at d0;have d1:=H1.o.1.sp.cell HP.o 1 _ rfl;have d2:=H1.o.1.sp.cell HP.o 2 _ rfl;have f1:=H1.o.1.sp.free (n*4+1);have f2:=H1.o.1.sp.free (n*4+2))
        | (go_at_call 270;go_loud (refine LT HC.o ?_))
        | (go_at_call 269;go_loud (refine LT HC.o ?_)))
    all_goals clear h1 t1
    have HG:=qh (HJ.o _ H1.o.1)
    cases hz:(v==0)
    . have HZ:Kq (¬v=0):=qh ah3
      exact rgB
    . have HZ:Kq (v=0):=qh ah3
      exact rgB):Q:=h
def Je(h:Q:=by
    go_region_held3 (λW=>W.cell? l=some ↑a/\Z W l 1 (J t))
      (first|exact⟨c0,c1⟩|exact⟨k0,k1⟩|exact hk.o _ _)
      (first
        | (go_at_call 173;go_loud (refine HO.o.mono ?_);rintro en w1 ⟨rfl,h1,t1⟩;have H1:=qh (And.intro (HD.o.ar_ h1 t1) (aa.trans ((aa.refl _ _).drew) t1));have k0:w1.cell? l=some ↑a:=H1.o.1.lk.cell 0;have k1:Z w1 l 1 (J t):=H1.o.1.lk.cell 1;have hk:Kq (∀(o:Nat) (u:Value),(w1.setCell ⟨q,o,none⟩ u).cell? l=some ↑a/\(w1.setCell ⟨q,o,none⟩ u).cell? ⟨l,1,none⟩=some (J t)):=qh λo u=>⟨(H1.o.1.lk.far (p:=⟨q,o,none⟩) H1.o.1.lq u).cell 0,(H1.o.1.lk.far (p:=⟨q,o,none⟩) H1.o.1.lq u).cell 1⟩;have d0:=H1.o.1.sp.cell HP.o 0 _ rfl;simp only[Nat.add_zero]at d0;have d1:=H1.o.1.sp.cell HP.o 1 _ rfl;have d2:=H1.o.1.sp.cell HP.o 2 _ rfl;have f1:=H1.o.1.sp.free (n*4+1);have f2:=H1.o.1.sp.free (n*4+2))
        | (go_at_call 270;go_loud (refine LT HC.o ?_)))
    all_goals clear h1 t1
    have Li:=qh (HJ.o _ H1.o.1)
    by_cases hz:0<v
    . have HZ:=qh hz
      have L2:=Li.o.1.put1 (n:=n) (j:=2) (u:= J 0) (p:=⟨5,v,pb,pz⟩) (p':=⟨5,v,0,pz⟩) aiR ahG rfl
      have HG:=qh (And.intro L2.1 (Li.o.2.trans L2.2))
      clear L2
      rw[if_pos hz]at HE
      exact rgB
    . by_cases hz2:v<0
      . have HG:=Li
        rw[if_neg hz,if_pos hz2]at HE
        exact rgB
      . have HG:=Li
        rw[if_neg hz,if_neg hz2]at HE
        exact rgB):Q:=h
section
variable{r:Rg}
def AY(h:cW w l a g q t r)(n:Nat)(p:Sp)(hp:r.S[n]? =some p)(x:Int)(Y:r.ar.ops+1<=1000000000000)(h1:1<=p.pc)(h6:p.pc<=6):E 266 #[↑l,pointer (some ⟨q,n*4,none⟩),J x] w (zp w l a g q t n r p (iN r.ar t x p)):=by
  have c0:w.cell? l=some ↑a:=h.lk.cell 0;have c1:Z w l 1 (J t):=h.lk.cell 1;refine ai1 ?_;intro a0 a1 a2 a3;have V:p.pc=1\/p.pc=2\/p.pc=3\/p.pc=4\/p.pc=5\/p.pc=6:=by omega
  have H:=qh h;have HD:=qh h.drew;have I:=qh hp;obtain⟨pc,pa,pb,pz⟩:=p;simp only at V a0 a1 a2 a3;clear h hp h1 h6;rcases V with rfl|rfl|rfl|rfl|rfl|rfl
  all_goals have HP:=qh I.o;clear I;go_enter func266,ntmps266;go_wp2
  . have HE:Kq (iN r.ar t x ⟨1,pa,pb,pz⟩=(ae r.ar (nxA t x) 0,⟨2,pa,pb,pz⟩)):=qh ahI;have HC:=qh (fO (jI HD.o x));have HO:=qh (am HD.o.ar (nxA t x) 0 Y);refine wp_region_still_tail 7 ahH ahH ?_;exact rgS
  . have HE:Kq (iN r.ar t x ⟨2,pa,pb,pz⟩=(ae r.ar (stA t x) 0,⟨3,pa,pb,pz⟩)):=qh ahI;have HC:=qh (fO (jP HD.o x));have HO:=qh (am HD.o.ar (stA t x) 0 Y);refine wp_region_still_tail 7 ahH ahH ?_;exact rgS
  . obtain⟨v,O⟩:∃v,v=ldW r.ar.W t:=⟨_,rfl⟩;have HE:Kq (iN r.ar t x ⟨3,pa,pb,pz⟩=(ch r.ar t x,⟨if v=0 then 6 else 4,v,pb,pz⟩)):=qh (by rw[O];rfl);have HO:=qh (yY HD.o.ar t x v O Y);have HJ:=qh (λW (h:cW W l a g q t ⟨ch r.ar t x,r.S⟩)=>h.put1 HP.o (j:=1) (u:= J v) (p':=⟨3,v,pb,pz⟩) ahG rfl);clear O;exact rgL
  . have HE:Kq (iN r.ar t x ⟨4,pa,pb,pz⟩=(ae r.ar (nxA t pa) x,⟨5,pa,pb,pz⟩)):=qh ahI;have HC:=qh (fO (jI HD.o pa));have HO:=qh (am HD.o.ar (nxA t pa) x Y);refine wp_region_still_tail 11 ahH ahH ?_;exact rgS
  . obtain⟨v,O⟩:∃v,v=ldW r.ar.W (stA t x):=⟨_,rfl⟩;have HE:Kq (iN r.ar t x ⟨5,pa,pb,pz⟩=(af r.ar (stA t x),if 0<v then⟨10,v,0,pz⟩else if v<0 then⟨6,v,pb,pz⟩else⟨5,v,pb,pz⟩)):=qh (by rw[O];rfl);have HC:=qh (jP HD.o x);have HO:=qh (j8 HD.o.ar (stA t x) v O Y);have HJ:=qh (λW (h:cW W l a g q t ⟨af r.ar (stA t x),r.S⟩)=>h.put1 HP.o (j:=1) (u:= J v) (p':=⟨5,v,pb,pz⟩) ahG rfl);clear O;exact Je
  . have HE:Kq (iN r.ar t x ⟨6,pa,pb,pz⟩=(ae r.ar (stA t x) 1,⟨10,1,1,pz⟩)):=qh ahI;have HC:=qh (fO (jP HD.o x));have HO:=qh (am HD.o.ar (stA t x) 1 Y);have HJ:=qh (λW (h:cW W l a g q t ⟨ae r.ar (stA t x) 1,r.S⟩)=>h.put1 HP.o (j:=1) (u:= J 1) (p':=⟨6,1,pb,pz⟩) ahG rfl);refine wp_region_still_tail 7 ahH ahH ?_;exact rgS
def DQ(h:cW w l a g q t r)(n:Nat)(p:Sp)(hp:r.S[n]? =some p)(x:Int)(Y:r.ar.ops+1<=1000000000000)(h1:11<=p.pc)(h6:p.pc<=16):E 267 #[↑l,pointer (some ⟨q,n*4,none⟩),J x] w (zp w l a g q t n r p (eB r.ar t x p)):=by
  have c0:w.cell? l=some ↑a:=h.lk.cell 0;have c1:Z w l 1 (J t):=h.lk.cell 1;refine ai1 ?_;intro a0 a1 a2 a3;have hq:p.pc=11\/p.pc=12\/p.pc=13\/p.pc=14\/p.pc=15\/p.pc=16:=by omega
  have H:=qh h;have HD:=qh h.drew;have V:=qh hp;obtain⟨pc,pa,pb,pz⟩:=p;simp only at hq a0 a1 a2 a3;clear h hp h1 h6;rcases hq with rfl|rfl|rfl|rfl|rfl|rfl
  all_goals have HP:=qh V.o;clear V;go_enter func267,ntmps267;go_wp2
  . obtain⟨v,O⟩:∃v,v=ldW r.ar.W (nxA t x):=⟨_,rfl⟩;have HE:Kq (eB r.ar t x ⟨11,pa,pb,pz⟩=(af r.ar (nxA t x),⟨if v=0 then 12 else 14,v,pb,pz⟩)):=qh aix;have HC:=qh (jI HD.o x);have HO:=qh (j8 HD.o.ar (nxA t x) v O Y);have HJ:=qh (λW (h:cW W l a g q t ⟨af r.ar (nxA t x),r.S⟩)=>h.put1 HP.o (j:=1) (u:= J v) (p':=⟨11,v,pb,pz⟩) ahG rfl);clear O;exact rgL
  . cases I:cG r.ar t x;all_goals have HE:Kq (eB r.ar t x ⟨12,pa,pb,pz⟩=(dR r.ar t x 0,⟨if cG r.ar t x then 0 else 13,pa,pb,pz⟩)):=qh rfl;rw[I]at HE;have HO:=qh (zO HD.o.ar t x 0 _ I Y);clear I;refine wp_region_still_tail 9 ahH ahH ?_;exact rgS
  . obtain⟨v,O⟩:∃v,v=ldW r.ar.W (nxA t x):=⟨_,rfl⟩;have HE:Kq (eB r.ar t x ⟨13,pa,pb,pz⟩=(af r.ar (nxA t x),⟨if v=0 then 13 else 14,v,pb,pz⟩)):=qh aix;have HC:=qh (jI HD.o x);have HO:=qh (j8 HD.o.ar (nxA t x) v O Y);have HJ:=qh (λW (h:cW W l a g q t ⟨af r.ar (nxA t x),r.S⟩)=>h.put1 HP.o (j:=1) (u:= J v) (p':=⟨13,v,pb,pz⟩) ahG rfl);clear O;exact rgL
  . have HE:Kq (eB r.ar t x ⟨14,pa,pb,pz⟩=(ae r.ar (stA t pa) pz,⟨0,pa,pb,pz⟩)):=qh ahI;have HC:=qh (fO (jP HD.o pa));have HO:=qh (am HD.o.ar (stA t pa) pz Y);refine wp_region_still_tail 14 ahH ahH ?_;exact rgS
  . obtain⟨v,O⟩:∃v,v=ldW r.ar.W (nxA t x):=⟨_,rfl⟩;have HE:Kq (eB r.ar t x ⟨15,pa,pb,pz⟩=(af r.ar (nxA t x),⟨if v=0 then 10 else 16,pa,v,pz⟩)):=qh aix;have HC:=qh (jI HD.o x);have HO:=qh (j8 HD.o.ar (nxA t x) v O Y);have HJ:=qh (λW (h:cW W l a g q t ⟨af r.ar (nxA t x),r.S⟩)=>h.put1 HP.o (j:=2) (u:= J v) (p':=⟨15,pa,v,pz⟩) ahG rfl);clear O;exact rgL
  . have HE:Kq (eB r.ar t x ⟨16,pa,pb,pz⟩=(ae r.ar (stA t pb) pz,⟨0,pa,pb,pz⟩)):=qh ahI;have HC:=qh (fO (jP HD.o pb));have HO:=qh (am HD.o.ar (stA t pb) pz Y);refine wp_region_still_tail 14 ahH ahH ?_;exact rgS
end
end
section
open Go.RowKit
def FK(p:Sp):Prop:=(0<=p.pc/\p.pc<=6)\/(10<=p.pc/\p.pc<=16)
def IV(w:World)(l a g q:Nat)(t:Int)(x:Rg×Bool)(e:Ending)(w':World):Prop:=e= returned (.bool x.2)/\cW w' l a g q t x.1/\aa [a,g,q] w w'
def Ce{r:Rg}(h:cW w l a g q t r)(i:Int)(Y:r.ar.ops+1<=1000000000000)(H':∀p∈r.S,FK p):E 259 #[↑l,J i] w (IV w l a g q t (mo r t i)):=by
  have KE:=aM;have H:=qh h;have J4:=h.len;obtain⟨p,hp⟩:=LE (getS r.S i);have HP:=qh hp;by_cases hc:okI r.S i/\p.pc≠0/\p.pc≠10
  . obtain⟨hi,I,ht⟩:=hc;have J3:=dG hi;rw[<-hp]at J3;have mP:=H' p (List.mem_of_getElem? J3);obtain⟨h0,h9⟩:=id hi;obtain⟨n,rfl⟩:=Int.eq_ofNat_of_zero_le h0;simp only[Int.toNat_natCast]at J3;have t0:(p.pc==0)=false:=(by simpa using I);have ab:(p.pc==10)=false:=(by simpa using ht);have hn:n<r.S.length:=(by omega);have Oy:(n:Int)<r.S.length:=(by omega);have hx:(n:Int)+1<=33:=by omega
    have O:Kq (mo r t n=(⟨(da r.ar t (n+1) p).1,r.S.set n (da r.ar t (n+1) p).2⟩,decide ((da r.ar t (n+1) p).2.pc=0\/(da r.ar t (n+1) p).2.pc=10))):=qh (by
      unfold mo
      rw[<-HP.o,if_pos ⟨hi,I,ht⟩];rfl)
    have HG:=qh (And.intro J3 hi);have HB:Kq ((1<=p.pc/\p.pc<=6)\/(11<=p.pc/\p.pc<=16)):=qh (by unfold FK at mP;omega);clear h hp I ht J3 h0 h9 hi H' mP;go_enter func259,ntmps259;go_wp2_with fail;refine Pi (oO H.o n) λw1 b1=>?_;rw[<-HP.o];unfold aF;have h1:=H.o.below b1;have H1:=qh (And.intro h1 b1);have c2:Z w1 l 2 (slice (some ⟨q,0,none⟩) r.S.length r.S.length):=h1.lk.cell 2;clear h1 b1;by_cases h10:p.pc<10
    all_goals
      go_wp2_with fail;first| refine(AY H1.o.1 n p HG.o.1 _ Y (by have:=HB.o;omega) (by have:=HB.o;omega)).mono ?_| refine(DQ H1.o.1 n p HG.o.1 _ Y (by have:=HB.o;omega) (by have:=HB.o;omega)).mono ?_
      rintro en w2 ⟨rfl,V,t2⟩;obtain⟨y,hy⟩:=LE (da r.ar t (n+1) p);have Qq:=hy;unfold da at Qq;first| rw[if_pos h10]at Qq| rw[if_neg ahE]at Qq
      rw[<-Qq]at V ⊢;rw[<-hy]at O;clear hy Qq;have KM:(r.S.set n {y.2 with pc:=p.pc})[n]? =some {y.2 with pc:=p.pc}:=(by simp[hn]);have d0:=ST (V.sp.cell KM 0 _ rfl);have f0:=V.sp.free (n*4);have hq:=V.sp.lt;have h3:=V.sp.put KM (j:=0) (u:= J y.2.pc) (p':=y.2) ahG rfl;simp only[Nat.add_zero,List.set_set]at h3;have Tw:aa [q] w2 (w2.setCell ⟨q,n*4,none⟩ (J y.2.pc)):=(aa.refl _ _).setCell (.inl ahF) _;have h4:=V.spot h3 ahF Tw;have H2:=qh (And.intro h4 (((aa.of_below H1.o.2).trans t2).trans (Tw.mono ahF)));clear V t2 KM h3 Tw h4;cases z0:(y.2.pc==0)
      . cases z1:(y.2.pc==10);. have HD:Kq (decide (y.2.pc=0\/y.2.pc=10)=false):=qh aih;go_wp2;go_ret;rw[O.o];exact⟨aA HD.o.symm,H2.o.1,H2.o.2⟩
        . have HD:Kq (decide (y.2.pc=0\/y.2.pc=10)=true):=qh aii;go_wp2;go_ret;rw[O.o];exact⟨aA HD.o.symm,H2.o.1,H2.o.2⟩
      . have HD:Kq (decide (y.2.pc=0\/y.2.pc=10)=true):=qh aij;go_wp2;go_ret;rw[O.o];exact⟨aA HD.o.symm,H2.o.1,H2.o.2⟩
  . have O:Kq (mo r t i=(r,false)):=qh (by unfold mo;rw[<-hp,if_neg hc])
    have I:p.pc=0\/p.pc=10:=by
      by_cases hi:okI r.S i
      . by_cases h0:p.pc=0;. exact .inl h0
        . by_cases h10:p.pc=10;. exact .inr h10
          . exact absurd ⟨hi,h0,h10⟩ hc
      . rw[hp,dz hi];exact .inl rfl
    clear h hp hc H';go_enter func259,ntmps259;go_wp2_with fail;refine Pi (oO H.o i) λw1 b1=>?_;refine ajA ?_;intro H1;clear b1;rcases I with I|I
    . have t0:(p.pc==0)=true:=(by rw[I];rfl);clear I;go_wp2;go_ret;rw[O.o];exact⟨rfl,H1.o.1,aa.of_below H1.o.2⟩
    . have t0:(p.pc==0)=false:=(by rw[I];rfl);have t1:(p.pc==10)=true:=(by rw[I];rfl);clear I;go_wp2;go_ret;rw[O.o];exact⟨rfl,H1.o.1,aa.of_below H1.o.2⟩
end
section
open Go.RowKit
theorem Tryz.infoSpR:(prog.info? 113).map (λi=>(i.zero,i.size,i.bytes))=some (some (agg #[J 0,J 0,J 0,J 0]),4,32):=by kernel_rfl
def lp(u:Value)(n:Nat):(madeCells #[u,u,u,u] n).toList=List.replicate n u:=by exact aaw
def oH(n:Nat):(List.replicate n Sp.zero).flatMap bf=List.replicate (n*4) (J 0):=by exact aax
def fT(s:Ar)(n:Int):Int:=if n<1\/32<n then 1 else if (s.room:Int)-s.W.length<2*n+1 then 3 else 0
def pH(w:World)(a g:Nat)(s:Ar)(n:Int)(e:Ending)(w':World):Prop:=
 if fT s n=0 then ∃l q,e= returned (tuple #[pointer (some ⟨l,0,none⟩),J 0])/\cW w' l a g q (s.W.length+1) ⟨{s with W:=s.W++List.replicate (2*n+1).toNat 0},List.replicate n.toNat Sp.zero⟩/\w.heap.size<=l/\w.heap.size<=q/\aa [a] w w'
 else e= returned (tuple #[.pointer none,J (fT s n)])/\aB w' a g s/\aa [a] w w'
def yy{s:Ar}(h:aB w a g s)(n:Int):E 141 #[↑a,J n] w (pH w a g s n):=by
  obtain⟨i0,hi,JF,JH,ab⟩:=info_parts Tryz.infoSpR;have H:=qh h;have Ow:=h.le;have NH:=h.room;clear h;by_cases O:n<1\/32<n
  . have Y:Kq (fT s n=1):=qh (by unfold fT;rw[if_pos O]);by_cases h1:n<1;. clear O;go_enter func141,ntmps141;go_wp2;go_ret2;unfold pH;rw[Y.o,if_neg ahG];exact⟨rfl,H.o,aa.refl _ _⟩
    . have h2:32<n:=(by omega);clear O;go_enter func141,ntmps141;go_wp2;go_ret2;unfold pH;rw[Y.o,if_neg ahG];exact⟨rfl,H.o,aa.refl _ _⟩
  . obtain⟨m,rfl⟩:=Int.eq_ofNat_of_zero_le (show 0<=n by omega);have h1:¬(m:Int)<1:=(by omega);have h2:¬32<(m:Int):=(by omega);have hm:m<=32:=(by omega);by_cases h3:(s.room:Int)-s.W.length<2*m+1;. have Y:Kq (fT s m=3):=qh (by unfold fT;rw[if_neg O,if_pos h3]);have HT:Kq (dX s (2*m+1)=(s,(0:Int),(3:Int))):=qh (by unfold dX;rw[if_neg ahE,if_pos h3]);clear O h3;go_enter func141,ntmps141;go_wp2_with fail;refine(gn H.o (2*m+1)).mono ?_;rintro en w1 ⟨rfl,V,t1⟩;rw[HT.o]at V ⊢;have H1:=qh (And.intro V t1);clear V t1;go_wp2;go_ret2;unfold pH;rw[Y.o,if_neg ahG];exact⟨rfl,H1.o.1,H1.o.2⟩
    . have Y:Kq (fT s m=0):=qh (by unfold fT;rw[if_neg O,if_neg h3]);have HT:Kq (dX s (2*m+1)=({s with W:=s.W++List.replicate (2*(m:Int)+1).toNat 0},(s.W.length:Int)+1,(0:Int))):=qh (by unfold dX;rw[if_neg ahE,if_neg h3]);clear O h3;go_enter func141,ntmps141;go_wp2_with fail;refine(gn H.o (2*m+1)).mono ?_;rintro en w1 ⟨rfl,V,t1⟩;rw[HT.o]at V ⊢;have H1:=qh (And.intro V t1);clear V t1;go_wp2_with (refine wpList_make_full _ rfl (.tmp 27) (.tmp 27) 237 rfl w1.heap.size 113 i0 (agg #[J 0,J 0,J 0,J 0]) 4 Tryz.underlying237 hi JF JH .i64 .i64 m m m rfl rfl rfl rfl ?b2 ?b3 (Nat.le_refl _) ?_);case b2=>rw[ab];omega
      case b3=>unfold maxLen;omega
      intro w2 r' hg;have I:dy w2 w1.heap.size (List.replicate m Sp.zero):=(by unfold dy;rw[oH];have:=fU r';have e:(madeCells #[Value.int .i64 0,J 0,J 0,J 0] (m*4)).toList=List.replicate (m*4) (J 0):=lp _ _;exact aa2);have t2:aa [] w1 w2:=aa.of_below ((Below.refl w1.heap.size w1).grown hg (Nat.le_refl _) (λj hj=>by cases hj));have Jx:=I.lt;have H2:=qh (And.intro I t2);clear r' hg I t2;go_wp2;go_ret2;unfold pH;rw[Y.o,if_pos rfl];have Ju:=H1.o.2.size;have Tv:=H2.o.2.size;have hk:=(H1.o.1.turns H2.o.2 ahF ahF);have ad:=hk.blk.lt;have Kz:=hk.wds.lt;have Q0:=H1.o.1.blk.lt;have Qb:=H1.o.1.wds.lt;refine⟨w2.heap.size,w1.heap.size,rfl,⟨?_,?_,?_,?_,?_,?_,?_,?_,?_⟩,?_,?_,?_⟩;. exact hk.turns (S:=[]) ((aa.refl _ _).alloc _) ahF ahF
      . have:=Blk.new w2 319 #[↑a,J (s.W.length+1),slice (some ⟨w1.heap.size,0,none⟩) m m];simpa using this
      . simpa using H2.o.1.turns (T:=[]) ((aa.refl _ _).alloc _) ahF
      all_goals (try simp only[List.length_replicate,Int.toNat_natCast])
      all_goals first
        | omega
        | exact(((H1.o.2.trans (H2.o.2.mono ahF)).alloc _))
def qe(s:Ar)(t x:Int)(p:Sp):(da s t x p).1.ops<=s.ops+1:=by
 unfold da iN eB ae ch af dR wrA;split
 .repeat' split
  all_goals exact fK _ _ _ _
 .repeat' split
  all_goals exact fK _ _ _ _
end
end Go.Proofs.YtglokdbiggbkjaaGreat
