/- Joined texts. -/
import Derived.Handy
import Derived.Test.YtglokdbiggbkjaaGreatMgLocksSafe0
import Derived.Test.YtglokdbiggbkjaaGreatMgLocksSafe1
import Derived.Test.YtglokdbiggbkjaaGreatMgLocksSafe4
import Derived.Test.YtglokdbiggbkjaaGreatMgLocksSafe5
import Derived.Test.YtglokdbiggbkjaaGreatMgLocksSafe9
import Derived.Test.YtglokdbiggbkjaaGreatMgLocksSafe10
set_option linter.unusedVariables false
set_option linter.unusedSimpArgs false
set_option maxRecDepth 100000
set_option maxHeartbeats 16000000
namespace Go.Proofs.YtglokdbiggbkjaaGreat
section
open Go.RowKit
def ifV (k l:Nat):Value:=
 match k with
 |1=> .iface 289 (.agg #[↑l])
 |2=> .iface 290 ↑l
 |3=> .iface 293 ↑l
 |4=> .iface 296 ↑l
 |_=> .iface 299 ↑l
structure di (w:World)(a g k:Nat)(x:Fx)(s:Ar)(S:List Sp):Prop where
 p:Blk w x.p 303 #[.int .i64 (k:Int),ifV k x.l]
 ki:KIs w a g k x s S
 pa:x.p≠a
 pg:x.p≠g
 pq:x.p≠x.q
def KOk (k:Nat):Prop:=k=1\/k=2\/k=3\/k=4\/k=5
theorem KOk.of{k:Nat}(h:1<=k/\k<=5):KOk k:=by unfold KOk;omega
theorem KOk.le{k:Nat}(h:KOk k):1<=k/\k<=5:=by unfold KOk at h;omega
def pcK (k:Nat)(p:Sp):Prop:=
 if k=4 then iG p else if k=5 then p.pc=0\/p.pc=1\/p.pc=2\/p.pc=3\/p.pc=10\/p.pc=11 else p.pc=0\/p.pc=1\/p.pc=2\/p.pc=10\/p.pc=11
section
variable{w w':World}{a g k:Nat}{x:Fx}{s s':Ar}{S S':List Sp}{T:List Nat}
theorem di.turns (h:di w a g k x s S)(t:aa T w w')(h0:x.p∉T)(h1:x.l∉T)(h2:a∉T)(h3:g∉T)(h4:x.q∉T):di w' a g k x s S:=
 {h with p:=t.blk h.p h0,ki:=h.ki.turns t h1 h2 h3 h4}
theorem di.below (h:di w a g k x s S)(t:Below w.heap.size w w'):di w' a g k x s S:=
 h.turns (T:=[]) (aa.of_below t) QY QY QY QY QY
theorem di.to (h:di w a g k x s S)(t:aa [a,g,x.q] w w')(h2:KIs w' a g k x s' S'):di w' a g k x s' S':=
 {h with p:=t.blk h.p (by simp[h.pa,h.pg,h.pq]),ki:=h2}
theorem di.oth (h:di w a g k x s S)(t:aa T w w')(ha:aA w' a g s')(h0:x.p∉T)(h1:x.l∉T)(h4:x.q∉T):di w' a g k x s' S:=
 {h with p:=t.blk h.p h0,ki:={h.ki with ar:=ha,lk:=t.blk h.ki.lk h1,sp:=h.ki.sp.turns t h4}}
theorem kP (h:di w a g k x s S)(hk:k≠0):Calls Tryz.prog 244 #[↑x.p] w λe w'=>e= .returned (.bool true)/\w=w':=by
 have c0:w.cell? x.p=some (.int .i64 (k:Int)):=h.p.cell 0;have u0:((k:Int) !=0)=true:=by simpa using hk
 clear h;go_enter Tryz.func244,Tryz.ntmps244;exact gs
theorem yu {B:Int} (h:KIs w a g 2 x s S) (C:kC 2 x s S B) (i:Nat) (p:Sp) (hp:S[i]? =some p) (hc:pcK 2 p):
    Calls Tryz.prog 418 #[↑x.l,.int .i64 i] w (dy w a g 2 x s S i p):=by
  have hb:=C.sp hp;have ho:=C.ops;have hB:=C.B1;have hB0:=C.B0;have hl:=C.w.ld QX x.t;have hc2:p.pc=0\/p.pc=1\/p.pc=2\/p.pc=10\/p.pc=11:=hc;obtain⟨pc,u,b,z⟩:=p;have a0:=hb.a0;have a1:=hb.a1;simp only at hc2 a0 a1;rcases hc2 with rfl|rfl|rfl|rfl|rfl
  · exact oF h i _ hp (.inl rfl)
  · exact uQ h i u b z hp ho C.inr hl.1 QX
  · exact uR h i u b z hp ho
  · exact oF h i _ hp (.inr rfl)
  · exact sS h i u b z hp ho QX QX
theorem yt {B:Int} (h:KIs w a g 1 x s S) (C:kC 1 x s S B) (i:Nat) (p:Sp) (hp:S[i]? =some p) (hc:pcK 1 p):
    Calls Tryz.prog 410 #[↑x.l,.int .i64 i] w (dy w a g 1 x s S i p):=by
  have hb:=C.sp hp;have ho:=C.ops;have hB:=C.B1;have hc2:p.pc=0\/p.pc=1\/p.pc=2\/p.pc=10\/p.pc=11:=hc;obtain⟨pc,u,b,z⟩:=p;have a0:=hb.a0;have a1:=hb.a1;have b0:=hb.b0;have b1:=hb.b1;simp only at hc2 a0 a1 b0 b1;rcases hc2 with rfl|rfl|rfl|rfl|rfl
  · exact pU h i _ hp (.inl rfl)
  · exact yq h i u b z hp ho a0 QX
  · exact yr h i u b z hp QX QX
  · exact pU h i _ hp (.inr rfl)
  · exact uP h i u b z hp ho
theorem yp {B:Int} (h:KIs w a g 3 x s S) (C:kC 3 x s S B) (i:Nat) (p:Sp) (hp:S[i]? =some p) (hc:pcK 3 p):
    Calls Tryz.prog 430 #[↑x.l,.int .i64 i] w (dy w a g 3 x s S i p):=by
  have hb:=C.sp hp;have ho:=C.ops;have hB:=C.B1;have hB0:=C.B0;have hl:=C.w.ld QX x.t;have hc2:p.pc=0\/p.pc=1\/p.pc=2\/p.pc=10\/p.pc=11:=hc;obtain⟨pc,u,b,z⟩:=p;have a0:=hb.a0;have a1:=hb.a1;simp only at hc2 a0 a1;rcases hc2 with rfl|rfl|rfl|rfl|rfl
  · exact oE h i _ hp (.inl rfl)
  · exact uN h i u b z hp ho C.inr hl.1 QX
  · exact uO h i u b z hp ho ⟨a0,by omega⟩
  · exact oE h i _ hp (.inr rfl)
  · exact sR h i u b z hp ho ⟨a0,by omega⟩
theorem Bv {B:Int} (h:KIs w a g 5 x s S) (C:kC 5 x s S B) (i:Nat) (p:Sp) (hp:S[i]? =some p) (hc:pcK 5 p):
    Calls Tryz.prog 454 #[↑x.l,.int .i64 i] w (dy w a g 5 x s S i p):=by
  have hb:=C.sp hp;have ho:=C.ops;have hB:=C.B1;have hc2:p.pc=0\/p.pc=1\/p.pc=2\/p.pc=3\/p.pc=10\/p.pc=11:=hc;obtain⟨pc,u,b,z⟩:=p;have a0:=hb.a0;have a1:=hb.a1;have b1:=hb.b1;have b2:=hb.b2 QZ;simp only at hc2 a0 a1 b1 b2;rcases hc2 with rfl|rfl|rfl|rfl|rfl|rfl
  · exact pT h i _ hp (.inl rfl)
  · exact ym h i u b z hp ho ⟨a0,by omega⟩
  · exact yn h i u b z hp ho ⟨a0,by omega⟩
  · exact yo h i u b z hp ho ⟨b2,by omega⟩
  · exact pT h i _ hp (.inr rfl)
  · exact uM h i u b z hp ho ⟨a0,by omega⟩
theorem rj (h:KIs w a g 2 x s S)(i:Nat)(p:Sp)(hp:S[i]? =some p):Calls Tryz.prog 417 #[↑x.l,.int .i64 i] w λe w'=>e= .returned (aE p)/\Below w.heap.size w w':=by have b1:=(Below.refl w.heap.size w).alloc (Nat.le_refl _) (.cells #[.int .i64 0,.int .i64 0,.int .i64 0,.int .i64 0] 113);have h1:=h.below b1;have HS:=qh (dZ .ticket h1 i p hp);have HB:=qh b1;clear h h1 hp b1;go_enter Tryz.func417,Tryz.ntmps417;go_wp2_with (go_at_call 419;refine(ed _ _).mono ?_;rintro e w' ⟨rfl,rfl⟩);go_wp2_with fail;refine HS.o.mono ?_;rintro en w2 ⟨rfl,b2⟩;exact qU
def yL (w:World)(a g k:Nat)(x:Fx)(s:Ar)(S:List Sp)(i:Nat)(p:Sp)(e:Ending)(w':World):Prop:=
 e= .returned (.bool (bf p (bG k x.t x.m s i p).2))/\di w' a g k x (bG k x.t x.m s i p).1 (S.set i (bG k x.t x.m s i p).2)/\aa [a,g,x.q] w w'
def DX (w:World)(a g k:Nat)(x:Fx)(s:Ar)(S:List Sp)(i:Nat)(p:Sp)(e:Ending)(w':World):Prop:=
 e= .returned (.bool (ch k x.t s i p).2)/\di w' a g k x (ch k x.t s i p).1 S/\aa [a,g,x.q] w w'
theorem iw {P:Prop} (h:P:=by
    unfold ifV at c1
    clear h hp
    first
      | go_enter Tryz.func241,Tryz.ntmps241
      | go_enter Tryz.func248,Tryz.ntmps248
      | go_enter Tryz.func245,Tryz.ntmps245
      | go_enter Tryz.func247,Tryz.ntmps247
    go_wp2_with fail
    refine HM.o.mono ?_
    rintro en w1 ⟨rfl,rfl⟩
    go_wp2_with fail
    refine H2.o.mono ?_
    rintro en w2 ⟨rfl,k2,t2⟩
    have H3:=qh (And.intro k2 t2)
    clear k2 t2
    go_wp2
    go_ret
    first
      | exact⟨rfl,H.o.to H3.o.2 H3.o.1,H3.o.2⟩
      | exact⟨rfl,H.o.to (aG H3.o.2) H3.o.1,H3.o.2⟩):P:=h
theorem tW (h:di w a g k x s S) (hk:KOk k) (i:Nat) (p:Sp) (hp:S[i]? =some p):
    Calls Tryz.prog 241 #[↑x.p,.int .i64 i] w λe w'=>e= .returned (.bool (decide (p.pc=0)))/\di w' a g k x s (S.set i (askK k p))/\aa [x.q] w w':=by
  have HM:=qh (kP h RD);have c1:w.cell? ⟨x.p,1,none⟩=some (ifV k x.l):=h.p.cell 1;have H:=qh h;rcases hk with rfl|rfl|rfl|rfl|rfl
  · have H2:=qh (BU h.ki i p hp);exact iw
  · have H2:=qh (tB h.ki i p hp);exact iw
  · have H2:=qh (tz .parted h.ki i p hp);exact iw
  · have H2:=qh (tz .mcs h.ki i p hp);exact iw
  · have H2:=qh (tz .clh h.ki i p hp);exact iw
theorem nJ (h:di w a g k x s S) (hk:KOk k) (i:Nat) (p:Sp) (hp:S[i]? =some p):
    Calls Tryz.prog 248 #[↑x.p,.int .i64 i] w λe w'=>e= .returned (.bool (decide (p.pc=10)))/\di w' a g k x s (S.set i (be p))/\aa [x.q] w w':=by
  have HM:=qh (kP h RD);have c1:w.cell? ⟨x.p,1,none⟩=some (ifV k x.l):=h.p.cell 1;have H:=qh h;rcases hk with rfl|rfl|rfl|rfl|rfl
  · have H2:=qh (xG h.ki i p hp);exact iw
  · have H2:=qh (qx h.ki i p hp);exact iw
  · have H2:=qh (nO .parted h.ki i p hp);exact iw
  · have H2:=qh (nO .mcs h.ki i p hp);exact iw
  · have H2:=qh (nO .clh h.ki i p hp);exact iw
theorem qi (h:di w a g k x s S) (hk:KOk k) (i:Nat) (p:Sp) (hp:S[i]? =some p) {B:Int} (C:kC k x s S B) (hc:pcK k p):
    Calls Tryz.prog 245 #[↑x.p,.int .i64 i] w (yL w a g k x s S i p):=by
  have HM:=qh (kP h RD);have c1:w.cell? ⟨x.p,1,none⟩=some (ifV k x.l):=h.p.cell 1;have H:=qh h;rcases hk with rfl|rfl|rfl|rfl|rfl
  · have H2:=qh (yt h.ki C i p hp hc);exact iw
  · have H2:=qh (yu h.ki C i p hp hc);exact iw
  · have H2:=qh (yp h.ki C i p hp hc);exact iw
  · have H2:=qh (Bw h.ki C i p hp hc);exact iw
  · have H2:=qh (Bv h.ki C i p hp hc);exact iw
theorem zU (h:di w a g k x s S) (hk:KOk k) (i:Nat) (p:Sp) (hp:S[i]? =some p) {B:Int} (C:kC k x s S B) (hc:p.pc=10):
    Calls Tryz.prog 247 #[↑x.p,.int .i64 i] w (DX w a g k x s S i p):=by
  have HM:=qh (kP h RD);have c1:w.cell? ⟨x.p,1,none⟩=some (ifV k x.l):=h.p.cell 1;have H:=qh h;rcases hk with rfl|rfl|rfl|rfl|rfl
  · have H2:=qh (tv h.ki i p hp hc);exact iw
  · have H2:=qh (tx h.ki i p hp hc C.ops (by have:=(C.sp hp).a0;omega) (by have:=(C.sp hp).a1;have:=C.B1;omega));exact iw
  · have H2:=qh (p4 h.ki i p hp hc C.ops ⟨(C.sp hp).a0,by have:=(C.sp hp).a1;have:=C.B1;omega⟩);exact iw
  · have H2:=qh (wN h.ki i p hp hc C.ops);exact iw
  · have H2:=qh (wM h.ki i p hp hc C.ops);exact iw
theorem zT {P:Prop} (h:P:=by
    unfold ifV at c1
    clear h h1 hp b1
    go_enter Tryz.func360,Tryz.ntmps360
    go_wp2_with fail
    refine HM.o.mono ?_
    rintro en w1 ⟨rfl,rfl⟩
    go_wp2_with fail
    refine HS.o.mono ?_
    rintro en w2 ⟨rfl,b2⟩
    exact qU):P:=h
theorem vC (h:di w a g k x s S) (hk:KOk k) (i:Nat) (p:Sp) (hp:S[i]? =some p):
    Calls Tryz.prog 360 #[↑x.p,.int .i64 i] w λe w'=>e= .returned (aE p)/\Below w.heap.size w w':=by
  have hx:=h.p.lt;have b1:=(Below.refl w.heap.size w).alloc (Nat.le_refl _) (.cells #[.int .i64 0,.int .i64 0,.int .i64 0,.int .i64 0] 113);have h1:=h.below b1;have c1:(w.alloc (.cells #[.int .i64 0,.int .i64 0,.int .i64 0,.int .i64 0] 113)).cell? ⟨x.p,1,none⟩=some (ifV k x.l):=h1.p.cell 1;have HM:=qh (kP h1 RD);have HB:=qh b1;rcases hk with rfl|rfl|rfl|rfl|rfl
  · have HS:=qh (dZ .tas h1.ki i p hp);exact zT
  · have HS:=qh (rj h1.ki i p hp);exact zT
  · have HS:=qh (dZ .parted h1.ki i p hp);exact zT
  · have HS:=qh (dZ .mcs h1.ki i p hp);exact zT
  · have HS:=qh (dZ .clh h1.ki i p hp);exact zT
end
end
section
open Go
def db (p q:Sp):Prop:=
 (p.pc=0/\q.pc=0)\/(p.pc=1/\0<q.pc/\q.pc<10)\/
  ((p.pc=2\/p.pc=3\/p.pc=4\/p.pc=10\/p.pc=11\/p.pc=12\/p.pc=13\/p.pc=14\/p.pc=15)/\q.pc=10)\/(p.pc=16/\10<q.pc)
theorem jG {k:Nat} {t m:Int} {s:Ar} {i:Int} {p:Sp} (hk:1<=k/\k<=5) (hc:pcK k p):
    pcK k (bG k t m s i p).2/\(0<p.pc->p.pc<10->0<(bG k t m s i p).2.pc/\(bG k t m s i p).2.pc<=10)/\(10<p.pc->(bG k t m s i p).2.pc=0\/10<(bG k t m s i p).2.pc):=by
  unfold bG;split;· rename_i h1;subst h1;obtain⟨pc,u,b,z⟩:=p;simp only[pcK,iG,reduceIte,show ¬(1=4)by decide,show ¬(1=5)by decide]at hc ⊢;unfold uT;rcases hc with rfl|rfl|rfl|rfl|rfl<;>simp<;>split<;>simp<;>omega
  split;· rename_i h1;subst h1;obtain⟨pc,u,b,z⟩:=p;simp only[pcK,iG,reduceIte,show ¬(2=4)by decide,show ¬(2=5)by decide]at hc ⊢;unfold oM;rcases hc with rfl|rfl|rfl|rfl|rfl<;>simp<;>split<;>simp<;>omega
  split;· rename_i h1;subst h1;obtain⟨pc,u,b,z⟩:=p;simp only[pcK,iG,reduceIte,show ¬(3=4)by decide,show ¬(3=5)by decide]at hc ⊢;unfold oj;rcases hc with rfl|rfl|rfl|rfl|rfl<;>simp<;>split<;>simp<;>omega
  split
  · rename_i h1;subst h1;obtain⟨pc,u,b,z⟩:=p;simp only[pcK,iG,reduceIte]at hc ⊢;unfold lM;split;· unfold eB;(repeat' split)<;>simp_all<;>omega
    split;· unfold dF;(repeat' split)<;>simp_all<;>omega
    · simp only;omega
  · obtain rfl:k=5:=by omega
    obtain⟨pc,u,b,z⟩:=p;simp only[pcK,iG,reduceIte,show ¬(5=4)by decide]at hc ⊢;unfold tL;rcases hc with rfl|rfl|rfl|rfl|rfl|rfl<;>simp<;>split<;>simp<;>omega
theorem p7{p p':Sp}(h0:0<p.pc)(h1:p.pc<10)(h2:0<p'.pc):bf p p'=decide (p'.pc=10):=by
 unfold bf;have:¬p.pc=0:=by omega
 have:¬p.pc=10:=by omega
 have:¬p'.pc=0:=by omega
 simp[*]
theorem mY{p p':Sp}(h0:10<p.pc)(h2:p'.pc=0\/10<p'.pc):bf p p'=decide (p'.pc=0):=by
 unfold bf;have:¬p.pc=0:=by omega
 have:¬p.pc=10:=by omega
 have:¬p'.pc=10:=by omega
 simp[*]
theorem mz{k:Nat}{p:Sp}(h:p.pc=0):(askK k p).pc=1:=by unfold askK;rw[if_pos h];split<;>rfl
theorem lJ{p:Sp}(h:p.pc=10):(be p).pc=11:=by unfold be;rw[if_pos h]
theorem mU{k:Nat}{p:Sp}(hc:pcK k p):pcK k (askK k p):=by
 by_cases h:p.pc=0;·have e:=mz (k:=k) h;unfold pcK iG;rw[e];exact IU
 ·unfold askK;rw[if_neg h];exact hc
theorem i9{k:Nat}{p:Sp}(hc:pcK k p):pcK k (be p):=by
 by_cases h:p.pc=10;·have e:=lJ h;unfold pcK iG;rw[e];exact IU
 ·unfold be;rw[if_neg h];exact hc
section
variable (c:CoC)(st:Co)(i:Nat)(u b z:Int)
theorem mv1:cO c st i ⟨1,u,b,z⟩=((stL c st i).1,st.G,setL c st i (stL c st i).2,if lj c st i then⟨2,u,b,z⟩else⟨1,u,b,z⟩):=rfl
theorem mv2:cO c st i ⟨2,u,b,z⟩=if 0<ldW st.s.W (c.cw (c.node i))then(ae st.s (c.cw (c.node i)),st.G,st.L,⟨10,ldW st.s.W (c.cw (c.node i)),b,z⟩)
    else(ae st.s (c.cw (c.node i)),st.G.set (c.node i) (askK c.kg (sv st.G (c.node i))),st.L,⟨3,ldW st.s.W (c.cw (c.node i)),b,z⟩):=rfl
theorem mv3:cO c st i ⟨3,u,b,z⟩=((stG c st i).1,st.G.set (c.node i) (stG c st i).2,st.L,if mX c st i then⟨4,u,b,z⟩else⟨3,u,b,z⟩):=rfl
theorem mv4:cO c st i ⟨4,u,b,z⟩=(ac st.s (c.cw (c.node i)) 1,st.G,st.L,⟨10,1,b,z⟩):=rfl
theorem EP:cO c st i ⟨11,u,b,z⟩=(ae st.s (c.cw (c.node i)),st.G,st.L,⟨if c.bud<ldW st.s.W (c.cw (c.node i))then 14 else 12,ldW st.s.W (c.cw (c.node i)),b,z⟩):=rfl
theorem EQ:cO c st i ⟨12,u,b,z⟩=((ch c.kl (c.tl (c.node i)) st.s (c.slot i) (lsp st.L (c.node i) (c.slot i))).1,st.G,st.L,
    ⟨if mn u c.bud (ch c.kl (c.tl (c.node i)) st.s (c.slot i) (lsp st.L (c.node i) (c.slot i))).2 then 13 else 14,u,b,z⟩):=rfl
theorem ER:cO c st i ⟨13,u,b,z⟩=(ac st.s (c.cw (c.node i)) (u+1),st.G,setL c st i (be (lsp st.L (c.node i) (c.slot i))),⟨16,u,b,z⟩):=rfl
theorem ES:cO c st i ⟨14,u,b,z⟩=(ac st.s (c.cw (c.node i)) 0,st.G.set (c.node i) (be (sv st.G (c.node i))),st.L,⟨15,u,b,z⟩):=rfl
theorem ET:cO c st i ⟨15,u,b,z⟩=if mX c st i then((stG c st i).1,st.G.set (c.node i) (stG c st i).2,setL c st i (be (lsp st.L (c.node i) (c.slot i))),⟨16,u,b,z⟩)
    else((stG c st i).1,st.G.set (c.node i) (stG c st i).2,st.L,⟨15,u,b,z⟩):=rfl
theorem EU:cO c st i ⟨16,u,b,z⟩=((stL c st i).1,st.G,setL c st i (stL c st i).2,if lj c st i then⟨0,u,b,z⟩else⟨16,u,b,z⟩):=rfl
end
structure CoV (c:CoC)(n:Nat)(st:Co):Prop where
 g:∀p∈st.G,pcK c.kg p
 l:∀x∈st.L,∀p∈x,pcK c.kl p
 k:∀i,i<n->db (sv st.T i) (lsp st.L (c.node i) (c.slot i))
 lT:n<=st.T.length
 lG:∀i,i<n->c.node i<st.G.length
 lL:∀i,i<n->c.node i<st.L.length/\c.slot i<(st.L.getD (c.node i) []).length
def Inj (c:CoC)(n:Nat):Prop:=∀i j,i<n->j<n->c.node i=c.node j->c.slot i=c.slot j->i=j
theorem sh{L:List (List Sp)}{n i:Nat}{p:Sp}(hn:n<L.length)(hi:i<(L.getD n []).length)(m j:Nat):lsp (js L n i p) m j=if n=m/\i=j then p else lsp L m j:=by
 unfold lsp js;rw[List.getD_eq_getElem?_getD (l:=L.set _ _),List.getElem?_set];by_cases h1:n=m
 ·subst h1;rw[if_pos rfl,if_pos hn];show(List.set _ _ _).getD _ _=_;rw[List.getD_eq_getElem?_getD,List.getElem?_set];by_cases h2:i=j;·subst h2;rw[if_pos rfl,if_pos hi,if_pos ⟨rfl,rfl⟩];rfl
  ·rw[if_neg h2,if_neg (λh=>h2 h.2),List.getD_eq_getElem?_getD (l:=L.getD n [])]
 ·rw[if_neg h1,if_neg (λh=>h1 h.1),List.getD_eq_getElem?_getD (l:=L)]
theorem nU (L:List (List Sp))(n i:Nat)(p:Sp)(m:Nat):((js L n i p).getD m []).length=(L.getD m []).length/\(js L n i p).length=L.length:=by
 refine⟨?_,by unfold js;simp⟩;unfold js;rw[List.getD_eq_getElem?_getD,List.getElem?_set];by_cases h1:n=m
 ·subst h1;rw[if_pos rfl];split;·simp
  ·rename_i h;rw[List.getD_eq_getElem?_getD,List.getElem?_eq_none QX]
 ·rw[if_neg h1,List.getD_eq_getElem?_getD]
section
variable{c:CoC}{n:Nat}{st:Co}
theorem CoV.lpc (h:CoV c n st){i:Nat}(hi:i<n):pcK c.kl (lsp st.L (c.node i) (c.slot i)):=by
 obtain⟨h1,h2⟩:=h.lL i hi;have e1:st.L.getD (c.node i) []∈st.L:=by exact IV
 have e2:lsp st.L (c.node i) (c.slot i)∈st.L.getD (c.node i) []:=by unfold lsp;rw[List.getD_eq_getElem?_getD (l:=st.L.getD _ _),List.getElem?_eq_getElem h2];exact List.getElem_mem h2
 exact h.l _ e1 _ e2
theorem CoV.gpc (h:CoV c n st){i:Nat}(hi:i<n):pcK c.kg (sv st.G (c.node i)):=by have h1:=h.lG i hi;refine h.g _ ?_;unfold sv;exact IV
theorem CoV.thr (h:CoV c n st) (hI:Inj c n) {i:Nat} (hi:i<n) {t q:Sp} (hl:db t q) (j:Nat) (hj:j<n) (L':List (List Sp)) (hL:lsp L' (c.node i) (c.slot i)=q)
    (ho:∀m s,¬(c.node i=m/\c.slot i=s)->lsp L' m s=lsp st.L m s):db (sv (st.T.set i t) j) (lsp L' (c.node j) (c.slot j)):=by
  rw[cD];by_cases e:i=j;· subst e;rw[if_pos ⟨rfl,by have:=h.lT;omega⟩,hL];exact hl
  · rw[if_neg (λk=>e k.1),ho _ _ (λk=>e (hI i j hi hj k.1 k.2))];exact h.k j hj
theorem CoV.upd (h:CoV c n st)(hI:Inj c n){i:Nat}(hi:i<n)(s':Ar){G':List Sp}(hG:∀p∈G',pcK c.kg p)(hGl:G'.length=st.G.length){q t:Sp}(hq:pcK c.kl q)(hl:db t q):CoV c n ⟨s',G',setL c st i q,st.T.set i t⟩:=by
 obtain⟨h1,h2⟩:=h.lL i hi;refine⟨hG,?_,λj hj=>h.thr hI hi hl j hj _ ?_ ?_,by simpa using h.lT,λj hj=>by rw[hGl];exact h.lG j hj,λj hj=>?_⟩;·exact eb h.l _ (eb (h.l _ (by rw[List.getD_eq_getElem?_getD,List.getElem?_eq_getElem h1];exact List.getElem_mem h1)) _ hq)
 ·unfold setL;rw[sh h1 h2,if_pos ⟨rfl,rfl⟩]
 ·intro m s hn;unfold setL;rw[sh h1 h2,if_neg hn]
 ·unfold setL;rw[(nU _ _ _ _ _).1,(nU _ _ _ _ 0).2];exact h.lL j hj
theorem CoV.upd0 (h:CoV c n st)(hI:Inj c n){i:Nat}(hi:i<n)(s':Ar){G':List Sp}(hG:∀p∈G',pcK c.kg p)(hGl:G'.length=st.G.length){t:Sp}(hl:db t (lsp st.L (c.node i) (c.slot i))):CoV c n ⟨s',G',st.L,st.T.set i t⟩:=
 ⟨hG,h.l,λj hj=>h.thr hI hi hl j hj _ rfl (λ_ _ _=>rfl),by simpa using h.lT,λj hj=>by rw[hGl];exact h.lG j hj,h.lL⟩
theorem rF (h:CoV c n st)(hI:Inj c n)(hk:(1<=c.kg/\c.kg<=5)/\1<=c.kl/\c.kl<=5){i:Nat}(hi:i<n):CoV c n (ak c st i):=by
 have hlk:=h.k i hi;have hq:=h.lpc hi;have hg:=h.gpc hi;have sL:=jG (t:=c.tl (c.node i)) (m:=c.m) (s:=st.s) (i:=(c.slot i:Int)) hk.2 hq;have sG:=jG (t:=c.tg) (m:=c.m) (s:=st.s) (i:=(c.node i:Int)) hk.1 hg;have hGl:∀q:Sp,(st.G.set (c.node i) q).length=st.G.length:=λq=>by simp
 have hGs:∀q:Sp,pcK c.kg q->∀p∈st.G.set (c.node i) q,pcK c.kg p:=λq hq=>eb h.g _ hq;unfold ak;split;·exact h
 rename_i hne;obtain⟨p,hp⟩:∃p,p=sv st.T i:=⟨_,rfl⟩;rw[<-hp]at hlk hne ⊢;obtain⟨q,hqq⟩:∃q,q=lsp st.L (c.node i) (c.slot i):=⟨_,rfl⟩;have hc:p.pc=1\/p.pc=2\/p.pc=3\/p.pc=4\/p.pc=11\/p.pc=12\/p.pc=13\/p.pc=14\/p.pc=15\/p.pc=16:=by unfold db at hlk;omega
 obtain⟨pc,u,b,z⟩:=p;simp only at hc;have hL10:pc≠0->pc≠1->pc≠16->(lsp st.L (c.node i) (c.slot i)).pc=10:=λa0 a1 a2=>by unfold db at hlk;simp only at hlk;omega
 have lk:∀t:Sp,(t.pc=2\/t.pc=3\/t.pc=4\/t.pc=10\/t.pc=11\/t.pc=12\/t.pc=13\/t.pc=14\/t.pc=15)->∀q:Sp,q.pc=10->db t q:=λt ht q hq=> .inr (.inr (.inl ⟨ht,hq⟩))
 have lk16:∀t:Sp,t.pc=16->db t (be (lsp st.L (c.node i) (c.slot i)))\/(lsp st.L (c.node i) (c.slot i)).pc≠10:=λt ht=>by
  by_cases e:(lsp st.L (c.node i) (c.slot i)).pc=10;·left;exact .inr (.inr (.inr ⟨ht,by rw[lJ e];decide⟩))
  ·right;exact e
 have l16:∀t:Sp,t.pc=16->(lsp st.L (c.node i) (c.slot i)).pc=10->db t (be (lsp st.L (c.node i) (c.slot i))):=λt ht e=>(lk16 t ht).resolve_right (λk=>k e);rcases hc with rfl|rfl|rfl|rfl|rfl|rfl|rfl|rfl|rfl|rfl
 ·have hb:0<(lsp st.L (c.node i) (c.slot i)).pc/\(lsp st.L (c.node i) (c.slot i)).pc<10:=by unfold db at hlk;simp only at hlk;omega
  have s2:=sL.2.1 hb.1 hb.2;have ec:lj c st i=decide ((stL c st i).2.pc=10):=p7 hb.1 hb.2 s2.1;rw[mv1];refine h.upd hI hi _ h.g rfl sL.1 ?_;show db (if lj c st i then _ else _) _;rw[ec];split;·rename_i e;exact lk _ (.inl rfl) _ Rf
  ·rename_i e;refine .inr (.inl ⟨rfl,s2.1,?_⟩);have:¬(stL c st i).2.pc=10:=(by simpa using e);have:=s2.2;show(stL c st i).2.pc<10;unfold stL at *;omega
 ·rw[mv2];split;·exact IW
  ·exact h.upd0 hI hi _ (hGs _ (mU hg)) (hGl _) (lk _ QY _ (hL10 QZ QZ QZ))
 ·rw[mv3];refine h.upd0 hI hi _ (hGs _ sG.1) (hGl _) ?_;show db (if mX c st i then _ else _) _;split<;>exact lk _ QY _ (hL10 QZ QZ QZ)
 ·rw[mv4];exact IW
 ·rw[EP];exact IX
 ·rw[EQ];exact IX
 ·rw[ER];exact h.upd hI hi _ h.g rfl (i9 hq) (l16 _ rfl (hL10 QZ QZ QZ))
 ·rw[ES];exact h.upd0 hI hi _ (hGs _ (i9 hg)) (hGl _) (lk _ QY _ (hL10 QZ QZ QZ))
 ·rw[ET];split;·exact h.upd hI hi _ (hGs _ sG.1) (hGl _) (i9 hq) (l16 _ rfl (hL10 QZ QZ QZ))
  ·exact h.upd0 hI hi _ (hGs _ sG.1) (hGl _) (lk _ QY _ (hL10 QZ QZ QZ))
 ·have hb:10<(lsp st.L (c.node i) (c.slot i)).pc:=by unfold db at hlk;simp only at hlk;omega
  have s2:=sL.2.2 hb;have ec:lj c st i=decide ((stL c st i).2.pc=0):=mY hb s2;rw[EU];refine h.upd hI hi _ h.g rfl sL.1 ?_;show db (if lj c st i then _ else _) _;rw[ec];split;·rename_i e;exact .inl ⟨rfl,by simpa using e⟩
  ·rename_i e;refine .inr (.inr (.inr ⟨rfl,?_⟩));have:¬(stL c st i).2.pc=0:=(by simpa using e);show 10<(stL c st i).2.pc;unfold stL at *;omega
theorem vu (h:CoV c n st)(hI:Inj c n){i:Nat}(hi:i<n):CoV c n (bD c st i):=by
 unfold bD;split
 ·rename_i e;have hlk:=h.k i hi;have hq0:(lsp st.L (c.node i) (c.slot i)).pc=0:=by unfold db at hlk;omega
  exact h.upd hI hi _ h.g rfl (mU (h.lpc hi)) (.inr (.inl ⟨rfl,by rw[mz hq0];decide,by rw[mz hq0];decide⟩))
 ·exact h
theorem px (h:CoV c n st)(hI:Inj c n){i:Nat}(hi:i<n):CoV c n (ay st i):=by
 unfold ay;split;·rename_i e;have hlk:=h.k i hi;exact h.upd0 hI hi _ h.g rfl (.inr (.inr (.inl ⟨by simp,by unfold db at hlk;omega⟩)))
 ·exact h
end
end
section
open Go
def ez (s s':Ar):Prop:=s'.ops<=s.ops+1/\s'.W.length=s.W.length
theorem ez.refl (s:Ar):ez s s:=⟨by omega,rfl⟩
theorem fX (s:Ar)(x:Int):ez s (ae s x):=⟨iF _ _,by rw[aM]⟩
theorem iJ (s:Ar)(x v:Int):ez s (ac s x v):=⟨gS _ _ _,by rw[aw,bE]⟩
theorem AX (s:Ar)(x v:Int):ez s (bY s x v):=⟨eP _ _ _,by rw[dI,bE]⟩
theorem kQ (s:Ar)(x v:Int):ez s (addA s x v):=⟨jl _ _ _,by rw[dR,bE]⟩
theorem C5 (s:Ar)(x o v:Int):ez s (dO s x o v):=⟨mZ _ _ _ _,by rw[gG];split<;>simp[bE]⟩
theorem cJ (k:Nat)(t m:Int)(s:Ar)(i:Int)(p:Sp):ez s (bG k t m s i p).1:=by unfold bG uT oM oj lM eB dF tL;(repeat' split)<;>(try dsimp only)<;>first|with_reducible exact ez.refl _|with_reducible exact fX _ _|with_reducible exact iJ _ _ _|with_reducible exact AX _ _ _|with_reducible exact kQ _ _ _|with_reducible exact C5 _ _ _ _
theorem sD (k:Nat)(t:Int)(s:Ar)(i:Int)(p:Sp):ez s (ch k t s i p).1:=by unfold ch;(repeat' split)<;>(try dsimp only)<;>first|with_reducible exact ez.refl _|with_reducible exact fX _ _
section
variable{c:CoC}{B:Int}{st:Co}
theorem xV (i:Nat)(p:Sp):ez st.s (cO c st i p).1:=by unfold cO zl rE stL stG;(repeat' split)<;>(try dsimp only)<;>first|with_reducible exact ez.refl _|with_reducible exact fX _ _|with_reducible exact iJ _ _ _|with_reducible exact cJ _ _ _ _ _ _|with_reducible exact sD _ _ _ _ _
theorem mh (i:Nat):ez st.s (ak c st i).s:=by
 unfold ak;split;·exact ez.refl _
 ·exact xV _ _
theorem ur (i:Nat):ez st.s (bD c st i).s:=by unfold bD;split<;>exact ez.refl _
theorem qM (i:Nat):ez st.s (ay st i).s:=by unfold ay;split<;>exact ez.refl _
theorem xr (h:CoB c B st)(hB:1<=B)(hB2:B<=10000000000000)(i:Nat)(hs:(c.slot i:Int)+1<=B)(hn:(c.node i:Int)+1<=B)(hm:1<=c.m/\c.m<=B):CoB c (B+2) (ak c st i):=by
 unfold ak;split;·exact h.mono QX
 ·exact Ce h hB hB2 i hs hn hm _ (h.tsp QX i)
theorem zk (h:CoB c B st)(hB:1<=B)(i:Nat):CoB c (B+2) (bD c st i):=by
 unfold bD;split;·have h2:=h.mono (C:=B+2) QX;exact⟨h2.w,h2.g,h2.setL _ _ (tC (h2.lsp QX _ _) QX),eb h2.t i (h2.tsp QX i)⟩
 ·exact h.mono QX
theorem tN (h:CoB c B st)(hB:1<=B)(i:Nat):CoB c (B+2) (ay st i):=by
 unfold ay;split;·have h2:=h.mono (C:=B+2) QX;exact⟨h2.w,h2.g,h2.l,eb h2.t i (h2.tsp QX i)⟩
 ·exact h.mono QX
end
end
section
open Go
section
variable{t m:Int}{n:Nat}{f f':Int->Int}{σ σ':Nat->Sp}
def gk (t:Int)(n:Nat)(f:Int->Int)(σ:Nat->Sp):Prop:=∀i,i<n->(σ i).pc=10\/(σ i).pc=11->f t=(i:Int)+1
theorem gk.one (h:gk t n f σ){i j:Nat}(hi:i<n)(hj:j<n)(h1:(σ i).pc=10)(h2:(σ j).pc=10):i=j:=by have e1:=h i hi (.inl h1);have e2:=h j hj (.inl h2);omega
theorem gk.off (h:gk t n f σ){i:Nat}{p:Sp}(hs:∀j,σ' j=if j=i then p else σ j)(hp:(p.pc=10\/p.pc=11)->(σ i).pc=10\/(σ i).pc=11):gk t n f σ':=by
 intro j hj hc;rw[hs]at hc;split at hc;·rename_i e;subst e;exact h j hj (hp hc)
 ·exact h j hj hc
theorem gk.get (h:gk t n f σ){i:Nat}{p:Sp}(hs:∀j,σ' j=if j=i then p else σ j)(hf:∀y,f' y=if y=t then(i:Int)+1 else f y)(h0:f t=0):gk t n f' σ':=by
 intro j hj hc;rw[hs]at hc;rw[hf,if_pos rfl];split at hc;·rename_i e;subst e;rfl
 ·have:=h j hj hc;omega
theorem gk.put (h:gk t n f σ){i:Nat}{p:Sp}(hi:i<n)(hs:∀j,σ' j=if j=i then p else σ j)(hf:∀y,f' y=if y=t then 0 else f y)(h0:(σ i).pc=11)(hp:p.pc=0):gk t n f' σ':=by
 intro j hj hc;rw[hs]at hc;split at hc;·omega
 ·rename_i e;have e1:=h j hj hc;have e2:=h i hi (.inr h0);omega
structure dz (t:Int)(n:Nat)(f:Int->Int)(σ:Nat->Sp):Prop where
 le:f (t+1)<=f t
 w:∀i,i<n->(σ i).pc=2->f (t+1)<=(σ i).a/\(σ i).a<f t
 hd:∀i,i<n->(σ i).pc=10\/(σ i).pc=11->(σ i).a=f (t+1)/\(σ i).a<f t
 ne:∀i j,i<n->j<n->i≠j->((σ i).pc=2\/(σ i).pc=10\/(σ i).pc=11)->((σ j).pc=2\/(σ j).pc=10\/(σ j).pc=11)->(σ i).a≠(σ j).a
theorem dz.one (h:dz t n f σ){i j:Nat}(hi:i<n)(hj:j<n)(h1:(σ i).pc=10)(h2:(σ j).pc=10):i=j:=by exact IY
theorem dz.off (h:dz t n f σ){i:Nat}{p:Sp}(hs:∀j,σ' j=if j=i then p else σ j)(ha:p.a=(σ i).a)(hp:((σ i).pc=0/\p.pc=1)\/((σ i).pc=10/\p.pc=11)\/p.pc=(σ i).pc):dz t n f σ':=by
 have key:∀j,(σ' j).a=(σ j).a:=λj=>by rw[hs];split;(rename_i e;rw[e,ha]);rfl
 have kc:∀j,((σ' j).pc=2->(σ j).pc=2)/\(((σ' j).pc=10\/(σ' j).pc=11)->(σ j).pc=10\/(σ j).pc=11):=λj=>by
  rw[hs];split;·rename_i e;subst e;omega
  ·exact⟨id,id⟩
 refine⟨h.le,λj hj hc=>?_,λj hj hc=>?_,λj k hj hk hn h1 h2=>?_⟩;·rw[key];exact h.w j hj ((kc j).1 hc)
 ·rw[key];exact h.hd j hj ((kc j).2 hc)
 ·exact IZ
theorem dz.take (h:dz t n f σ){i:Nat}{p:Sp}(hs:∀j,σ' j=if j=i then p else σ j)(hp:p.pc=2)(ha:p.a=f t)(hf:∀y,f' y=if y=t then f t+1 else f y):dz t n f' σ':=by
 have f0:f' t=f t+1:=by rw[hf,if_pos rfl]
 have f1:f' (t+1)=f (t+1):=by rw[hf,if_neg QX]
 have hle:=h.le;refine⟨by rw[f0,f1];omega,λj hj hc=>?_,λj hj hc=>?_,λj k hj hk hn h1 h2=>?_⟩;·rw[f0,f1];exact I0
 ·rw[f0,f1];exact I7
 ·exact I8
theorem dz.enter (h:dz t n f σ){i:Nat}{p:Sp}(hi:i<n)(hs:∀j,σ' j=if j=i then p else σ j)(h2:(σ i).pc=2)(hp:p.pc=10)(ha:p.a=(σ i).a)(he:f (t+1)=(σ i).a):dz t n f σ':=by
 have hw:=h.w i hi h2;have key:∀j,(σ' j).a=(σ j).a:=λj=>by rw[hs];split;(rename_i e;rw[e,ha]);rfl
 refine⟨h.le,λj hj hc=>?_,λj hj hc=>?_,λj k hj hk hn h1 h3=>?_⟩
 ·rw[key];rw[hs]at hc;split at hc;·omega
  ·exact h.w j hj hc
 ·exact I9
 ·exact Ja
theorem dz.put (h:dz t n f σ){i:Nat}{p:Sp}(hi:i<n)(hs:∀j,σ' j=if j=i then p else σ j)(h1:(σ i).pc=11)(hp:p.pc=0)(hf:∀y,f' y=if y=t+1 then(σ i).a+1 else f y):dz t n f' σ':=by
 have hh:=h.hd i hi (.inr h1);have f0:f' t=f t:=by rw[hf,if_neg QX]
 have f1:f' (t+1)=(σ i).a+1:=by rw[hf,if_pos rfl]
 refine⟨by rw[f0,f1];omega,λj hj hc=>?_,λj hj hc=>?_,λj k hj hk hn h2 h3=>?_⟩;·rw[f0,f1];exact Jb
 ·exact Jc
 ·exact Jd
structure dQ (t m:Int)(n:Nat)(f:Int->Int)(σ:Nat->Sp)(v:Int):Prop where
 v0:0<=v
 le:v<=f t
 w:∀i,i<n->(σ i).pc=2->v<=(σ i).a/\(σ i).a<f t
 hd:∀i,i<n->(σ i).pc=10\/(σ i).pc=11->(σ i).a=v/\(σ i).a<f t
 ne:∀i j,i<n->j<n->i≠j->((σ i).pc=2\/(σ i).pc=10\/(σ i).pc=11)->((σ j).pc=2\/(σ j).pc=10\/(σ j).pc=11)->(σ i).a≠(σ j).a
 pl:∀k:Int,0<=k->k<m->f (t+1+k)<=v+1
 sv:f (pPl t m v)=v+1
theorem dQ.one{v:Int}(h:dQ t m n f σ v){i j:Nat}(hi:i<n)(hj:j<n)(h1:(σ i).pc=10)(h2:(σ j).pc=10):i=j:=by exact IY
theorem dQ.off{v:Int}(h:dQ t m n f σ v){i:Nat}{p:Sp}(hs:∀j,σ' j=if j=i then p else σ j)(ha:p.a=(σ i).a)(hp:((σ i).pc=0/\p.pc=1)\/((σ i).pc=10/\p.pc=11)\/p.pc=(σ i).pc):dQ t m n f σ' v:=by
 have key:∀j,(σ' j).a=(σ j).a:=λj=>by rw[hs];split;(rename_i e;rw[e,ha]);rfl
 have kc:∀j,((σ' j).pc=2->(σ j).pc=2)/\(((σ' j).pc=10\/(σ' j).pc=11)->(σ j).pc=10\/(σ j).pc=11):=λj=>by
  rw[hs];split;·rename_i e;subst e;omega
  ·exact⟨id,id⟩
 refine⟨h.v0,h.le,λj hj hc=>?_,λj hj hc=>?_,λj k hj hk hn h1 h2=>?_,h.pl,h.sv⟩;·rw[key];exact h.w j hj ((kc j).1 hc)
 ·rw[key];exact h.hd j hj ((kc j).2 hc)
 ·exact IZ
theorem dQ.take{v:Int}(h:dQ t m n f σ v)(hm:1<=m){i:Nat}{p:Sp}(hs:∀j,σ' j=if j=i then p else σ j)(hp:p.pc=2)(ha:p.a=f t)(hf:∀y,f' y=if y=t then f t+1 else f y):dQ t m n f' σ' v:=by
 have f0:f' t=f t+1:=by rw[hf,if_pos rfl]
 have hle:=h.le;have hm0:=Int.emod_nonneg v (show m≠0 by omega);refine⟨h.v0,by rw[f0];omega,λj hj hc=>?_,λj hj hc=>?_,λj k hj hk hn h1 h2=>?_,λk k0 k1=>by rw[hf,if_neg QX];exact h.pl k k0 k1,by rw[hf,if_neg (by unfold pPl;omega)];exact h.sv⟩;·rw[f0];exact I0
 ·rw[f0];exact I7
 ·exact I8
theorem dQ.enter{v:Int}(h:dQ t m n f σ v)(hm:1<=m){i:Nat}{p:Sp}(hi:i<n)(hs:∀j,σ' j=if j=i then p else σ j)(h2:(σ i).pc=2)(hp:p.pc=10)(ha:p.a=(σ i).a)(he:f (pPl t m (σ i).a)=(σ i).a+1):dQ t m n f σ' v:=by
 have hw:=h.w i hi h2;have hq:=h.pl ((σ i).a%m) (Int.emod_nonneg _ QX) (Int.emod_lt_of_pos _ QX);have he':f (t+1+(σ i).a%m)=(σ i).a+1:=he;have key:∀j,(σ' j).a=(σ j).a:=λj=>by rw[hs];split;(rename_i e;rw[e,ha]);rfl
 refine⟨h.v0,h.le,λj hj hc=>?_,λj hj hc=>?_,λj k hj hk hn h1 h3=>?_,h.pl,h.sv⟩
 ·rw[key];rw[hs]at hc;split at hc;·omega
  ·exact h.w j hj hc
 ·exact I9
 ·exact Ja
theorem dQ.put{v:Int}(h:dQ t m n f σ v)(hm:1<=m){i:Nat}{p:Sp}(hi:i<n)(hs:∀j,σ' j=if j=i then p else σ j)(h1:(σ i).pc=11)(hp:p.pc=0)(hf:∀y,f' y=if y=pPl t m ((σ i).a+1)then(σ i).a+2 else f y):dQ t m n f' σ' (v+1):=by
 have hh:=h.hd i hi (.inr h1);have hm0:=Int.emod_nonneg ((σ i).a+1) (show m≠0 by omega);have f0:f' t=f t:=by rw[hf,if_neg (by unfold pPl;omega)]
 have hv0:=h.v0;refine⟨by omega,by rw[f0];omega,λj hj hc=>?_,λj hj hc=>?_,λj k hj hk hn h2 h3=>?_,λk k0 k1=>?_,?_⟩;·rw[f0];exact Jb
 ·exact Jc
 ·exact Jd
 ·rw[hf];split;·omega
  ·have:=h.pl k k0 k1;omega
 ·rw[hf,if_pos (by rw[hh.1]),hh.1];omega
end
end
section
open Go
structure iY (n:Nat)(T:Nat->Prop)(t0:Prop):Prop where
 one:∀i j,i<n->j<n->T i->T j->i=j
 tl:t0->∀i,i<n->¬T i
def numT (t:Nat):Int:=(t:Int)+1
def iW (lo:Int)(G:Int->Prop)(S:Int->Int)(σ:Nat->Sp)(i:Nat):Prop:=lo<=(σ i).pc\/(3<=(σ i).pc/\G (S (numT i)))
def updF (f:Int->Int)(x v y:Int):Int:=if y=x then v else f y
section
variable{n i:Nat}{lo t t':Int}{G:Int->Prop}{S S':Int->Int}{σ σ':Nat->Sp}{p:Sp}
theorem iO{i j:Nat}(h:numT i=numT j):i=j:=by unfold numT at h;omega
theorem iY.own (h:iY n (iW lo G S σ) (t=0)) (hi:i<n) (hs:∀j,σ' j=if j=i then p else σ j) (h1:lo<=(σ i).pc) (hS:∀k,k≠numT i->S' k=S k) (ht:t'=t\/t'≠0):
    iY n (iW lo G S' σ') (t'=0):=by have h2:=h.one;have h3:=h.tl;have h4:=λj=>@iO j i;refine⟨?_,?_⟩<;>grind [iW]
theorem iY.o (h:iY n (iW lo G S σ) (t=0)) (hi:i<n) (hs:∀j,σ' j=if j=i then p else σ j) (h1:lo<=(σ i).pc) (hlo:3<=lo) (hp:p.pc<3) (hS:(∀k,S' k=S k)\/((∃y,∀k,k≠y->S' k=S k)/\t'=t)):
    iY n (iW lo G S' σ') (t'=0):=by have h2:=h.one;have h3:=h.tl;have h4:=λj k=>@iO j k;refine⟨?_,?_⟩<;>grind [iW]
theorem iY.low (h:iY n (iW lo G S σ) (t=0)) (hi:i<n) (hs:∀j,σ' j=if j=i then p else σ j) (h1:p.pc<3\/(p.pc<lo/\¬G (S' (numT i)))\/(3<=(σ i).pc/\p.pc<lo/\S' (numT i)=S (numT i))) (hlo:3<=lo) (hS:∀k,k≠numT i->S' k=S k):
    iY n (iW lo G S' σ') (t=0):=by have h2:=h.one;have h3:=h.tl;have h4:=λj=>@iO j i;refine⟨?_,?_⟩<;>grind [iW]
theorem iY.door (h:iY n (iW lo G S σ) (t=0)) (hi:i<n) (hs:∀j,σ' j=if j=i then p else σ j) (h1:3<=(σ i).pc) (hp:t≠0->p.pc<lo) (ht:t'≠0):
    iY n (iW lo G S σ') (t'=0):=by have h2:=h.one;have h3:=h.tl;refine⟨?_,?_⟩<;>grind [iW]
theorem iY.ent (h:iY n (iW lo G S σ) (t=0)) (hi:i<n) (hs:∀j,σ' j=if j=i then p else σ j) (h1:3<=(σ i).pc) (hg:G (S (numT i))):
    iY n (iW lo G S σ') (t=0):=by have h2:=h.one;have h3:=h.tl;refine⟨?_,?_⟩<;>grind [iW]
theorem gC (f:Int->Int)(x v:Int):updF f x v x=v:=if_pos rfl
theorem ef (f:Int->Int){x v y:Int}(h:y≠x):updF f x v y=f y:=if_neg h
end
end
section
open Go
def fN (t:Int)(n:Nat)(f:Int->Int)(x:Int):Int:=if 1<=x/\x<=n then f (mNx t x)else 0
def fW (t:Int)(n:Nat)(f:Int->Int)(x:Int):Int:=if 1<=x/\x<=n then f (mWt t x)else 0
abbrev DU (S:Int->Int)(σ:Nat->Sp):Nat->Prop:=iW 10 (λv=>v=0) S σ
structure McA (n:Nat)(t:Int)(N S:Int->Int)(σ:Nat->Sp):Prop where
 tk:iY n (DU S σ) (t=0)
 vt:0<=t/\t<=n
 z:∀i,i<n->(σ i).pc=3\/(σ i).pc=4->S (numT i)=1
 n2:∀i,i<n->(σ i).pc=2\/(σ i).pc=3->N (numT i)=0
 tl:∀i,i<n->t=numT i->4<=(σ i).pc/\N t=0
 l:∀i,i<n->(σ i).pc=4->(1<=(σ i).a/\(σ i).a<=n)/\t≠(σ i).a/\N (σ i).a=0/\∀j,j<n->numT j=(σ i).a->4<=(σ j).pc/\j≠i
 u4:∀i j,i<n->j<n->(σ i).pc=4->(σ j).pc=4->(σ i).a=(σ j).a->i=j
 nx:∀j,j<n->4<=(σ j).pc->N (numT j)≠0->(1<=N (numT j)/\N (numT j)<=n)/\∀i,i<n->numT i=N (numT j)->(σ i).pc=5/\S (numT i)=1
 u:∀j k,j<n->k<n->4<=(σ j).pc->4<=(σ k).pc->N (numT j)≠0->N (numT j)=N (numT k)->j=k
 s14:∀i,i<n->(σ i).pc=14->N (numT i)=(σ i).a/\(σ i).a≠0
section
variable{n:Nat}{t x v:Int}{f f':Int->Int}
theorem pB (hf:∀y,f' y=if y=mNx t x then v else f y)(h:1<=x/\x<=n):f' t=f t/\fN t n f'=updF (fN t n f) x v/\fW t n f'=fW t n f:=by exact Je
theorem pC (hf:∀y,f' y=if y=mWt t x then v else f y)(h:1<=x/\x<=n):f' t=f t/\fN t n f'=fN t n f/\fW t n f'=updF (fW t n f) x v:=by exact Je
theorem zO (hf:∀y,f' y=if y=t then v else f y):f' t=v/\fN t n f'=fN t n f/\fW t n f'=fW t n f:=by simp only[funext_iff,fN,fW,hf,mNx,mWt];exact Jf
theorem zN (hf:∀y,t<=y->y<t+(1+2*(n:Int))->f' y=f y):fN t n f'=fN t n f/\fW t n f'=fW t n f:=by
 refine⟨funext λx=>?_,funext λx=>?_⟩
 ·unfold fN mNx;split;·exact hf _ QX QX
  ·rfl
 ·unfold fW mWt;split;·exact hf _ QX QX
  ·rfl
end
theorem McA.beg{n i:Nat}{t:Int}{N S:Int->Int}{σ σ':Nat->Sp}(k:McA n t N S σ)(hi:i<n){p:Sp}(he:∀j,σ' j=if j=i then p else σ j)(hp:((σ i).pc=10/\p.pc=11)\/((σ i).pc=0/\p.pc=1)):McA n t N S σ':=by
 obtain⟨tk,vt,z,n2,tl,l,u4,nx,u,s14⟩:=k;refine⟨?_,vt,?_,?_,?_,?_,?_,?_,?_,?_⟩;·exact Jg
 ·intro j hj;have e:=he j;have q:=z j hj;clear tk z n2 tl l u4 nx u s14 he;grind
 ·intro j hj;have e:=he j;have q:=n2 j hj;clear tk z n2 tl l u4 nx u s14 he;grind
 ·intro j hj;have e:=he j;have q:=tl j hj;clear tk z n2 tl l u4 nx u s14 he;grind
 ·intro j hj h4;have e:=he j;have hji:j≠i:=λh=>by rw[if_pos h]at e;rw[e]at h4;omega
  rw[if_neg hji]at e;obtain⟨q1,q2,q3,q4⟩:=l j hj (by rw[<-e];exact h4);rw[e];refine⟨q1,q2,q3,λk hk hk2=>?_⟩;have:=q4 k hk hk2;have:=he k;clear tk z n2 tl l u4 nx u s14 he;grind
 ·intro j k hj hk;have e:=he j;have e2:=he k;have q:=u4 j k hj hk;clear tk z n2 tl l u4 nx u s14 he;grind
 ·intro j hj h4 h5;have e:=he j;have h6:4<=(σ j).pc:=by clear tk z n2 tl l u4 nx u s14 he;grind
  have:=nx j hj h6 h5;refine⟨this.1,λk hk hk2=>?_⟩;have q:=this.2 k hk hk2;have:=he k;clear tk z n2 tl l u4 nx u s14 he;grind
 ·intro j k hj hk h1 h2;have e:=he j;have e2:=he k;have q:=u j k hj hk;clear tk z n2 tl l u4 nx u s14 he;grind
 ·intro j hj;have e:=he j;have q:=s14 j hj;clear tk z n2 tl l u4 nx u s14 he;grind
theorem McA.go {n i:Nat} {t:Int} {s:Ar} {S:List Sp} (k:McA n (ldW s.W t) (fN t n (ldW s.W)) (fW t n (ldW s.W)) (sv S)) (hi:i<n) (len:S.length=n) (own:∀x v,t<=x->x<=t+2*n->∀y,ldW (stW s.W x v) y=if y=x then v else ldW s.W y) (hin:inR s.W t=true)
    {p:Sp} (hp:p=sv S i) (hc:(0<=p.pc/\p.pc<=5)\/(10<=p.pc/\p.pc<=14)) {r:Ar×Sp} (hr:r=lM t s i p):
    McA n (ldW r.1.W t) (fN t n (ldW r.1.W)) (fW t n (ldW r.1.W)) (sv (S.set i r.2))/\∀y,¬(t<=y/\y<=t+2*n)->ldW r.1.W y=ldW s.W y:=by
  have hs:∀q,sv (S.set i q)=λj=>if j=i then q else sv S j:=λq=>by funext j;rw[cD];grind
  have ex:((i:Nat):Int)+1=numT i:=rfl;have hx1:1<=numT i/\numT i<=n:=by unfold numT;omega
  have hcas:cl s t (numT i)=decide (ldW s.W t=numT i):=by unfold cl;rw[hin];rfl
  have lN:ldW s.W (mNx t (numT i))=fN t n (ldW s.W) (numT i):=by unfold fN;rw[if_pos hx1]
  have lW:ldW s.W (mWt t (numT i))=fW t n (ldW s.W) (numT i):=by unfold fW;rw[if_pos hx1]
  have inj:=λj k=>@iO j k;have pos:∀j,1<=numT j:=λj=>by unfold numT;omega
  have oN:∀x v:Int,1<=x/\x<=n->∀y,ldW (stW s.W (mNx t x) v) y=if y=mNx t x then v else ldW s.W y:=λx v h=>own _ v (by unfold mNx;omega) (by unfold mNx;omega)
  have oW:∀x v:Int,1<=x/\x<=n->∀y,ldW (stW s.W (mWt t x) v) y=if y=mWt t x then v else ldW s.W y:=λx v h=>own _ v (by unfold mWt;omega) (by unfold mWt;omega)
  have o1:=λv=>own t v (Int.le_refl _) QX;obtain⟨tk,vt,z,n2,tl,l,u4,nx,u,s14⟩:=k;have h4:=l i hi;have h14:=s14 i hi;have hnx:=nx i hi;rw[<-hp]at h4 h14 hnx;obtain⟨pc,a,b,c⟩:=p;simp only at hc h4 h14 hnx;have ha:(pc=4->1<=a/\a<=n)/\(pc=14->1<=a/\a<=n):=⟨λh=>(h4 h).1,λh=>by have e:=h14 h;have:=(hnx QX (by rw[e.1];exact e.2)).1;omega⟩;have hcc:(pc=0\/pc=10)\/pc=1\/pc=2\/pc=3\/pc=4\/pc=5\/pc=11\/pc=12\/pc=13\/pc=14:=by omega
  rcases hcc with h|rfl|rfl|rfl|rfl|rfl|rfl|rfl|rfl|rfl
  · have e:r=(s,⟨pc,a,b,c⟩):=(by rw[hr];unfold lM;rcases h with rfl|rfl<;>simp);rw[e];refine⟨?_,λ_ _=>rfl⟩;have e2:sv (S.set i ⟨pc,a,b,c⟩)=sv S:=(by rw[hs];funext j;split<;>simp_all);show McA n (ldW s.W t) (fN t n (ldW s.W)) (fW t n (ldW s.W)) (sv (S.set i ⟨pc,a,b,c⟩));rw[e2];exact⟨tk,vt,z,n2,tl,l,u4,nx,u,s14⟩
  all_goals simp[lM,eB,dF,ex,hcas,lN,lW]at hr;repeat' split at hr
  all_goals subst hr;refine⟨?_,?_⟩
  all_goals try simp only[aw,aM,dI,gG]
  all_goals try simp only[hcas,decide_eq_true_eq]
  all_goals try first|rw[if_pos Rk]|rw[if_neg Rk]
  all_goals try first
    | exact λ_ _=>rfl
    | exact λ_ _=>trivial
    | (intro y hy;rw[oN _ _ QX,if_neg (by unfold mNx;omega)];done)
    | (intro y hy;rw[oW _ _ QX,if_neg (by unfold mWt;omega)];done)
    | (intro y hy;rw[o1,if_neg QX];done)
  all_goals rw[hs]
  all_goals try first
    | rw[(pC (oW a _ (ha.2 rfl)) (ha.2 rfl)).1,(pC (oW a _ (ha.2 rfl)) (ha.2 rfl)).2.1,(pC (oW a _ (ha.2 rfl)) (ha.2 rfl)).2.2]
    | rw[(pB (oN a _ (ha.1 rfl)) (ha.1 rfl)).1,(pB (oN a _ (ha.1 rfl)) (ha.1 rfl)).2.1,(pB (oN a _ (ha.1 rfl)) (ha.1 rfl)).2.2]
    | rw[(pB (oN _ _ QX) QX).1,(pB (oN _ _ QX) QX).2.1,(pB (oN _ _ QX) QX).2.2]
    | rw[(pC (oW _ _ QX) QX).1,(pC (oW _ _ QX) QX).2.1,(pC (oW _ _ QX) QX).2.2]
    | rw[(zO (n:=n) (o1 _)).1,(zO (n:=n) (o1 _)).2.1,(zO (n:=n) (o1 _)).2.2]
  all_goals have hsi:=congrArg Sp.pc hp.symm;have hsa:=congrArg Sp.a hp.symm;dsimp only at hsi hsa;clear hs lN lW hcas hp len own oN oW o1 ex hin;generalize hee:(λj=>if j=i then _ else sv S j)=σ';have he:=λj=>(congrFun hee j).symm;clear hee;generalize sv S=σ at *;generalize fN t n (ldW s.W)=N at *;generalize fW t n (ldW s.W)=G at *;generalize ldW s.W t=t at *;have hx:∀x:Int,1<=x->x<=n->∃j,j<n/\numT j=x:=λx h1 h2=>⟨(x-1).toNat,by omega,by unfold numT;omega⟩
  all_goals
    refine⟨?_,by omega,λj hj=>?_,λj hj=>?_,λj hj=>?_,λj hj=>?_,λj k hj hk=>?_,λj hj=>?_,λj k hj hk=>?_,λj hj=>?_⟩;· first| exact tk.own hi he QX RN RR| exact tk.o hi he QX QZ Re RS| exact tk.low hi he Sg QZ RN| exact tk.door hi he QX Re QX| exact tk.ent hi he QX (show G (numT i)=0 by omega)
    · have e:=he j;have:=z j hj;have h1:=λa b=>(hnx a b).2 j hj;have h3:=inj j i;clear tk vt z n2 tl l u4 nx u s14 h4 hnx inj pos hx he;first|grind [updF]|(intros;grind [updF])
    · have e:=he j;have:=n2 j hj;have h3:=inj j i;have h1:=λh=>(h4 h).2.2.2 j hj;clear tk vt z n2 tl l u4 nx u s14 h4 h14 hnx inj pos hx he;first|grind [updF]|(intros;grind [updF])
    · have e:=he j;have h1:=tl j hj;have hq:=pos j;have h3:=inj j i;have h5:=n2 i hi;clear tk vt z n2 tl l u4 nx u s14 hnx inj pos hx he;first|grind [updF]|(intros;grind [updF])
    · have e:=he j;have h1:=l j hj;have h5:=n2 i hi;have h7:=tl i hi;have h8:=u4 j i hj hi;intro q;have hl:∀k,k<n->numT k=(σ' j).a->4<=(σ' k).pc/\k≠j:=(by intro k hk h;have ek:=he k;have h9:=λa=>(h1 a).2.2.2 k hk;have h10:=tl k hk;clear u4 nx u s14 z hnx n2 tk he tl l hx inj;grind);refine⟨?_,?_,?_,hl⟩;all_goals clear u4 nx u s14 z hnx n2 tk he l hl inj;grind [updF]
    · have e:=he j;have ek:=he k;have h1:=u4 j k hj hk;have h2:=l j hj;have h3:=l k hk;clear tk vt z n2 tl l u4 nx u s14 h4 h14 hnx inj pos hx he;grind
    · have e:=he j;have h1:=nx j hj;have h5:=n2 i hi;have h6:=inj j i;have h7:=u j i hj hi;have h8:=z i hi;clear u4 nx u s14 z n2 tk tl l;first|grind [updF]|(intros;grind [updF])
    · have e:=he j;have ek:=he k;have h1:=u j k hj hk;have h5:=n2 i hi;have h6:=inj j i;have h7:=inj k i;have h8:=inj j k;have h9:=λa b=>(nx j hj a b).2 i hi;have h10:=λa b=>(nx k hk a b).2 i hi;clear u4 nx u s14 z n2 tk tl l he hnx inj hx h4 h14;first|grind [updF]|(intros;simp only[updF]at *;grind)
    · have e:=he j;have h1:=s14 j hj;have h3:=inj j i;have h5:=λh=>(h4 h).2.2.1;clear tk vt z n2 tl l u4 nx u s14 h4 hnx inj pos hx he;first|grind [updF]|(intros;grind [updF])
end
section
open Go
def fC (t:Int)(n:Nat)(f:Int->Int)(x:Int):Int:=if 1<=x/\x<=(n:Int)+1 then f (t+x)else 0
structure ClA (n:Nat)(t:Int)(g:Int->Int)(σ:Nat->Sp)(e:Int):Prop where
 e0:1<=e/\e<=(n:Int)+1
 a0:∀i,i<n->1<=(σ i).a/\(σ i).a<=(n:Int)+1
 inj:∀i j,i<n->j<n->(σ i).a=(σ j).a->i=j
 ne:∀i,i<n->(σ i).a≠e
 f0:g e=0
 f1:∀i,i<n->2<=(σ i).pc->g (σ i).a=1
 bq:∀i,i<n->3<=(σ i).pc->(σ i).b=e\/∃j,j<n/\(σ i).b=(σ j).a/\3<=(σ j).pc
 bu:∀i j,i<n->j<n->3<=(σ i).pc->3<=(σ j).pc->(σ i).b=(σ j).b->i=j
 tl:t=e\/∃j,j<n/\t=(σ j).a/\3<=(σ j).pc
 tb:∀k,k<n->3<=(σ k).pc->(σ k).b≠t
 h10:∀i,i<n->10<=(σ i).pc->(σ i).b=e
section
variable{n:Nat}{t x v e:Int}{f f' g g':Int->Int}{σ σ':Nat->Sp}{i:Nat}{p:Sp}
theorem DD (hf:∀y,f' y=if y=t+x then v else f y)(h:1<=x/\x<=(n:Int)+1):f' t=f t/\fC t n f'=updF (fC t n f) x v:=by simp only[funext_iff,updF,fC,hf];refine⟨?_,λy=>?_⟩<;>grind
theorem Ew (hf:∀y,f' y=if y=t then v else f y):f' t=v/\fC t n f'=fC t n f:=by simp only[funext_iff,fC,hf];refine⟨?_,λy=>?_⟩<;>grind
theorem zM (hf:∀y,t<=y->y<t+((n:Int)+2)->f' y=f y):fC t n f'=fC t n f:=by
 funext x;unfold fC;split;·exact hf _ QX QX
 ·rfl
theorem ClA.one (k:ClA n t g σ e){i j:Nat}(hi:i<n)(hj:j<n)(h1:(σ i).pc=10)(h2:(σ j).pc=10):i=j:=
 k.bu i j hi hj QX QX (by rw[k.h10 i hi QX,k.h10 j hj QX])
theorem ClA.put (k:ClA n t g σ e)(hi:i<n)(hs:∀j,σ' j=if j=i then p else σ j)(ha:p.a=(σ i).a)(hg:∀y,y≠(σ i).a->g' y=g y)(h1:2<=p.pc->g' (σ i).a=1)(hq:((σ i).pc<3/\p.pc<3)\/(3<=(σ i).pc/\3<=p.pc/\p.b=(σ i).b/\(10<=p.pc->(σ i).b=e))):ClA n t g' σ' e:=by
 obtain⟨e0,a0,inj,ne,f0,f1,bq,bu,tl,tb,h10⟩:=k;have ei:=hs i;rw[if_pos rfl]at ei;have hr:∀x,(∃j,j<n/\x=(σ j).a/\3<=(σ j).pc)->∃j,j<n/\x=(σ' j).a/\3<=(σ' j).pc:=λx ⟨j,h1,h2,h3⟩=>⟨j,h1,by rw[hs];split<;>simp_all,by rw[hs];split<;>(try subst j)<;>omega⟩;refine⟨e0,λj hj=>?_,λj l hj hl=>?_,λj hj=>?_,?_,λj hj=>?_,λj hj h=>?_,λj l hj hl=>?_,tl.imp id (hr t),λj hj=>?_,λj hj=>?_⟩;·have:=a0 j hj;have:=hs j;grind
 ·have:=inj j l hj hl;have:=hs j;have:=hs l;grind
 ·have:=ne j hj;have:=hs j;grind
 ·rw[hg _ (λh=>ne i hi h.symm)];exact f0
 ·have:=f1 j hj;have:=hs j;have:=inj j i hj hi;grind
 ·have h2:=bq j hj;have h3:=hs j;have h4:3<=(σ j).pc/\(σ' j).b=(σ j).b:=by grind
  rw[h4.2];exact(h2 h4.1).imp id (hr _)
 ·have:=bu j l hj hl;have:=hs j;have:=hs l;grind
 ·have:=tb j hj;have:=hs j;grind
 ·have:=h10 j hj;have:=hs j;grind
theorem ClA.swap (k:ClA n t g σ e)(hi:i<n)(hs:∀j,σ' j=if j=i then p else σ j)(h2:(σ i).pc=2)(hp:p.pc=3)(ha:p.a=(σ i).a)(hb:p.b=t):ClA n (σ i).a g σ' e:=by
 obtain⟨e0,a0,inj,ne,f0,f1,bq,bu,tl,tb,h10⟩:=k
 have hr:∀x,(∃j,j<n/\x=(σ j).a/\3<=(σ j).pc)->(∃j,j<n/\x=(σ' j).a/\3<=(σ' j).pc)/\x≠(σ i).a:=λx ⟨j,h1,h3,h4⟩=>by
  have:j≠i:=λe=>by subst e;omega
  exact⟨⟨j,h1,by rw[hs,if_neg this];exact h3,by rw[hs,if_neg this];exact h4⟩,λe=>this (inj j i h1 hi (h3.symm.trans e))⟩
 have ei:=hs i;rw[if_pos rfl]at ei;refine⟨e0,λj hj=>?_,λj l hj hl=>?_,λj hj=>?_,f0,λj hj=>?_,λj hj h=>?_,λj l hj hl=>?_,.inr ⟨i,hi,by rw[ei,ha],by rw[ei];omega⟩,λj hj h=>?_,λj hj=>?_⟩;·have:=a0 j hj;have:=hs j;grind
 ·have:=inj j l hj hl;have:=hs j;have:=hs l;grind
 ·have:=ne j hj;have:=hs j;grind
 ·have:=f1 j hj;have:=hs j;grind
 ·by_cases c:j=i;·rw[c,ei,hb];exact tl.imp id λh=>(hr _ h).1
  ·rw[hs,if_neg c]at h ⊢;exact(bq j hj h).imp id λh=>(hr _ h).1
 ·have:=bu j l hj hl;have:=hs j;have:=hs l;have:=tb j hj;have:=tb l hl;grind
 ·have hn:=ne i hi;by_cases c:j=i;·rw[c,ei,hb];exact tl.elim (λh=>by rw[h];exact λh=>hn h.symm) λh=>(hr _ h).2
  ·rw[hs,if_neg c]at h ⊢;exact(bq j hj h).elim (λh=>by rw[h];exact λh=>hn h.symm) λh=>(hr _ h).2
 ·have:=h10 j hj;have:=hs j;grind
theorem ClA.o (k:ClA n t g σ e)(hi:i<n)(hs:∀j,σ' j=if j=i then p else σ j)(h11:10<=(σ i).pc)(hp:p.pc=0)(ha:p.a=(σ i).b)(hg:g'=updF g (σ i).a 0):ClA n t g' σ' (σ i).a:=by
 obtain⟨e0,a0,inj,ne,f0,f1,bq,bu,tl,tb,h10⟩:=k;have hb:=h10 i hi h11;have hni:∀j,j<n->3<=(σ j).pc->j≠i->(σ j).b≠e:=λj hj h3 hji h=>hji (bu j i hj hi h3 QX (by rw[h,hb]))
 have hr:∀x,(∃j,j<n/\x=(σ j).a/\3<=(σ j).pc)->x=(σ i).a\/∃j,j<n/\x=(σ' j).a/\3<=(σ' j).pc:=λx ⟨j,h1,h3,h4⟩=>by
  by_cases c:j=i;·exact .inl (by rw[h3,c])
  ·exact .inr ⟨j,h1,by rw[hs,if_neg c];exact h3,by rw[hs,if_neg c];exact h4⟩
 have ei:=hs i;rw[if_pos rfl]at ei;refine⟨a0 i hi,λj hj=>?_,λj l hj hl=>?_,λj hj=>?_,by rw[hg,gC],λj hj=>?_,λj hj h=>?_,λj l hj hl=>?_,tl.elim (λh=>absurd (by rw[hb,h]) (tb i hi QX)) (hr t),λj hj=>?_,λj hj h=>?_⟩;·have:=a0 j hj;have:=hs j;grind
 ·have:=inj j l hj hl;have:=hs j;have:=hs l;have:=ne j hj;have:=ne l hl;grind
 ·have:=ne i hi;have:=inj j i hj hi;have:=hs j;grind
 ·by_cases c:j=i;·rw[c,ei];intro h;omega
  ·rw[hs,if_neg c,hg,ef _ (λh=>c (inj j i hj hi h))];exact f1 j hj
 ·have c:j≠i:=λc=>by rw[c,ei]at h;omega
  rw[hs,if_neg c]at h ⊢;exact(bq j hj h).elim (λh2=>absurd h2 (hni j hj h c)) (hr _)
 ·have:=bu j l hj hl;have:=hs j;have:=hs l;grind
 ·have:=tb j hj;have:=hs j;grind
 ·have c:j≠i:=λc=>by rw[c,ei]at h;omega
  rw[hs,if_neg c]at h ⊢;exact absurd (h10 j hj h) (hni j hj QX c)
end
end
section
open Go
def szI (k n:Nat)(m:Int):Int:=if k=1 then 1 else if k=2 then 2 else if k=3 then 1+m else if k=4 then 1+2*(n:Int)else(n:Int)+2
def rf (k:Nat)(t m:Int)(n:Nat)(f:Int->Int)(σ:Nat->Sp):Prop:=
 if k=1 then gk t n f σ else if k=2 then dz t n f σ else if k=3 then ∃v,dQ t m n f σ v else if k=4 then McA n (f t) (fN t n f) (fW t n f) σ else ∃e,ClA n (f t) (fC t n f) σ e
structure bZ (k:Nat)(t m:Int)(n:Nat)(W:List Int)(S:List Sp):Prop where
 len:S.length=n
 m1:1<=m
 t1:1<=t
 t2:t+szI k n m<=(W.length:Int)+1
 i:rf k t m n (ldW W) (sv S)
section
variable{t m:Int}{n k:Nat}{f f':Int->Int}{σ:Nat->Sp}
theorem wd (t:Int){m:Int}(hm:1<=m)(v:Int):t<pPl t m v/\pPl t m v<t+1+m:=by have h1:=Int.emod_nonneg v (show m≠0 by omega);have h2:=Int.emod_lt_of_pos v (show 0<m by omega);unfold pPl;omega
theorem rf.congr (h:rf k t m n f σ)(hm:1<=m)(hf:∀y,t<=y->y<t+szI k n m->f' y=f y):rf k t m n f' σ:=by
 unfold rf at h ⊢;unfold szI at hf;by_cases h1:k=1;·simp only[h1,reduceIte]at h hf ⊢;intro i hi hc;rw[hf t QX QX];exact h i hi hc
 by_cases h2:k=2;·simp only[h2,reduceIte,show ¬(2=1)by decide]at h hf ⊢;have e0:=hf t QX QX;have e1:=hf (t+1) QX QX;exact⟨by rw[e0,e1];exact h.le,λi hi hc=>by rw[e0,e1];exact h.w i hi hc,λi hi hc=>by rw[e0,e1];exact h.hd i hi hc,h.ne⟩
 by_cases h3:k=3;·simp only[h3,reduceIte,show ¬(3=1)by decide,show ¬(3=2)by decide]at h hf ⊢;obtain⟨v,h⟩:=h;have e0:=hf t QX QX;have ep:=wd t hm v;exact⟨v,h.v0,by rw[e0];exact h.le,λi hi hc=>by rw[e0];exact h.w i hi hc,λi hi hc=>by rw[e0];exact h.hd i hi hc,h.ne,λk k0 k1=>by rw[hf _ QX QX];exact h.pl k k0 k1,by rw[hf _ QX QX];exact h.sv⟩
 by_cases h4:k=4;·simp only[h4,reduceIte,show ¬(4=1)by decide,show ¬(4=2)by decide,show ¬(4=3)by decide]at h hf ⊢;have e:=zN hf;rw[hf t QX QX,e.1,e.2];exact h
 ·simp only[h1,h2,h3,h4,reduceIte]at h hf ⊢;obtain⟨e,h⟩:=h;exact⟨e,by rw[hf t QX QX,zM hf];exact h⟩
theorem bZ.frame{W W':List Int}{S:List Sp}(h:bZ k t m n W S)(hl:W'.length=W.length)(hf:∀y,t<=y->y<t+szI k n m->ldW W' y=ldW W y):bZ k t m n W' S:=
 ⟨h.len,h.m1,h.t1,by rw[hl];exact h.t2,h.i.congr h.m1 hf⟩
theorem bZ.one{W:List Int}{S:List Sp}(h:bZ k t m n W S)(hk:1<=k/\k<=5){i j:Nat}(hi:i<n)(hj:j<n)(h1:(sv S i).pc=10)(h2:(sv S j).pc=10):i=j:=by
 have hk':k=1\/k=2\/k=3\/k=4\/k=5:=by omega
 rcases hk' with rfl|rfl|rfl|rfl|rfl
 ·exact gk.one (show gk t n (ldW W) (sv S)from h.i) hi hj h1 h2
 ·exact dz.one (show dz t n (ldW W) (sv S)from h.i) hi hj h1 h2
 ·obtain⟨v,hI⟩:∃v,dQ t m n (ldW W) (sv S) v:=h.i;exact hI.one hi hj h1 h2
 ·exact(show McA n _ _ _ (sv S)from h.i).tk.one i j hi hj (.inl QX) (.inl QX)
 ·obtain⟨e,hI⟩:∃e,ClA n (ldW W t) (fC t n (ldW W)) (sv S) e:=h.i;exact hI.one hi hj h1 h2
theorem svS{S:List Sp}{i:Nat}(hi:i<S.length)(p:Sp)(j:Nat):sv (S.set i p) j=if j=i then p else sv S j:=by
 rw[cD];by_cases e:i=j;·subst e;rw[if_pos ⟨rfl,hi⟩,if_pos rfl]
 ·rw[if_neg (λh=>e h.1),if_neg (λh=>e h.symm)]
theorem DR{W:List Int}{S:List Sp}(h:bZ k t m n W S){i:Nat}(hi:i<n):sv (S.set i (sv S i))=sv S:=by
 funext j;rw[svS (by rw[h.len];exact hi)];split;·rename_i e3;rw[e3]
 ·rfl
theorem bZ.ask{W:List Int}{S:List Sp}(h:bZ k t m n W S)(hk:1<=k/\k<=5){i:Nat}(hi:i<n):bZ k t m n W (S.set i (askK k (sv S i))):=by
 refine⟨by rw[List.length_set];exact h.len,h.m1,h.t1,h.t2,?_⟩;by_cases h0:(sv S i).pc=0
 ·have hs:=svS (S:=S) (i:=i) (by rw[h.len];exact hi) (askK k (sv S i));have hp:askK k (sv S i)=if k=1 then {(sv S i)with pc:=1,a:=1} else {(sv S i)with pc:=1}:=by unfold askK;rw[if_pos h0]
  have hk':k=1\/k=2\/k=3\/k=4\/k=5:=by omega
  rcases hk' with rfl|rfl|rfl|rfl|rfl
  ·have hI:gk t n (ldW W) (sv S):=h.i;exact gk.off hI hs (by rw[hp];simp)
  ·have hI:dz t n (ldW W) (sv S):=h.i;exact dz.off hI hs (by rw[hp];rfl) (.inl ⟨h0,by rw[hp];rfl⟩)
  ·obtain⟨v,hI⟩:∃v,dQ t m n (ldW W) (sv S) v:=h.i;exact⟨v,hI.off hs (by rw[hp];rfl) (.inl ⟨h0,by rw[hp];rfl⟩)⟩
  ·exact McA.beg (show McA n _ _ _ (sv S)from h.i) hi hs (.inr ⟨h0,by rw[hp];rfl⟩)
  ·obtain⟨e,hI⟩:∃e,ClA n (ldW W t) (fC t n (ldW W)) (sv S) e:=h.i;exact⟨e,hI.put hi hs (by rw[hp];rfl) (λ_ _=>rfl) (λhc=>by rw[hp]at hc;simp at hc) (.inl ⟨by omega,by rw[hp];show(1:Int)<3;decide⟩)⟩
 ·have e:askK k (sv S i)=sv S i:=by unfold askK;rw[if_neg h0]
  rw[e,DR h hi];exact h.i
theorem bZ.leave{W:List Int}{S:List Sp}(h:bZ k t m n W S)(hk:1<=k/\k<=5){i:Nat}(hi:i<n):bZ k t m n W (S.set i (be (sv S i))):=by
 refine⟨by rw[List.length_set];exact h.len,h.m1,h.t1,h.t2,?_⟩;by_cases h0:(sv S i).pc=10
 ·have hs:=svS (S:=S) (i:=i) (by rw[h.len];exact hi) (be (sv S i));have hp:be (sv S i)={(sv S i)with pc:=11}:=by unfold be;rw[if_pos h0]
  have hk':k=1\/k=2\/k=3\/k=4\/k=5:=by omega
  rcases hk' with rfl|rfl|rfl|rfl|rfl
  ·have hI:gk t n (ldW W) (sv S):=h.i;exact gk.off hI hs (by rw[hp];intro _;exact .inl h0)
  ·have hI:dz t n (ldW W) (sv S):=h.i;exact dz.off hI hs (by rw[hp]) (.inr (.inl ⟨h0,by rw[hp]⟩))
  ·obtain⟨v,hI⟩:∃v,dQ t m n (ldW W) (sv S) v:=h.i;exact⟨v,hI.off hs (by rw[hp]) (.inr (.inl ⟨h0,by rw[hp]⟩))⟩
  ·exact McA.beg (show McA n _ _ _ (sv S)from h.i) hi hs (.inl ⟨h0,by rw[hp]⟩)
  ·obtain⟨e,hI⟩:∃e,ClA n (ldW W t) (fC t n (ldW W)) (sv S) e:=h.i;exact⟨e,hI.put hi hs (by rw[hp]) (λ_ _=>rfl) (λ_=>hI.f1 i hi QX) (.inr ⟨by omega,by rw[hp];show(3:Int)<=11;decide,by rw[hp],λ_=>hI.h10 i hi QX⟩)⟩
 ·have e:be (sv S i)=sv S i:=by unfold be;rw[if_neg h0]
  rw[e,DR h hi];exact h.i
def ps (k:Nat)(t m:Int)(n:Nat)(W W':List Int)(S:List Sp)(i:Nat)(p:Sp):Prop:=rf k t m n (ldW W') (sv (S.set i p))/\∀y,¬(t<=y/\y<t+szI k n m)->ldW W' y=ldW W y
theorem Ai{W:List Int}{S:List Sp}(h:bZ k t m n W S){x:Int}(h1:t<=x)(h2:x<t+szI k n m):inR W x=true:=aO.2 (by have:=h.t1;have:=h.t2;omega)
theorem ik{W:List Int}{S:List Sp}(h:bZ k t m n W S){x:Int}(h1:t<=x)(h2:x<t+szI k n m)(v:Int):(∀y,ldW (stW W x v) y=if y=x then v else ldW W y)/\∀y,¬(t<=y/\y<t+szI k n m)->ldW (stW W x v) y=ldW W y:=by have e:=λy=>gf (Ai h h1 h2) v y;exact⟨e,λy hy=>by rw[e,if_neg (by rintro rfl;exact hy ⟨h1,h2⟩)]⟩
end
section
variable{t m:Int}{n:Nat}{s:Ar}{S:List Sp}
theorem jI{i:Nat}(hi:i<S.length){k:Nat}{f:Int->Int}(h:rf k t m n f (sv S)):rf k t m n f (sv (S.set i (sv S i))):=by
 have e2:sv (S.set i (sv S i))=sv S:=by
  funext j;rw[svS hi];split;·rename_i e3;rw[e3]
  ·rfl
 rw[e2];exact h
theorem FY (h:bZ 1 t m n s.W S){i:Nat}(hi:i<n):ps 1 t m n s.W (uT t m s i (sv S i)).1.W S i (uT t m s i (sv S i)).2:=by
 have hl:i<S.length:=by rw[h.len];exact hi
 have hI:gk t n (ldW s.W) (sv S):=h.i;have ho:t<t+szI 1 n m:=by unfold szI;rw[if_pos rfl];omega
 have hin:=Ai h (Int.le_refl t) ho;unfold uT;split
 ·rename_i hpc;have hw:=ik h (Int.le_refl t) ho ((i:Int)+1);have hcw:=gG s t 0 ((i:Int)+1);by_cases h0:ldW s.W t=0;·have hb:cl s t 0=true:=(by unfold cl;rw[hin,h0];rfl);rw[hb]at hcw ⊢;rw[if_pos rfl]at hcw ⊢;refine⟨?_,by show ∀y,_->ldW (dO _ _ _ _).W y=_;rw[hcw];exact hw.2⟩;show gk t n (ldW (dO s t 0 ((i:Int)+1)).W) _;rw[hcw];exact hI.get (svS hl _) hw.1 h0
  ·have hb:cl s t 0=false:=(by unfold cl;rw[hin];simp[h0]);rw[hb]at hcw ⊢;rw[if_neg QZ]at hcw ⊢;refine⟨?_,by show ∀y,_->ldW (dO _ _ _ _).W y=_;rw[hcw];exact λ_ _=>rfl⟩;show gk t n (ldW (dO s t 0 ((i:Int)+1)).W) _;rw[hcw];exact hI.off (svS hl _) QY
 split;·refine⟨?_,λ_ _=>rfl⟩;exact gk.off hI (svS hl _) (by simp only;split<;>simp)
 split;·rename_i h11;have hw:=ik h (Int.le_refl t) ho 0;refine⟨?_,by show ∀y,_->ldW (ac _ _ _).W y=_;rw[aw];exact hw.2⟩;show gk t n (ldW (ac s t 0).W) _;rw[aw];exact hI.put hi (svS hl _) hw.1 h11 rfl
 ·exact Jh
theorem Ez (h:bZ 2 t m n s.W S){B:Int}(hW:WdB B s)(hB:0<=B)(hB2:B<=10000000000000){i:Nat}(hi:i<n):ps 2 t m n s.W (oM t s (sv S i)).1.W S i (oM t s (sv S i)).2:=by
 have hl:i<S.length:=by rw[h.len];exact hi
 have hI:dz t n (ldW s.W) (sv S):=h.i;have hz:szI 2 n m=2:=rfl;unfold oM;split;·have hw:=ik h (Int.le_refl t) Rm (ldW s.W t+1);have hld:=hW.ld hB t;refine⟨?_,by show ∀y,_->ldW (addA _ _ _).W y=_;rw[dR,IntWalk.i64_in _ QX];exact hw.2⟩;show dz t n (ldW (addA s t 1).W) _;rw[dR,IntWalk.i64_in _ QX];exact hI.take (svS hl _) rfl rfl hw.1
 split
 ·rename_i h2;refine⟨?_,by show ∀y,_->ldW (ae _ _).W y=_;rw[aM];exact λ_ _=>rfl⟩;show dz t n (ldW (ae s (t+1)).W) _;rw[aM];by_cases he:ldW s.W (t+1)=(sv S i).a;·exact hI.enter hi (svS hl _) h2 (by simp[he]) rfl he
  ·exact hI.off (svS hl _) rfl (.inr (.inr (by simp[he,h2])))
 split;·rename_i h11;have hw:=ik h (show t<=t+1 by omega) Rm ((sv S i).a+1);refine⟨?_,by show ∀y,_->ldW (ac _ _ _).W y=_;rw[aw];exact hw.2⟩;show dz t n (ldW (ac s (t+1) _).W) _;rw[aw];exact hI.put hi (svS hl _) h11 rfl hw.1
 ·exact Jh
theorem Ey (h:bZ 3 t m n s.W S){B:Int}(hW:WdB B s)(hB:0<=B)(hB2:B<=10000000000000){i:Nat}(hi:i<n):ps 3 t m n s.W (oj t m s (sv S i)).1.W S i (oj t m s (sv S i)).2:=by
 have hl:i<S.length:=by rw[h.len];exact hi
 obtain⟨v,hI⟩:∃v,dQ t m n (ldW s.W) (sv S) v:=h.i;have hm:=h.m1;have hz:szI 3 n m=1+m:=rfl;unfold oj;split;·have hw:=ik h (Int.le_refl t) Rm (ldW s.W t+1);have hld:=hW.ld hB t;refine⟨?_,by show ∀y,_->ldW (addA _ _ _).W y=_;rw[dR,IntWalk.i64_in _ QX];exact hw.2⟩;show ∃v,dQ t m n (ldW (addA s t 1).W) _ v;rw[dR,IntWalk.i64_in _ QX];exact⟨v,hI.take hm (svS hl _) rfl rfl hw.1⟩
 split
 ·rename_i h2;refine⟨?_,by show ∀y,_->ldW (ae _ _).W y=_;rw[aM];exact λ_ _=>rfl⟩;show ∃v,dQ t m n (ldW (ae s _).W) _ v;rw[aM];by_cases he:ldW s.W (pPl t m (sv S i).a)=(sv S i).a+1;·exact⟨v,hI.enter hm hi (svS hl _) h2 (by simp[he]) rfl he⟩
  ·exact⟨v,hI.off (svS hl _) rfl (.inr (.inr (by simp[he,h2])))⟩
 split;·rename_i h11;have hp:=wd t hm ((sv S i).a+1);have hw:=ik h (show t<=pPl t m ((sv S i).a+1)by omega) Rm ((sv S i).a+2);refine⟨?_,by show ∀y,_->ldW (ac _ _ _).W y=_;rw[aw];exact hw.2⟩;show ∃v,dQ t m n (ldW (ac s _ _).W) _ v;rw[aw];exact⟨v+1,hI.put hm hi (svS hl _) h11 rfl hw.1⟩
 ·exact Jh
theorem FT (h:bZ 5 t m n s.W S){i:Nat}(hi:i<n):ps 5 t m n s.W (tL t s (sv S i)).1.W S i (tL t s (sv S i)).2:=by
 have hl:i<S.length:=by rw[h.len];exact hi
 obtain⟨e,hI⟩:∃e,ClA n (ldW s.W t) (fC t n (ldW s.W)) (sv S) e:=h.i;have hz:szI 5 n m=(n:Int)+2:=rfl;have ha:=hI.a0 i hi;unfold tL;split;·rename_i h1;have hw:=ik h (show t<=t+(sv S i).a by omega) Rm 1;have eC:=DD hw.1 ha;refine⟨?_,by show ∀y,_->ldW (ac _ _ _).W y=_;rw[aw];exact hw.2⟩;show ∃e,ClA n (ldW (ac s _ _).W t) (fC t n (ldW (ac s _ _).W)) _ e;rw[aw,eC.1,eC.2];exact⟨e,hI.put hi (svS hl _) rfl (λy hy=>ef _ hy) (λ_=>gC _ _ _) (.inl ⟨by omega,by show(2:Int)<3;decide⟩)⟩
 split;·rename_i h2;have hw:=ik h (Int.le_refl t) Rm (sv S i).a;have eC:=Ew (n:=n) hw.1;refine⟨?_,by show ∀y,_->ldW (bY _ _ _).W y=_;rw[dI];exact hw.2⟩;show ∃e,ClA n (ldW (bY s _ _).W t) (fC t n (ldW (bY s _ _).W)) _ e;rw[dI,eC.1,eC.2];exact⟨e,hI.swap hi (svS hl _) h2 rfl rfl rfl⟩
 split
 ·rename_i h3;refine⟨?_,by show ∀y,_->ldW (ae _ _).W y=_;rw[aM];exact λ_ _=>rfl⟩;show ∃e,ClA n (ldW (ae s _).W t) (fC t n (ldW (ae s _).W)) _ e;rw[aM];have hq:=hI.bq i hi QX;have hb:1<=(sv S i).b/\(sv S i).b<=(n:Int)+1:=hq.elim (λh=>by rw[h];exact hI.e0) fun⟨j,hj,h,_⟩=>by rw[h];exact hI.a0 j hj
  have hC:fC t n (ldW s.W) (sv S i).b=ldW s.W (t+(sv S i).b):=if_pos hb;by_cases he:ldW s.W (t+(sv S i).b)=0;·exact⟨e,hI.put hi (svS hl _) rfl (λ_ _=>rfl) (λ_=>hI.f1 i hi QX) (.inr ⟨by omega,by simp[he],rfl,λ_=>hq.elim id fun⟨j,hj,h,h3⟩=>absurd (hI.f1 j hj QX) (by rw[<-h,hC,he];decide)⟩)⟩
  ·have:({(sv S i)with pc:=if ldW s.W (t+(sv S i).b)=0 then 10 else 3}:Sp)=sv S i:=(by rw[if_neg he,<-h3]);rw[this];exact jI (k:=5) (m:=m) hl h.i
 split;·rename_i h11;have hw:=ik h (show t<=t+(sv S i).a by omega) Rm 0;have eC:=DD hw.1 ha;refine⟨?_,by show ∀y,_->ldW (ac _ _ _).W y=_;rw[aw];exact hw.2⟩;show ∃e,ClA n (ldW (ac s _ _).W t) (fC t n (ldW (ac s _ _).W)) _ e;rw[aw,eC.1,eC.2];exact⟨_,hI.o hi (svS hl {(sv S i)with a:=(sv S i).b,pc:=0}) QX rfl rfl rfl⟩
 ·exact Jh
theorem FX (h:bZ 4 t m n s.W S){i:Nat}(hi:i<n)(hc:iG (sv S i)):ps 4 t m n s.W (lM t s i (sv S i)).1.W S i (lM t s i (sv S i)).2:=by have hz:szI 4 n m=1+2*(n:Int):=rfl;obtain⟨g1,g2⟩:=McA.go (show McA n _ _ _ _ from h.i) hi h.len (λx v h1 h2=>(ik h h1 Rm v).1) (Ai h (Int.le_refl t) Rm) rfl hc rfl;exact⟨g1,λy hy=>g2 y (by rw[hz]at hy;omega)⟩
theorem bZ.step {k:Nat} (h:bZ k t m n s.W S) (hk:1<=k/\k<=5) {B:Int} (hW:WdB B s) (hB:0<=B) (hB2:B<=10000000000000) {i:Nat} (hi:i<n) (hc:pcK k (sv S i)):
    bZ k t m n (bG k t m s i (sv S i)).1.W (S.set i (bG k t m s i (sv S i)).2)/\∀y,¬(t<=y/\y<t+szI k n m)->ldW (bG k t m s i (sv S i)).1.W y=ldW s.W y:=by
  have hl:=(cJ k t m s i (sv S i)).2
  have key:ps k t m n s.W (bG k t m s i (sv S i)).1.W S i (bG k t m s i (sv S i)).2:=by
    have hk':k=1\/k=2\/k=3\/k=4\/k=5:=(by omega);rcases hk' with rfl|rfl|rfl|rfl|rfl
    · exact FY h hi
    · exact Ez h hW hB hB2 hi
    · exact Ey h hW hB hB2 hi
    · exact FX h hi hc
    · exact FT h hi
  exact⟨⟨by rw[List.length_set];exact h.len,h.m1,h.t1,by rw[hl];exact h.t2,key.1⟩,key.2⟩
end
end
end Go.Proofs.YtglokdbiggbkjaaGreat
