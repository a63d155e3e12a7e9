/- Joined: Hm3, Hm4, Hm5. -/
import Derived.Test.YtkdaiomjbkpedaaGreatMgHmcsTenure12
section
/- Layer 27 (hmcs): the tree of rungs as plain data, and what always holds of it. No program in sight. -/
namespace Go.Proofs.YtkdaiomjbkpedaaGreat
open Go.RowKit

/-- the tree: of each thread its places, from its leaf up, and its slots there -/
structure HTr where
  D : Nat
  n : Nat
  np : Nat
  pl : Nat → Nat → Nat
  sl : Nat → Nat → Nat
  nv : Nat → Nat
  lev : Nat → Nat
structure HTr.Ok (T : HTr) : Prop where
  d1 : 1 ≤ T.D
  plt : ∀ t k, t < T.n → k < T.D → T.pl t k < T.np
  slt : ∀ t k, t < T.n → k < T.D → T.sl t k < T.nv (T.pl t k)
  nv32 : ∀ v, v < T.np → T.nv v ≤ 32
  lv : ∀ t k, t < T.n → k < T.D → T.lev (T.pl t k) = k
  up : ∀ t u k, t < T.n → u < T.n → k + 1 < T.D → T.pl t k = T.pl u k → T.pl t (k + 1) = T.pl u (k + 1) ∧ T.sl t (k + 1) = T.sl u (k + 1)
  dn : ∀ t u k, t < T.n → u < T.n → k + 1 < T.D → T.pl t (k + 1) = T.pl u (k + 1) → T.sl t (k + 1) = T.sl u (k + 1) → T.pl t k = T.pl u k
  root : ∀ t u, t < T.n → u < T.n → T.pl t (T.D - 1) = T.pl u (T.D - 1)
  leaf : ∀ t u, t < T.n → u < T.n → T.pl t 0 = T.pl u 0 → T.sl t 0 = T.sl u 0 → t = u
/-- of each place the words and the spots of its rung; the threads' spots -/
structure Hm where
  W : Nat → List Int
  P : Nat → List Sp
  S : List Sp
def Hm.sp (m : Hm) (v j : Nat) : Sp := sv (m.P v) j
def Hm.sg (m : Hm) (v j : Nat) : Int := sgv (m.W v) j
def updH {α : Type} (f : Nat → α) (v : Nat) (x : α) : Nat → α := fun u => if u = v then x else f u
theorem updH_eq {α : Type} (f : Nat → α) (v : Nat) (x : α) : updH f v x v = x := by unfold updH; rw [if_pos rfl]
theorem updH_ne {α : Type} (f : Nat → α) {v u : Nat} (x : α) (h : u ≠ v) : updH f v x u = f u := by unfold updH; rw [if_neg h]
def Hm.slot (m : Hm) (v j : Nat) (p : Sp) : Hm := { m with P := updH m.P v ((m.P v).set j p) }
def Hm.thr (m : Hm) (i : Nat) (s : Sp) : Hm := { m with S := m.S.set i s }
/-- a slot that holds begins to go out, or to hand on -/
def wthH (m : Hm) (v j : Nat) (u c : Int) : Hm := if (m.sp v j).pc = 10 then m.slot v j { m.sp v j with pc := u, c := c } else m
def askH (m : Hm) (v j : Nat) : Hm := if (m.sp v j).pc = 0 then m.slot v j { m.sp v j with pc := 1 } else m
def begH (T : HTr) (bud : Int) : Nat → Hm → Nat → Nat → Hm
  | 0, m, _, _ => m
  | f + 1, m, i, k =>
    if k + 1 = T.D then (wthH m (T.pl i k) (T.sl i k) 11 1).thr i { sv m.S i with pc := 12, c := k }
    else if (m.sp (T.pl i k) (T.sl i k)).a ≤ bud then (wthH m (T.pl i k) (T.sl i k) 15 ((m.sp (T.pl i k) (T.sl i k)).a + 1)).thr i { sv m.S i with pc := 11, c := k }
    else begH T bud f m i (k + 1)
def comeH (T : HTr) (m : Hm) (i k : Nat) : Hm :=
  if (m.sp (T.pl i k) (T.sl i k)).b = 0 ∨ k + 1 = T.D then m.thr i { sv m.S i with pc := 10 }
  else (askH m (T.pl i (k + 1)) (T.sl i (k + 1))).thr i { sv m.S i with c := (k : Int) + 1 }
def downH (T : HTr) (m : Hm) (i k : Nat) : Hm :=
  if k = 0 then m.thr i { sv m.S i with pc := 0 }
  else (wthH m (T.pl i (k - 1)) (T.sl i (k - 1)) 11 (-1)).thr i { sv m.S i with pc := 12, c := (k : Int) - 1 }
/-- the rung's step -/
def rstH (m : Hm) (v j : Nat) : Hm := { m with W := updH m.W v (stepP (arW (m.W v)) 1 ((j : Int) + 1) (m.sp v j)).1.W, P := updH m.P v ((m.P v).set j (stepP (arW (m.W v)) 1 ((j : Int) + 1) (m.sp v j)).2) }
def stepHm (T : HTr) (bud : Int) (m : Hm) (i : Nat) : Hm :=
  if (sv m.S i).pc = 0 ∨ (sv m.S i).pc = 10 then m else
  let k := (sv m.S i).c.toNat
  let v := T.pl i k
  let j := T.sl i k
  if (m.sp v j).pc = 0 ∨ (m.sp v j).pc = 10 then m else
  let m1 := rstH m v j
  if ¬ ((m1.sp v j).pc = 0 ∨ (m1.sp v j).pc = 10) then m1
  else if (sv m.S i).pc = 1 then comeH T m1 i k
  else if (m1.sp v j).pc = 0 then downH T m1 i k
  else begH T bud T.D m1 i (k + 1)
def askHm (T : HTr) (m : Hm) (i : Nat) : Hm := if (sv m.S i).pc = 0 then (askH m (T.pl i 0) (T.sl i 0)).thr i ⟨1, 0, 0, 0⟩ else m
def leaveHm (T : HTr) (bud : Int) (m : Hm) (i : Nat) : Hm := if (sv m.S i).pc = 10 then begH T bud T.D m i 0 else m

/-- how far a thread is; K: how many of its levels, from its leaf up, are its own -/
inductive TSt (T : HTr) (sp : Nat → Nat → Sp) (sg : Nat → Nat → Int) (i : Nat) (s : Sp) : Nat → Prop
  | rest (h : s.pc = 0) : TSt T sp sg i s 0
  | come (c : Nat) (h : s.pc = 1 ∧ s.c = c ∧ c < T.D) (ha : 1 ≤ (sp (T.pl i c) (T.sl i c)).pc ∧ (sp (T.pl i c) (T.sl i c)).pc ≤ 6) (hg : (sp (T.pl i c) (T.sl i c)).pc = 5 → ¬ 0 < sg (T.pl i c) (T.sl i c)) (hb : ∀ k, k < c → (sp (T.pl i k) (T.sl i k)).pc = 10) : TSt T sp sg i s (c + 1)
  | granted (c : Nat) (h : s.pc = 1 ∧ s.c = c ∧ c < T.D) (ha : (sp (T.pl i c) (T.sl i c)).pc = 5 ∧ 0 < sg (T.pl i c) (T.sl i c)) (hb : ∀ k, k < T.D → k ≠ c → (sp (T.pl i k) (T.sl i k)).pc = 10) : TSt T sp sg i s T.D
  | hold (h : s.pc = 10) (hb : ∀ k, k < T.D → (sp (T.pl i k) (T.sl i k)).pc = 10) : TSt T sp sg i s T.D
  | pass (c : Nat) (h : s.pc = 11 ∧ s.c = c ∧ c + 1 < T.D) (ha : (sp (T.pl i c) (T.sl i c)).pc = 15 ∨ (sp (T.pl i c) (T.sl i c)).pc = 16) (hb : ∀ k, k < T.D → k ≠ c → (sp (T.pl i k) (T.sl i k)).pc = 10) : TSt T sp sg i s T.D
  | leave (c : Nat) (h : s.pc = 12 ∧ s.c = c ∧ c < T.D) (ha : 11 ≤ (sp (T.pl i c) (T.sl i c)).pc ∧ (sp (T.pl i c) (T.sl i c)).pc ≤ 14) (hc : (sp (T.pl i c) (T.sl i c)).c = if c + 1 = T.D then 1 else -1) (hb : ∀ k, k < c → (sp (T.pl i k) (T.sl i k)).pc = 10) : TSt T sp sg i s (c + 1)
def VaOk (bud : Int) (p : Sp) : Prop := (p.pc = 10 ∨ p.pc = 15 ∨ p.pc = 16 → 1 ≤ p.a ∧ p.a ≤ bud + 1) ∧ (p.pc = 15 ∨ p.pc = 16 → p.c = p.a + 1 ∧ p.a ≤ bud)
/-- all but how far thread i is -/
structure HX (T : HTr) (bud : Int) (m : Hm) (Q : Nat → List Nat) (O : Nat → Nat → Option Nat) (i : Nat) : Prop where
  rg : ∀ v, v < T.np → RInv (T.nv v) (m.W v) (m.P v) (Q v)
  sl : m.S.length = T.n
  ow : ∀ v j t, O v j = some t → t < T.n ∧ ∃ k, k < T.D ∧ v = T.pl t k ∧ j = T.sl t k
  fr : ∀ v j, v < T.np → j < T.nv v → O v j = none → (m.sp v j).pc = 0
  th : ∀ t, t < T.n → t ≠ i → ∃ K, TSt T m.sp m.sg t (sv m.S t) K ∧ ∀ k, k < T.D → (O (T.pl t k) (T.sl t k) = some t ↔ k < K)
  va : ∀ v j, v < T.np → j < T.nv v → VaOk bud (m.sp v j)
  sa : ∀ v j, v < T.np → (Q v)[0]? = some j → (m.sp v j).pc = 5 → m.sg v j = -1 ∨ (1 ≤ m.sg v j ∧ m.sg v j ≤ bud + 1)
def TOwn (T : HTr) (m : Hm) (O : Nat → Nat → Option Nat) (t : Nat) : Prop := ∃ K, TSt T m.sp m.sg t (sv m.S t) K ∧ ∀ k, k < T.D → (O (T.pl t k) (T.sl t k) = some t ↔ k < K)
structure HInv (T : HTr) (bud : Int) (m : Hm) (Q : Nat → List Nat) (O : Nat → Nat → Option Nat) : Prop where
  x : ∀ i, HX T bud m Q O i
  t : ∀ t, t < T.n → TOwn T m O t
section
variable {T : HTr} {bud : Int} {m m' : Hm} {Q Q' : Nat → List Nat} {O O' : Nat → Nat → Option Nat} {i : Nat}
theorem HInv.of (h : HX T bud m Q O i) (ht : TOwn T m O i) : HInv T bud m Q O := by
  have all : ∀ t, t < T.n → TOwn T m O t := fun t hl => by
    by_cases e : t = i
    · subst e; exact ht
    · exact h.th t hl e
  exact ⟨fun j => ⟨h.rg, h.sl, h.ow, h.fr, fun t hl _ => all t hl, h.va, h.sa⟩, all⟩
theorem TSt.keep {sp sp' : Nat → Nat → Sp} {sg sg' : Nat → Nat → Int} {s : Sp} {K : Nat} (h : TSt T sp sg i s K) (h1 : ∀ k, k < K → k < T.D → sp' (T.pl i k) (T.sl i k) = sp (T.pl i k) (T.sl i k)) (h2 : ∀ k, k < K → k < T.D → (sp (T.pl i k) (T.sl i k)).pc = 5 → sg' (T.pl i k) (T.sl i k) = sg (T.pl i k) (T.sl i k)) : TSt T sp' sg' i s K := by
  cases h with
  | rest h => exact .rest h
  | come c h ha hg hb =>
    have e := h1 c (Nat.lt_succ_self _) h.2.2
    refine .come c h (by rw [e]; exact ha) (fun e5 => ?_) fun k hk => ?_
    · rw [e] at e5
      rw [h2 c (Nat.lt_succ_self _) h.2.2 e5]; exact hg e5
    · rw [h1 k (by omega) (by omega)]; exact hb k hk
  | granted c h ha hb =>
    have e := h1 c h.2.2 h.2.2
    refine .granted c h ⟨by rw [e]; exact ha.1, by rw [h2 c h.2.2 h.2.2 ha.1]; exact ha.2⟩ fun k hk hkc => ?_
    rw [h1 k hk hk]; exact hb k hk hkc
  | hold h hb => exact .hold h fun k hk => by rw [h1 k hk hk]; exact hb k hk
  | pass c h ha hb =>
    refine .pass c h (by rw [h1 c (by omega) (by omega)]; exact ha) fun k hk hkc => ?_
    rw [h1 k hk hk]; exact hb k hk hkc
  | leave c h ha hc hb =>
    have e := h1 c (Nat.lt_succ_self _) h.2.2
    refine .leave c h (by rw [e]; exact ha) (by rw [e]; exact hc) fun k hk => ?_
    rw [h1 k (by omega) (by omega)]; exact hb k hk
theorem sp_slot (m : Hm) (v j : Nat) (p : Sp) (hj : j < (m.P v).length) (u k : Nat) : (m.slot v j p).sp u k = if u = v ∧ k = j then p else m.sp u k := by
  unfold Hm.sp Hm.slot
  show sv (updH m.P v ((m.P v).set j p) u) k = _
  by_cases e : u = v
  · subst e
    rw [updH_eq, sv_set]
    by_cases e2 : k = j
    · subst e2; rw [if_pos ⟨rfl, hj⟩, if_pos ⟨rfl, rfl⟩]
    · rw [if_neg (fun h => e2 h.1.symm), if_neg (fun h => e2 h.2)]
  · rw [updH_ne _ _ e, if_neg (fun h => e h.1)]
theorem HX.len (h : HX T bud m Q O i) {v : Nat} (hv : v < T.np) : (m.P v).length = T.nv v := (h.rg v hv).sl
/-- whoever holds, or hands on, or goes out, is the head -/
theorem HX.head (h : HX T bud m Q O i) {v j : Nat} (hv : v < T.np) (hj : j < T.nv v) (h10 : 6 ≤ (m.sp v j).pc) : (Q v)[0]? = some j := by
  have r := (h.rg v hv).toQInv
  by_cases hQ : j ∈ Q v
  · rcases r.inq hQ with ⟨hd, _⟩ | ⟨_, _, _, _, _, h4 | h5⟩
    · exact hd
    · have := h4.1; unfold Hm.sp at h10; omega
    · have := h5.1; unfold Hm.sp at h10; omega
  · have := (r.out j hj hQ).1.2; unfold Hm.sp at h10; omega
/-- and whoever was told -/
theorem HX.head5 (h : HX T bud m Q O i) {v j : Nat} (hv : v < T.np) (hj : j < T.nv v) (h5 : (m.sp v j).pc = 5) (hg : m.sg v j ≠ 0) : (Q v)[0]? = some j := by
  have r := (h.rg v hv).toQInv
  by_cases hQ : j ∈ Q v
  · rcases r.inq hQ with ⟨hd, _⟩ | ⟨_, _, _, _, h0, _⟩
    · exact hd
    · exact absurd h0 hg
  · have := (r.out j hj hQ).1.2; unfold Hm.sp at h5; omega
/-- the slots that are a thread's own below its top are heads -/
theorem HX.ownHead (h : HX T bud m Q O i) (hT : T.Ok) {t : Nat} (ht : t < T.n) {s : Sp} {K : Nat} (k : TSt T m.sp m.sg t s K) {l : Nat} (hl : l + 1 < K) (hK : K ≤ T.D) : (Q (T.pl t l))[0]? = some (T.sl t l) := by
  have hv := hT.plt t l ht (by omega)
  have hj := hT.slt t l ht (by omega)
  cases k with
  | rest _ => omega
  | come c _ _ _ hb => exact h.head hv hj (by rw [hb l (by omega)]; decide)
  | granted c hc ha hb =>
    by_cases e : l = c
    · subst e; exact h.head5 hv hj ha.1 (by have := ha.2; omega)
    · exact h.head hv hj (by rw [hb l (by omega) e]; decide)
  | hold _ hb => exact h.head hv hj (by rw [hb l (by omega)]; decide)
  | pass c _ ha hb =>
    by_cases e : l = c
    · subst e; exact h.head hv hj (by omega)
    · exact h.head hv hj (by rw [hb l (by omega) e]; decide)
  | leave c _ _ _ hb => exact h.head hv hj (by rw [hb l (by omega)]; decide)
theorem TSt.le {sp : Nat → Nat → Sp} {sg : Nat → Nat → Int} {s : Sp} {K : Nat} (h : TSt T sp sg i s K) : K ≤ T.D := by
  cases h <;> omega
theorem TSt.of10 {sp : Nat → Nat → Sp} {sg : Nat → Nat → Int} {s : Sp} {K : Nat} (h : TSt T sp sg i s K) (e : s.pc = 10) : K = T.D ∧ ∀ k, k < T.D → (sp (T.pl i k) (T.sl i k)).pc = 10 := by
  cases h with
  | rest h => omega
  | come c h => omega
  | granted c h => omega
  | hold h hb => exact ⟨rfl, hb⟩
  | pass c h => omega
  | leave c h => omega
/-- two who hold are one -/
theorem HInv.one (h : HInv T bud m Q O) (hT : T.Ok) {a b : Nat} (ha : a < T.n) (hb : b < T.n) (h1 : (sv m.S a).pc = 10) (h2 : (sv m.S b).pc = 10) : a = b := by
  obtain ⟨Ka, ka, oa⟩ := h.t a ha
  obtain ⟨Kb, kb, ob⟩ := h.t b hb
  obtain ⟨rfl, pa⟩ := ka.of10 h1
  obtain ⟨rfl, pb⟩ := kb.of10 h2
  have hd := hT.d1
  have e1 := (h.x a).head (hT.plt a (T.D - 1) ha (by omega)) (hT.slt a (T.D - 1) ha (by omega)) (by rw [pa (T.D - 1) (by omega)]; decide)
  have e2 := (h.x a).head (hT.plt b (T.D - 1) hb (by omega)) (hT.slt b (T.D - 1) hb (by omega)) (by rw [pb (T.D - 1) (by omega)]; decide)
  have er := hT.root a b ha hb
  rw [er] at e1
  have es : T.sl a (T.D - 1) = T.sl b (T.D - 1) := by rw [e1] at e2; injection e2
  have o1 := (oa (T.D - 1) (by omega)).2 (by omega)
  have o2 := (ob (T.D - 1) (by omega)).2 (by omega)
  rw [er, es, o2] at o1
  injection o1 with o1
  exact o1.symm
end
end Go.Proofs.YtkdaiomjbkpedaaGreat
end
section
/- Layer 27 (hmcs): what a single change keeps. No program in sight. -/
namespace Go.Proofs.YtkdaiomjbkpedaaGreat
open Go.RowKit

section
variable {n : Nat} {W W' : List Int} {S : List Sp} {Q : List Nat} {i : Nat} {p' : Sp}
theorem RInv.head10 (k : RInv n W S Q) (hi : i < n) (h : 6 ≤ (sv S i).pc) : Q[0]? = some i := by
  by_cases hQ : i ∈ Q
  · rcases k.inq hQ with ⟨hd, _⟩ | ⟨_, _, _, _, _, h4 | h5⟩
    · exact hd
    · have := h4.1; omega
    · have := h5.1; omega
  · have := (k.out i hi hQ).1.2; omega
theorem RInv.setHead (k : RInv n W S Q) (hi : i < n) (h10 : (sv S i).pc = 10) (hp : p'.pc = 11 ∨ p'.pc = 15) : RInv n W (S.set i p') Q := by
  have hd := k.head10 hi (by omega)
  refine k.same rfl hi (k.toQInv.headOnly hd k.wl rfl (fun _ => rfl) (fun _ _ => rfl) ⟨.inr (.inr (by omega)), fun e => by omega, fun e => by omega⟩) (fun _ _ => rfl) (fun e => by omega) (fun e => by omega)
theorem RInv.setAsk (k : RInv n W S Q) (hi : i < n) (h0 : (sv S i).pc = 0) (hp : p'.pc = 1) : RInv n W (S.set i p') Q := by
  have hQ : i ∉ Q := k.toQInv.notq (by omega)
  refine k.same rfl hi (k.toQInv.outside hi hQ k.wl rfl (fun _ _ => rfl) (fun _ _ => rfl) ⟨by omega, fun e => by omega, fun e => by omega⟩).1 (fun _ _ => rfl) (fun e => by omega) (fun e => by omega)
end
section
variable {T : HTr} {bud : Int} {m m' : Hm} {Q Q' : Nat → List Nat} {O O' : Nat → Nat → Option Nat} {i : Nat}
theorem HX.thr (h : HX T bud m Q O i) (s : Sp) : HX T bud (m.thr i s) Q O i := by
  refine ⟨h.rg, by show (m.S.set i s).length = T.n; rw [List.length_set]; exact h.sl, h.ow, h.fr, fun t ht hne => ?_, h.va, h.sa⟩
  have e : sv (m.thr i s).S t = sv m.S t := by
    show sv (m.S.set i s) t = _
    rw [sv_set, if_neg (fun h => hne h.1.symm)]
  rw [e]
  exact h.th t ht hne
theorem sv_thr (m : Hm) {i : Nat} (s : Sp) (hi : i < m.S.length) : sv (m.thr i s).S i = s := by
  show sv (m.S.set i s) i = _
  rw [sv_set, if_pos ⟨rfl, hi⟩]
/-- another one's slot is not this one -/
theorem own_ne {t v j k : Nat} (ho : O v j = some i) (hne : t ≠ i) (h : O (T.pl t k) (T.sl t k) = some t) : ¬ (T.pl t k = v ∧ T.sl t k = j) := by
  rintro ⟨rfl, rfl⟩
  rw [h] at ho
  injection ho with ho
  exact hne ho
theorem HX.wth (h : HX T bud m Q O i) {v j : Nat} (hv : v < T.np) (hj : j < T.nv v) (ho : O v j = some i) (h10 : (m.sp v j).pc = 10) (p' : Sp) (hu : p'.pc = 11 ∨ p'.pc = 15) (hva : VaOk bud p') : HX T bud (m.slot v j p') Q O i := by
  have hl := h.len hv
  have hsp := sp_slot m v j p' (by rw [hl]; exact hj)
  refine ⟨fun u hu' => ?_, h.sl, h.ow, fun a b ha hb hab => ?_, fun t ht hne => ?_, fun a b ha hb => ?_, fun a b ha hb h5 => ?_⟩
  · show RInv (T.nv u) (m.W u) (updH m.P v ((m.P v).set j p') u) (Q u)
    by_cases e : u = v
    · subst e; rw [updH_eq]; exact (h.rg u hu').setHead hj h10 hu
    · rw [updH_ne _ _ e]; exact h.rg u hu'
  · rw [hsp, if_neg (fun e => by rw [e.1, e.2, ho] at hab; cases hab)]
    exact h.fr a b ha hb hab
  · obtain ⟨K, k, o⟩ := h.th t ht hne
    refine ⟨K, k.keep (fun l hl' hD => ?_) (fun _ _ _ _ => rfl), o⟩
    rw [hsp, if_neg (own_ne ho hne ((o l hD).2 hl'))]
  · rw [hsp]
    split
    · exact hva
    · exact h.va a b ha hb
  · rw [hsp] at h5
    by_cases e : a = v ∧ b = j
    · rw [if_pos e] at h5; omega
    · rw [if_neg e] at h5; exact h.sa a b ha hb h5
def setO (O : Nat → Nat → Option Nat) (v j : Nat) (x : Option Nat) : Nat → Nat → Option Nat := fun a b => if a = v ∧ b = j then x else O a b
theorem setO_eq (O : Nat → Nat → Option Nat) (v j : Nat) (x : Option Nat) : setO O v j x v j = x := by unfold setO; rw [if_pos ⟨rfl, rfl⟩]
theorem setO_ne {O : Nat → Nat → Option Nat} {v j a b : Nat} {x : Option Nat} (h : ¬ (a = v ∧ b = j)) : setO O v j x a b = O a b := by unfold setO; rw [if_neg h]
theorem HX.ask (h : HX T bud m Q O i) (hi : i < T.n) {k : Nat} (hk : k < T.D) (hT : T.Ok) (ho : O (T.pl i k) (T.sl i k) = none) (p' : Sp) (hp : p'.pc = 1) : HX T bud (m.slot (T.pl i k) (T.sl i k) p') Q (setO O (T.pl i k) (T.sl i k) (some i)) i := by
  have hv := hT.plt i k hi hk
  have hj := hT.slt i k hi hk
  have h0 := h.fr _ _ hv hj ho
  have hl := h.len hv
  have hsp := sp_slot m (T.pl i k) (T.sl i k) p' (by rw [hl]; exact hj)
  refine ⟨fun u hu' => ?_, h.sl, fun a b t hab => ?_, fun a b ha hb hab => ?_, fun t ht hne => ?_, fun a b ha hb => ?_, fun a b ha hb h5 => ?_⟩
  · show RInv (T.nv u) (m.W u) (updH m.P (T.pl i k) ((m.P (T.pl i k)).set (T.sl i k) p') u) (Q u)
    by_cases e : u = T.pl i k
    · subst e; rw [updH_eq]; exact (h.rg _ hv).setAsk hj h0 hp
    · rw [updH_ne _ _ e]; exact h.rg u hu'
  · by_cases e : a = T.pl i k ∧ b = T.sl i k
    · rw [e.1, e.2, setO_eq] at hab
      injection hab with hab
      subst hab
      exact ⟨hi, k, hk, e.1, e.2⟩
    · rw [setO_ne e] at hab; exact h.ow a b t hab
  · by_cases e : a = T.pl i k ∧ b = T.sl i k
    · rw [e.1, e.2, setO_eq] at hab; cases hab
    · rw [setO_ne e] at hab
      rw [hsp, if_neg e]; exact h.fr a b ha hb hab
  · obtain ⟨K, kk, o⟩ := h.th t ht hne
    have hd : ∀ l, O (T.pl t l) (T.sl t l) = some t → ¬ (T.pl t l = T.pl i k ∧ T.sl t l = T.sl i k) := fun l hl' e => by
      rw [e.1, e.2, ho] at hl'; cases hl'
    refine ⟨K, kk.keep (fun l hl' hD => ?_) (fun _ _ _ _ => rfl), fun l hD => ?_⟩
    · rw [hsp, if_neg (hd l ((o l hD).2 hl'))]
    · by_cases e : T.pl t l = T.pl i k ∧ T.sl t l = T.sl i k
      · rw [e.1, e.2, setO_eq]
        refine ⟨fun he => ?_, fun hl' => absurd e (hd l ((o l hD).2 hl'))⟩
        injection he with he
        exact absurd he.symm hne
      · rw [setO_ne e]; exact o l hD
  · rw [hsp]
    split
    · exact ⟨fun e => by omega, fun e => by omega⟩
    · exact h.va a b ha hb
  · rw [hsp] at h5
    by_cases e : a = T.pl i k ∧ b = T.sl i k
    · rw [if_pos e] at h5; omega
    · rw [if_neg e] at h5; exact h.sa a b ha hb h5
/-- a slot that is at rest again is nobody's -/
theorem HX.release (h : HX T bud m Q O i) {v j : Nat} (h0 : (m.sp v j).pc = 0) (ho : O v j = some i) : HX T bud m Q (setO O v j none) i := by
  refine ⟨h.rg, h.sl, fun a b t hab => ?_, fun a b ha hb hab => ?_, fun t ht hne => ?_, h.va, h.sa⟩
  · by_cases e : a = v ∧ b = j
    · rw [e.1, e.2, setO_eq] at hab; cases hab
    · rw [setO_ne e] at hab; exact h.ow a b t hab
  · by_cases e : a = v ∧ b = j
    · rw [e.1, e.2]; exact h0
    · rw [setO_ne e] at hab; exact h.fr a b ha hb hab
  · obtain ⟨K, kk, o⟩ := h.th t ht hne
    refine ⟨K, kk, fun l hD => ?_⟩
    by_cases e : T.pl t l = v ∧ T.sl t l = j
    · rw [← o l hD, e.1, e.2, setO_eq, ho]
      refine ⟨fun he => by (cases he), fun he => ?_⟩
      injection he with he
      exact absurd he.symm hne
    · rw [setO_ne e]; exact o l hD
/-- the rung of one of its slots takes a step, and nobody is told -/
theorem HX.rung (h : HX T bud m Q O i) {v j : Nat} (hv : v < T.np) (hj : j < T.nv v) (ho : O v j = some i) (W' : List Int) (p' : Sp) (Qn : List Nat) (hr : RInv (T.nv v) W' ((m.P v).set j p') Qn) (hst : ∀ k, k ≠ j → sgv W' k = sgv (m.W v) k) (hva : VaOk bud p')
    (hq : ∀ k, k ≠ j → Qn[0]? = some k → (Q v)[0]? = some k) (h5 : Qn[0]? = some j → p'.pc ≠ 5) : HX T bud { m with W := updH m.W v W', P := updH m.P v ((m.P v).set j p') } (updH Q v Qn) O i := by
  have hl := h.len hv
  have hsp : ∀ u k, Hm.sp { m with W := updH m.W v W', P := updH m.P v ((m.P v).set j p') } u k = if u = v ∧ k = j then p' else m.sp u k := sp_slot m v j p' (by rw [hl]; exact hj)
  have hsg : ∀ u k, ¬ (u = v ∧ k = j) → Hm.sg { m with W := updH m.W v W', P := updH m.P v ((m.P v).set j p') } u k = m.sg u k := fun u k hne => by
    show sgv (updH m.W v W' u) k = sgv (m.W u) k
    by_cases e : u = v
    · subst e; rw [updH_eq]; exact hst k fun e2 => hne ⟨rfl, e2⟩
    · rw [updH_ne _ _ e]
  refine ⟨fun u hu' => ?_, h.sl, h.ow, fun a b ha hb hab => ?_, fun t ht hne => ?_, fun a b ha hb => ?_, fun a b ha hb h5' => ?_⟩
  · show RInv (T.nv u) (updH m.W v W' u) (updH m.P v ((m.P v).set j p') u) (updH Q v Qn u)
    by_cases e : u = v
    · subst e; rw [updH_eq, updH_eq, updH_eq]; exact hr
    · rw [updH_ne _ _ e, updH_ne _ _ e, updH_ne _ _ e]; exact h.rg u hu'
  · rw [hsp, if_neg (fun e => by rw [e.1, e.2, ho] at hab; cases hab)]
    exact h.fr a b ha hb hab
  · obtain ⟨K, k, o⟩ := h.th t ht hne
    refine ⟨K, k.keep (fun l hl' hD => ?_) (fun l hl' hD _ => ?_), o⟩
    · rw [hsp, if_neg (own_ne ho hne ((o l hD).2 hl'))]
    · exact hsg _ _ (own_ne ho hne ((o l hD).2 hl'))
  · rw [hsp]
    split
    · exact hva
    · exact h.va a b ha hb
  · rw [hsp] at h5'
    by_cases e : a = v ∧ b = j
    · rw [if_pos e] at h5'
      obtain ⟨rfl, rfl⟩ := e
      rw [updH_eq] at hb
      exact absurd h5' (h5 hb)
    · rw [if_neg e] at h5'
      rw [hsg a b e]
      refine h.sa a b ha ?_ h5'
      by_cases e2 : a = v
      · subst e2
        rw [updH_eq] at hb
        exact hq b (fun e3 => e ⟨rfl, e3⟩) hb
      · rw [updH_ne _ _ e2] at hb; exact hb
/-- the levels above c of u become its own -/
def upO (T : HTr) (O : Nat → Nat → Option Nat) (u c : Nat) : Nat → Nat → Option Nat := fun a b => if (List.range T.D).any (fun k => decide (c < k ∧ a = T.pl u k ∧ b = T.sl u k)) = true then some u else O a b
theorem up_iff {u c a b : Nat} : (List.range T.D).any (fun k => decide (c < k ∧ a = T.pl u k ∧ b = T.sl u k)) = true ↔ ∃ k, c < k ∧ k < T.D ∧ a = T.pl u k ∧ b = T.sl u k := by
  rw [List.any_eq_true]
  constructor
  · rintro ⟨k, hk, h⟩
    obtain ⟨h1, h2, h3⟩ := of_decide_eq_true h
    exact ⟨k, h1, List.mem_range.1 hk, h2, h3⟩
  · rintro ⟨k, h1, h2, h3, h4⟩
    exact ⟨k, List.mem_range.2 h2, decide_eq_true ⟨h1, h3, h4⟩⟩
theorem upO_in {u c k : Nat} (hc : c < k) (hk : k < T.D) : upO T O u c (T.pl u k) (T.sl u k) = some u := by unfold upO; rw [if_pos (up_iff.2 ⟨k, hc, hk, rfl, rfl⟩)]
theorem upO_out {u c a b : Nat} (h : ¬ ∃ k, c < k ∧ k < T.D ∧ a = T.pl u k ∧ b = T.sl u k) : upO T O u c a b = O a b := by unfold upO; rw [if_neg (fun e => h (up_iff.1 e))]
/-- the head goes, and tells the one behind it -/
theorem HX.give (h : HX T bud m Q O i) (hT : T.Ok) {v j s u c : Nat} {r : List Nat} (hv : v < T.np) (hj : j < T.nv v) (ho : O v j = some i) (W' : List Int) (p' : Sp) (hp0 : p'.pc = 0) (hQ : Q v = j :: s :: r) (hr : RInv (T.nv v) W' ((m.P v).set j p') (s :: r)) (hs5 : (m.sp v s).pc = 5)
    (hst : ∀ k, k ≠ j → k ≠ s → sgv W' k = sgv (m.W v) k) (hc1 : sgv W' s = -1 ∨ (1 ≤ sgv W' s ∧ sgv W' s ≤ bud + 1)) (hos : O v s = some u) (hcD : c < T.D) (hvc : v = T.pl u c) (hsc : s = T.sl u c)
    (hup : 0 < sgv W' s → ∀ k, c < k → k < T.D → (m.sp (T.pl u k) (T.sl u k)).pc = 10 ∧ O (T.pl u k) (T.sl u k) = some i) :
    u < T.n ∧ u ≠ i ∧ ∃ O', HX T bud { m with W := updH m.W v W', P := updH m.P v ((m.P v).set j p') } (updH Q v (s :: r)) O' i ∧ (0 < sgv W' s → O' = upO T O u c) ∧ (¬ 0 < sgv W' s → O' = O) := by
  obtain ⟨hun, _⟩ := h.ow v s u hos
  have hnd : (j :: s :: r).Nodup := by rw [← hQ]; exact (h.rg v hv).nd
  have hsj : s ≠ j := fun e => by rw [e] at hnd; simp at hnd
  have hl := h.len hv
  have hsn : s < T.nv v := by have := hT.slt u c hun hcD; rw [← hvc, ← hsc] at this; exact this
  have hsp : ∀ a b, Hm.sp { m with W := updH m.W v W', P := updH m.P v ((m.P v).set j p') } a b = if a = v ∧ b = j then p' else m.sp a b := sp_slot m v j p' (by rw [hl]; exact hj)
  have hsg : ∀ a b, ¬ (a = v ∧ b = j) → ¬ (a = v ∧ b = s) → Hm.sg { m with W := updH m.W v W', P := updH m.P v ((m.P v).set j p') } a b = m.sg a b := fun a b hne hne2 => by
    show sgv (updH m.W v W' a) b = sgv (m.W a) b
    by_cases e : a = v
    · subst e; rw [updH_eq]; exact hst b (fun e2 => hne ⟨rfl, e2⟩) (fun e2 => hne2 ⟨rfl, e2⟩)
    · rw [updH_ne _ _ e]
  have hsgs : Hm.sg { m with W := updH m.W v W', P := updH m.P v ((m.P v).set j p') } v s = sgv W' s := by show sgv (updH m.W v W' v) s = _; rw [updH_eq]
  obtain ⟨_, ki, hkD, hvi, hji⟩ := h.ow v j i ho
  obtain ⟨hin, _⟩ := h.ow v j i ho
  have hki : ki = c := by
    have e1 := hT.lv i ki hin hkD
    have e2 := hT.lv u c hun hcD
    rw [← hvi] at e1
    rw [← hvc] at e2
    omega
  have hui : u ≠ i := fun e => by
    subst e hki
    rw [← hsc] at hji
    exact hsj hji.symm
  have hlev : ∀ k, k < T.D → T.pl u k = v → k = c := fun k hk e => by
    have e1 := hT.lv u k hun hk
    have e2 := hT.lv u c hun hcD
    rw [e] at e1
    rw [← hvc] at e2
    omega
  have hsame : ∀ k, k < T.D → k ≠ c → Hm.sp { m with W := updH m.W v W', P := updH m.P v ((m.P v).set j p') } (T.pl u k) (T.sl u k) = m.sp (T.pl u k) (T.sl u k) := fun k hk hkc => by
    rw [hsp, if_neg (fun e => hkc (hlev k hk e.1))]
  have hsps : Hm.sp { m with W := updH m.W v W', P := updH m.P v ((m.P v).set j p') } v s = m.sp v s := by rw [hsp, if_neg (fun e => hsj e.2)]
  obtain ⟨K, kk, o⟩ := h.th u hun hui
  have hcK : c < K := by rw [← o c hcD, ← hvc, ← hsc]; exact hos
  -- u was coming, at c
  have hcome : K = c + 1 ∧ ((sv m.S u).pc = 1 ∧ (sv m.S u).c = c ∧ c < T.D) ∧ ∀ k, k < c → (m.sp (T.pl u k) (T.sl u k)).pc = 10 := by
    have h5c : (m.sp (T.pl u c) (T.sl u c)).pc = 5 := by rw [← hvc, ← hsc]; exact hs5
    cases kk with
    | rest h => omega
    | come c' h ha hg hb =>
      by_cases e : c = c'
      · subst e; exact ⟨rfl, h, hb⟩
      · have := hb c (by omega); omega
    | granted c' h' ha hb =>
      by_cases e : c = c'
      · subst e
        have := h.head5 (v := T.pl u c) (j := T.sl u c) (by rw [← hvc]; exact hv) (by rw [← hvc, ← hsc]; exact hsn) h5c (by have := ha.2; omega)
        rw [← hvc, ← hsc, hQ] at this
        simp at this
        exact absurd this.symm hsj
      · have := hb c hcD e; omega
    | hold h hb => have := hb c hcD; omega
    | pass c' h ha hb =>
      by_cases e : c = c'
      · subst e; omega
      · have := hb c hcD e; omega
    | leave c' h ha hc hb =>
      by_cases e : c = c'
      · subst e; omega
      · have := hb c (by omega); omega
  obtain ⟨rfl, hu1, hub⟩ := hcome
  have hset : ∀ a b, (∃ k, c < k ∧ k < T.D ∧ a = T.pl u k ∧ b = T.sl u k) → 0 < sgv W' s → O a b = some i := fun a b ⟨k, h1, h2, h3, h4⟩ hp => by rw [h3, h4]; exact (hup hp k h1 h2).2
  have hother : ∀ (O1 : Nat → Nat → Option Nat) (ho1 : ∀ a b, O1 a b = O a b ∨ (O1 a b = some u ∧ O a b = some i)) (t : Nat), t < T.n → t ≠ i → t ≠ u → ∃ K, TSt T (Hm.sp { m with W := updH m.W v W', P := updH m.P v ((m.P v).set j p') }) (Hm.sg { m with W := updH m.W v W', P := updH m.P v ((m.P v).set j p') }) t (sv m.S t) K ∧ ∀ k, k < T.D → (O1 (T.pl t k) (T.sl t k) = some t ↔ k < K) := fun O1 ho1 t ht hti htu => by
    obtain ⟨K', k', o'⟩ := h.th t ht hti
    refine ⟨K', k'.keep (fun l hl' hD => ?_) (fun l hl' hD _ => ?_), fun l hD => ?_⟩
    · rw [hsp, if_neg (own_ne ho hti ((o' l hD).2 hl'))]
    · refine hsg _ _ (own_ne ho hti ((o' l hD).2 hl')) fun e => ?_
      have := (o' l hD).2 hl'
      rw [e.1, e.2, hos] at this
      injection this with this
      exact htu this.symm
    · rcases ho1 (T.pl t l) (T.sl t l) with e | ⟨e1, e2⟩
      · rw [e]; exact o' l hD
      · rw [← o' l hD, e1, e2]
        refine ⟨fun he => ?_, fun he => ?_⟩
        · injection he with he; exact absurd he.symm htu
        · injection he with he; exact absurd he.symm hti
  have hrg : ∀ w, w < T.np → RInv (T.nv w) (updH m.W v W' w) (updH m.P v ((m.P v).set j p') w) (updH Q v (s :: r) w) := fun w hw => by
    by_cases e : w = v
    · subst e; rw [updH_eq, updH_eq, updH_eq]; exact hr
    · rw [updH_ne _ _ e, updH_ne _ _ e, updH_ne _ _ e]; exact h.rg w hw
  have hva : ∀ a b, a < T.np → b < T.nv a → VaOk bud (Hm.sp { m with W := updH m.W v W', P := updH m.P v ((m.P v).set j p') } a b) := fun a b ha hb => by
    rw [hsp]
    split
    · exact ⟨fun e => by omega, fun e => by omega⟩
    · exact h.va a b ha hb
  have hsa : ∀ a b, a < T.np → (updH Q v (s :: r) a)[0]? = some b → (Hm.sp { m with W := updH m.W v W', P := updH m.P v ((m.P v).set j p') } a b).pc = 5 → Hm.sg { m with W := updH m.W v W', P := updH m.P v ((m.P v).set j p') } a b = -1 ∨ (1 ≤ Hm.sg { m with W := updH m.W v W', P := updH m.P v ((m.P v).set j p') } a b ∧ Hm.sg { m with W := updH m.W v W', P := updH m.P v ((m.P v).set j p') } a b ≤ bud + 1) := fun a b ha hb h5 => by
    by_cases e : a = v
    · subst e
      rw [updH_eq] at hb
      obtain rfl : s = b := by simpa using hb
      rw [hsgs]; exact hc1
    · rw [updH_ne _ _ e] at hb
      rw [hsp, if_neg (fun e' => e e'.1)] at h5
      rw [hsg a b (fun e' => e e'.1) (fun e' => e e'.1)]
      exact h.sa a b ha hb h5
  refine ⟨hun, hui, ?_⟩
  by_cases hpos : 0 < sgv W' s
  · refine ⟨upO T O u c, ⟨hrg, h.sl, fun a b t hab => ?_, fun a b ha hb hab => ?_, fun t ht hti => ?_, hva, hsa⟩, fun _ => rfl, fun hn => absurd hpos hn⟩
    · by_cases e : ∃ k, c < k ∧ k < T.D ∧ a = T.pl u k ∧ b = T.sl u k
      · obtain ⟨k, h1, h2, rfl, rfl⟩ := e
        rw [upO_in h1 h2] at hab
        injection hab with hab
        subst hab
        exact ⟨hun, k, h2, rfl, rfl⟩
      · rw [upO_out e] at hab; exact h.ow a b t hab
    · by_cases e : ∃ k, c < k ∧ k < T.D ∧ a = T.pl u k ∧ b = T.sl u k
      · obtain ⟨k, h1, h2, rfl, rfl⟩ := e
        rw [upO_in h1 h2] at hab; cases hab
      · rw [upO_out e] at hab
        rw [hsp]
        split
        · exact hp0
        · exact h.fr a b ha hb hab
    · by_cases e : t = u
      · subst e
        refine ⟨T.D, .granted c hu1 ⟨?_, ?_⟩ fun k hk hkc => ?_, fun k hk => ⟨fun _ => hk, fun _ => ?_⟩⟩
        · rw [← hvc, ← hsc, hsps]; exact hs5
        · rw [← hvc, ← hsc, hsgs]; exact hpos
        · rw [hsame k hk hkc]
          rcases Nat.lt_or_ge k c with h1 | h1
          · exact hub k h1
          · exact (hup hpos k (by omega) hk).1
        · rcases Nat.lt_or_ge c k with h1 | h1
          · exact upO_in h1 hk
          · rw [upO_out]
            · exact (o k hk).2 (by omega)
            · rintro ⟨k', h2, h3, h4, _⟩
              have e1 := hT.lv t k hun hk
              have e2 := hT.lv t k' hun h3
              rw [h4] at e1
              omega
      · refine hother _ (fun a b => ?_) t ht hti e
        by_cases e2 : ∃ k, c < k ∧ k < T.D ∧ a = T.pl u k ∧ b = T.sl u k
        · refine .inr ⟨?_, hset a b e2 hpos⟩
          obtain ⟨k, h1, h2, rfl, rfl⟩ := e2
          exact upO_in h1 h2
        · exact .inl (upO_out e2)
  · refine ⟨O, ⟨hrg, h.sl, h.ow, fun a b ha hb hab => ?_, fun t ht hti => ?_, hva, hsa⟩, fun hp => absurd hp hpos, fun _ => rfl⟩
    · rw [hsp]
      split
      · exact hp0
      · exact h.fr a b ha hb hab
    · by_cases e : t = u
      · subst e
        refine ⟨c + 1, .come c hu1 ?_ (fun _ => ?_) fun k hk => ?_, o⟩
        · rw [← hvc, ← hsc, hsps, hs5]; decide
        · rw [← hvc, ← hsc, hsgs]; exact hpos
        · rw [hsame k (by omega) (by omega)]; exact hub k hk
      · exact hother O (fun a b => .inl rfl) t ht hti e
end
end Go.Proofs.YtkdaiomjbkpedaaGreat
end
section
/- Layer 27 (hmcs): any act keeps what always holds. No program in sight. -/
namespace Go.Proofs.YtkdaiomjbkpedaaGreat
open Go.RowKit

section
variable {T : HTr} {bud : Int} {m m' : Hm} {Q Q' : Nat → List Nat} {O O' : Nat → Nat → Option Nat} {i : Nat}
theorem HX.upNone (h : HX T bud m Q O i) (hT : T.Ok) (hi : i < T.n) {c : Nat} (hc : c + 1 < T.D) (hd : (Q (T.pl i c))[0]? = some (T.sl i c)) (ho : O (T.pl i c) (T.sl i c) = some i) (hn : O (T.pl i (c + 1)) (T.sl i (c + 1)) ≠ some i) : O (T.pl i (c + 1)) (T.sl i (c + 1)) = none := by
  cases hO : O (T.pl i (c + 1)) (T.sl i (c + 1)) with
  | none => rfl
  | some u =>
    exfalso
    have hui : u ≠ i := fun e => hn (by rw [hO, e])
    obtain ⟨hu, k, hk, h1, h2⟩ := h.ow _ _ u hO
    have e1 := hT.lv i (c + 1) hi hc
    have e2 := hT.lv u k hu hk
    rw [h1] at e1
    obtain rfl : k = c + 1 := by omega
    obtain ⟨K, kk, o⟩ := h.th u hu hui
    have hK : c + 1 < K := by rw [← o (c + 1) hc, ← h1, ← h2]; exact hO
    have hh := h.ownHead hT hu kk (l := c) hK kk.le
    have hp := hT.dn i u c hi hu hc h1 h2
    rw [← hp, hd] at hh
    injection hh with hh
    have ou := (o c (by omega)).2 (by omega)
    rw [← hp, ← hh, ho] at ou
    injection ou with ou
    exact hui ou.symm
theorem lenS (h : HX T bud m Q O i) (hi : i < T.n) : i < m.S.length := by rw [h.sl]; exact hi
theorem thr_own {s : Sp} {K : Nat} (hl : i < m.S.length) (k : TSt T m.sp m.sg i s K) (o : ∀ k, k < T.D → (O (T.pl i k) (T.sl i k) = some i ↔ k < K)) : TOwn T (m.thr i s) O i := by
  refine ⟨K, ?_, o⟩
  rw [sv_thr m s hl]
  exact k
/-- it begins to go out, from a level on -/
theorem begH_ok (hT : T.Ok) (hi : i < T.n) : ∀ (f : Nat) (m : Hm) (k0 : Nat), HX T bud m Q O i → (∀ k, k < T.D → O (T.pl i k) (T.sl i k) = some i) → (∀ k, k < T.D → (m.sp (T.pl i k) (T.sl i k)).pc = 10) → k0 < T.D → T.D ≤ k0 + f → HInv T bud (begH T bud f m i k0) Q O := by
  intro f
  induction f with
  | zero => intro m k0 _ _ _ h1 h2; omega
  | succ f ih =>
    intro m k0 h ho h10 hk hf
    unfold begH
    have hv := hT.plt i k0 hi hk
    have hj := hT.slt i k0 hi hk
    have hlen : T.sl i k0 < (m.P (T.pl i k0)).length := by rw [h.len hv]; exact hj
    have hlev : ∀ k, k < T.D → k ≠ k0 → ¬ (T.pl i k = T.pl i k0 ∧ T.sl i k = T.sl i k0) := fun k hk' hne e => by
      have e1 := hT.lv i k hi hk'
      have e2 := hT.lv i k0 hi hk
      rw [e.1] at e1; omega
    have own : ∀ (k : Nat), k < T.D → (O (T.pl i k) (T.sl i k) = some i ↔ k < T.D) := fun k hk' => ⟨fun _ => hk', fun _ => ho k hk'⟩
    by_cases c1 : k0 + 1 = T.D
    · rw [if_pos c1]
      have e : wthH m (T.pl i k0) (T.sl i k0) 11 1 = m.slot (T.pl i k0) (T.sl i k0) { m.sp (T.pl i k0) (T.sl i k0) with pc := 11, c := 1 } := by unfold wthH; rw [if_pos (h10 k0 hk)]
      rw [e]
      have h1 := h.wth hv hj (ho k0 hk) (h10 k0 hk) { m.sp (T.pl i k0) (T.sl i k0) with pc := 11, c := 1 } (.inl rfl) ⟨fun e => absurd e (by show ¬ ((11 : Int) = 10 ∨ (11 : Int) = 15 ∨ (11 : Int) = 16); decide), fun e => absurd e (by show ¬ ((11 : Int) = 15 ∨ (11 : Int) = 16); decide)⟩
      have hsp := sp_slot m (T.pl i k0) (T.sl i k0) { m.sp (T.pl i k0) (T.sl i k0) with pc := 11, c := 1 } hlen
      refine .of (h1.thr _) (thr_own (K := k0 + 1) (lenS h1 hi) (.leave k0 ⟨rfl, rfl, hk⟩ ?_ ?_ fun k hk' => ?_) fun k hk' => by rw [c1]; exact own k hk')
      · rw [hsp, if_pos ⟨rfl, rfl⟩]; exact ⟨by show (11 : Int) ≤ 11; decide, by show (11 : Int) ≤ 14; decide⟩
      · rw [hsp, if_pos ⟨rfl, rfl⟩, if_pos c1]
      · rw [hsp, if_neg (hlev k (by omega) (by omega))]; exact h10 k (by omega)
    · rw [if_neg c1]
      by_cases c2 : (m.sp (T.pl i k0) (T.sl i k0)).a ≤ bud
      · rw [if_pos c2]
        have hva := (h.va _ _ hv hj).1 (.inl (h10 k0 hk))
        have e : wthH m (T.pl i k0) (T.sl i k0) 15 ((m.sp (T.pl i k0) (T.sl i k0)).a + 1) = m.slot (T.pl i k0) (T.sl i k0) { m.sp (T.pl i k0) (T.sl i k0) with pc := 15, c := (m.sp (T.pl i k0) (T.sl i k0)).a + 1 } := by unfold wthH; rw [if_pos (h10 k0 hk)]
        rw [e]
        have h1 := h.wth hv hj (ho k0 hk) (h10 k0 hk) { m.sp (T.pl i k0) (T.sl i k0) with pc := 15, c := (m.sp (T.pl i k0) (T.sl i k0)).a + 1 } (.inr rfl) ⟨fun _ => hva, fun _ => ⟨rfl, c2⟩⟩
        have hsp := sp_slot m (T.pl i k0) (T.sl i k0) { m.sp (T.pl i k0) (T.sl i k0) with pc := 15, c := (m.sp (T.pl i k0) (T.sl i k0)).a + 1 } hlen
        refine .of (h1.thr _) (thr_own (K := T.D) (lenS h1 hi) (.pass k0 ⟨rfl, rfl, by omega⟩ ?_ fun k hk' hne => ?_) own)
        · rw [hsp, if_pos ⟨rfl, rfl⟩]; exact .inl rfl
        · rw [hsp, if_neg (hlev k hk' hne)]; exact h10 k hk'
      · rw [if_neg c2]
        exact ih m (k0 + 1) h ho h10 (by omega) (by omega)
/-- it goes down -/
theorem downH_ok (h : HX T bud m Q O i) (hT : T.Ok) (hi : i < T.n) {c : Nat} (hc : c < T.D) (ho : ∀ k, k < T.D → (O (T.pl i k) (T.sl i k) = some i ↔ k < c)) (h10 : ∀ k, k < c → (m.sp (T.pl i k) (T.sl i k)).pc = 10) : HInv T bud (downH T m i c) Q O := by
  unfold downH
  by_cases c0 : c = 0
  · rw [if_pos c0]
    subst c0
    exact .of (h.thr _) (thr_own (lenS h hi) (.rest rfl) ho)
  · rw [if_neg c0]
    obtain ⟨d, rfl⟩ : ∃ d, c = d + 1 := ⟨c - 1, by omega⟩
    simp only [Nat.add_sub_cancel]
    have hd : d < T.D := by omega
    have hv := hT.plt i d hi hd
    have hj := hT.slt i d hi hd
    have hlen : T.sl i d < (m.P (T.pl i d)).length := by rw [h.len hv]; exact hj
    have e : wthH m (T.pl i d) (T.sl i d) 11 (-1) = m.slot (T.pl i d) (T.sl i d) { m.sp (T.pl i d) (T.sl i d) with pc := 11, c := -1 } := by unfold wthH; rw [if_pos (h10 d (by omega))]
    rw [e]
    have h1 := h.wth hv hj ((ho d hd).2 (by omega)) (h10 d (by omega)) { m.sp (T.pl i d) (T.sl i d) with pc := 11, c := -1 } (.inl rfl) ⟨fun e => absurd e (by show ¬ ((11 : Int) = 10 ∨ (11 : Int) = 15 ∨ (11 : Int) = 16); decide), fun e => absurd e (by show ¬ ((11 : Int) = 15 ∨ (11 : Int) = 16); decide)⟩
    have hsp := sp_slot m (T.pl i d) (T.sl i d) { m.sp (T.pl i d) (T.sl i d) with pc := 11, c := -1 } hlen
    refine .of (h1.thr _) (thr_own (lenS h1 hi) (.leave d ⟨rfl, by show ((d + 1 : Nat) : Int) - 1 = d; omega, hd⟩ ?_ ?_ fun k hk' => ?_) ho)
    · rw [hsp, if_pos ⟨rfl, rfl⟩]; exact ⟨by show (11 : Int) ≤ 11; decide, by show (11 : Int) ≤ 14; decide⟩
    · rw [hsp, if_pos ⟨rfl, rfl⟩, if_neg (by omega)]
    · rw [hsp, if_neg]
      · exact h10 k (by omega)
      · intro e
        have e1 := hT.lv i k hi (by omega)
        have e2 := hT.lv i d hi hd
        rw [e.1] at e1; omega
/-- it asks at its leaf -/
theorem HInv.ask (h : HInv T bud m Q O) (hT : T.Ok) (hi : i < T.n) : ∃ O', HInv T bud (askHm T m i) Q O' := by
  unfold askHm
  by_cases c0 : (sv m.S i).pc = 0
  · rw [if_pos c0]
    have hd := hT.d1
    have hx := h.x i
    obtain ⟨K, k, o⟩ := h.t i hi
    have hK : K = 0 := by cases k <;> first | rfl | omega
    subst hK
    have hn : O (T.pl i 0) (T.sl i 0) = none := by
      cases hO : O (T.pl i 0) (T.sl i 0) with
      | none => rfl
      | some u =>
        exfalso
        obtain ⟨hu, k', hk', h1, h2⟩ := hx.ow _ _ u hO
        have e1 := hT.lv i 0 hi (by omega)
        have e2 := hT.lv u k' hu hk'
        rw [h1] at e1
        obtain rfl : k' = 0 := by omega
        obtain rfl : i = u := hT.leaf i u hi hu h1 h2
        have := (o 0 (by omega)).1 hO
        omega
    have hv := hT.plt i 0 hi (by omega)
    have hj := hT.slt i 0 hi (by omega)
    have h0 := hx.fr _ _ hv hj hn
    have e : askH m (T.pl i 0) (T.sl i 0) = m.slot (T.pl i 0) (T.sl i 0) { m.sp (T.pl i 0) (T.sl i 0) with pc := 1 } := by unfold askH; rw [if_pos h0]
    rw [e]
    have h1 := hx.ask hi (k := 0) (by omega) hT hn { m.sp (T.pl i 0) (T.sl i 0) with pc := 1 } rfl
    have hsp := sp_slot m (T.pl i 0) (T.sl i 0) { m.sp (T.pl i 0) (T.sl i 0) with pc := 1 } (by rw [hx.len hv]; exact hj)
    refine ⟨_, .of (h1.thr _) (thr_own (lenS h1 hi) (.come 0 ⟨rfl, rfl, by omega⟩ ?_ (fun e5 => ?_) fun k hk => by omega) fun k hk => ?_)⟩
    · rw [hsp, if_pos ⟨rfl, rfl⟩]; exact ⟨by show (1 : Int) ≤ 1; decide, by show (1 : Int) ≤ 6; decide⟩
    · rw [hsp, if_pos ⟨rfl, rfl⟩] at e5; exact absurd e5 (by show ¬ (1 : Int) = 5; decide)
    · by_cases e : k = 0
      · subst e; rw [setO_eq]; exact ⟨fun _ => by omega, fun _ => rfl⟩
      · rw [setO_ne (fun e' => by
          have e1 := hT.lv i k hi hk
          have e2 := hT.lv i 0 hi (by omega)
          rw [e'.1] at e1; omega)]
        rw [o k hk]
        exact ⟨fun h => by omega, fun h => by omega⟩
  · rw [if_neg c0]; exact ⟨O, h⟩
/-- it leaves -/
theorem HInv.leave (h : HInv T bud m Q O) (hT : T.Ok) (hi : i < T.n) : HInv T bud (leaveHm T bud m i) Q O := by
  unfold leaveHm
  by_cases c0 : (sv m.S i).pc = 10
  · rw [if_pos c0]
    have hd := hT.d1
    obtain ⟨K, k, o⟩ := h.t i hi
    obtain ⟨rfl, h10⟩ := k.of10 c0
    exact begH_ok hT hi T.D m 0 (h.x i) (fun k hk => (o k hk).2 hk) h10 (by omega) (by omega)
  · rw [if_neg c0]; exact h
end
end Go.Proofs.YtkdaiomjbkpedaaGreat
end
