/- Joined: Hm4, Hm5, Hm6, Hm7. -/
import Derived.Test.YtkdaiomjbkpedaaGreatMgHmcsU5
section
/- Layer 27 (hmcs): what a single change keeps. No program in sight. -/
namespace Go.Proofs.YtkdaiomjbkpedaaGreat
open Go.RowKit

section
variable {n : Nat} {W W' : List Int} {S : List Sp} {Q : List Nat} {i : Nat} {p' : Sp}
theorem RInv.head10 (k : RInv n W S Q) (hi : i < n) (h : 6 ≤ (sv S i).pc) : Q[0]? = some i := by
  by_cases hQ : i ∈ Q
  · rcases k.inq hQ with ⟨hd, _⟩ | ⟨_, _, _, _, _, h4 | h5⟩
    · exact hd
    · have := h4.1; omega
    · have := h5.1; omega
  · have := (k.out i hi hQ).1.2; omega
theorem RInv.setHead (k : RInv n W S Q) (hi : i < n) (h10 : (sv S i).pc = 10) (hp : p'.pc = 11 ∨ p'.pc = 15) : RInv n W (S.set i p') Q := by
  have hd := k.head10 hi (by omega)
  refine k.same rfl hi (k.toQInv.headOnly hd k.wl rfl (fun _ => rfl) (fun _ _ => rfl) ⟨.inr (.inr (by omega)), fun e => by omega, fun e => by omega⟩) (fun _ _ => rfl) (fun e => by omega) (fun e => by omega)
theorem RInv.setAsk (k : RInv n W S Q) (hi : i < n) (h0 : (sv S i).pc = 0) (hp : p'.pc = 1) : RInv n W (S.set i p') Q := by
  have hQ : i ∉ Q := k.toQInv.notq (by omega)
  refine k.same rfl hi (k.toQInv.outside hi hQ k.wl rfl (fun _ _ => rfl) (fun _ _ => rfl) ⟨by omega, fun e => by omega, fun e => by omega⟩).1 (fun _ _ => rfl) (fun e => by omega) (fun e => by omega)
end
section
variable {T : HTr} {bud : Int} {m m' : Hm} {Q Q' : Nat → List Nat} {O O' : Nat → Nat → Option Nat} {i : Nat}
theorem HX.thr (h : HX T bud m Q O i) (s : Sp) : HX T bud (m.thr i s) Q O i := by
  refine ⟨h.rg, by show (m.S.set i s).length = T.n; rw [List.length_set]; exact h.sl, h.ow, h.fr, fun t ht hne => ?_, h.va, h.sa⟩
  have e : sv (m.thr i s).S t = sv m.S t := by
    show sv (m.S.set i s) t = _
    rw [sv_set, if_neg (fun h => hne h.1.symm)]
  rw [e]
  exact h.th t ht hne
theorem sv_thr (m : Hm) {i : Nat} (s : Sp) (hi : i < m.S.length) : sv (m.thr i s).S i = s := by
  show sv (m.S.set i s) i = _
  rw [sv_set, if_pos ⟨rfl, hi⟩]
/-- another one's slot is not this one -/
theorem own_ne {t v j k : Nat} (ho : O v j = some i) (hne : t ≠ i) (h : O (T.pl t k) (T.sl t k) = some t) : ¬ (T.pl t k = v ∧ T.sl t k = j) := by
  rintro ⟨rfl, rfl⟩
  rw [h] at ho
  injection ho with ho
  exact hne ho
theorem HX.wth (h : HX T bud m Q O i) {v j : Nat} (hv : v < T.np) (hj : j < T.nv v) (ho : O v j = some i) (h10 : (m.sp v j).pc = 10) (p' : Sp) (hu : p'.pc = 11 ∨ p'.pc = 15) (hva : VaOk bud p') : HX T bud (m.slot v j p') Q O i := by
  have hl := h.len hv
  have hsp := sp_slot m v j p' (by rw [hl]; exact hj)
  refine ⟨fun u hu' => ?_, h.sl, h.ow, fun a b ha hb hab => ?_, fun t ht hne => ?_, fun a b ha hb => ?_, fun a b ha hb h5 => ?_⟩
  · show RInv (T.nv u) (m.W u) (updH m.P v ((m.P v).set j p') u) (Q u)
    by_cases e : u = v
    · subst e; rw [updH_eq]; exact (h.rg u hu').setHead hj h10 hu
    · rw [updH_ne _ _ e]; exact h.rg u hu'
  · rw [hsp, if_neg (fun e => by rw [e.1, e.2, ho] at hab; cases hab)]
    exact h.fr a b ha hb hab
  · obtain ⟨K, k, o⟩ := h.th t ht hne
    refine ⟨K, k.keep (fun l hl' hD => ?_) (fun _ _ _ _ => rfl), o⟩
    rw [hsp, if_neg (own_ne ho hne ((o l hD).2 hl'))]
  · rw [hsp]
    split
    · exact hva
    · exact h.va a b ha hb
  · rw [hsp] at h5
    by_cases e : a = v ∧ b = j
    · rw [if_pos e] at h5; omega
    · rw [if_neg e] at h5; exact h.sa a b ha hb h5
def setO (O : Nat → Nat → Option Nat) (v j : Nat) (x : Option Nat) : Nat → Nat → Option Nat := fun a b => if a = v ∧ b = j then x else O a b
theorem setO_eq (O : Nat → Nat → Option Nat) (v j : Nat) (x : Option Nat) : setO O v j x v j = x := by unfold setO; rw [if_pos ⟨rfl, rfl⟩]
theorem setO_ne {O : Nat → Nat → Option Nat} {v j a b : Nat} {x : Option Nat} (h : ¬ (a = v ∧ b = j)) : setO O v j x a b = O a b := by unfold setO; rw [if_neg h]
theorem HX.ask (h : HX T bud m Q O i) (hi : i < T.n) {k : Nat} (hk : k < T.D) (hT : T.Ok) (ho : O (T.pl i k) (T.sl i k) = none) (p' : Sp) (hp : p'.pc = 1) : HX T bud (m.slot (T.pl i k) (T.sl i k) p') Q (setO O (T.pl i k) (T.sl i k) (some i)) i := by
  have hv := hT.plt i k hi hk
  have hj := hT.slt i k hi hk
  have h0 := h.fr _ _ hv hj ho
  have hl := h.len hv
  have hsp := sp_slot m (T.pl i k) (T.sl i k) p' (by rw [hl]; exact hj)
  refine ⟨fun u hu' => ?_, h.sl, fun a b t hab => ?_, fun a b ha hb hab => ?_, fun t ht hne => ?_, fun a b ha hb => ?_, fun a b ha hb h5 => ?_⟩
  · show RInv (T.nv u) (m.W u) (updH m.P (T.pl i k) ((m.P (T.pl i k)).set (T.sl i k) p') u) (Q u)
    by_cases e : u = T.pl i k
    · subst e; rw [updH_eq]; exact (h.rg _ hv).setAsk hj h0 hp
    · rw [updH_ne _ _ e]; exact h.rg u hu'
  · by_cases e : a = T.pl i k ∧ b = T.sl i k
    · rw [e.1, e.2, setO_eq] at hab
      injection hab with hab
      subst hab
      exact ⟨hi, k, hk, e.1, e.2⟩
    · rw [setO_ne e] at hab; exact h.ow a b t hab
  · by_cases e : a = T.pl i k ∧ b = T.sl i k
    · rw [e.1, e.2, setO_eq] at hab; cases hab
    · rw [setO_ne e] at hab
      rw [hsp, if_neg e]; exact h.fr a b ha hb hab
  · obtain ⟨K, kk, o⟩ := h.th t ht hne
    have hd : ∀ l, O (T.pl t l) (T.sl t l) = some t → ¬ (T.pl t l = T.pl i k ∧ T.sl t l = T.sl i k) := fun l hl' e => by
      rw [e.1, e.2, ho] at hl'; cases hl'
    refine ⟨K, kk.keep (fun l hl' hD => ?_) (fun _ _ _ _ => rfl), fun l hD => ?_⟩
    · rw [hsp, if_neg (hd l ((o l hD).2 hl'))]
    · by_cases e : T.pl t l = T.pl i k ∧ T.sl t l = T.sl i k
      · rw [e.1, e.2, setO_eq]
        refine ⟨fun he => ?_, fun hl' => absurd e (hd l ((o l hD).2 hl'))⟩
        injection he with he
        exact absurd he.symm hne
      · rw [setO_ne e]; exact o l hD
  · rw [hsp]
    split
    · exact ⟨fun e => by omega, fun e => by omega⟩
    · exact h.va a b ha hb
  · rw [hsp] at h5
    by_cases e : a = T.pl i k ∧ b = T.sl i k
    · rw [if_pos e] at h5; omega
    · rw [if_neg e] at h5; exact h.sa a b ha hb h5
/-- a slot that is at rest again is nobody's -/
theorem HX.release (h : HX T bud m Q O i) {v j : Nat} (h0 : (m.sp v j).pc = 0) (ho : O v j = some i) : HX T bud m Q (setO O v j none) i := by
  refine ⟨h.rg, h.sl, fun a b t hab => ?_, fun a b ha hb hab => ?_, fun t ht hne => ?_, h.va, h.sa⟩
  · by_cases e : a = v ∧ b = j
    · rw [e.1, e.2, setO_eq] at hab; cases hab
    · rw [setO_ne e] at hab; exact h.ow a b t hab
  · by_cases e : a = v ∧ b = j
    · rw [e.1, e.2]; exact h0
    · rw [setO_ne e] at hab; exact h.fr a b ha hb hab
  · obtain ⟨K, kk, o⟩ := h.th t ht hne
    refine ⟨K, kk, fun l hD => ?_⟩
    by_cases e : T.pl t l = v ∧ T.sl t l = j
    · rw [← o l hD, e.1, e.2, setO_eq, ho]
      refine ⟨fun he => by (cases he), fun he => ?_⟩
      injection he with he
      exact absurd he.symm hne
    · rw [setO_ne e]; exact o l hD
/-- the rung of one of its slots takes a step, and nobody is told -/
theorem HX.rung (h : HX T bud m Q O i) {v j : Nat} (hv : v < T.np) (hj : j < T.nv v) (ho : O v j = some i) (W' : List Int) (p' : Sp) (Qn : List Nat) (hr : RInv (T.nv v) W' ((m.P v).set j p') Qn) (hst : ∀ k, k ≠ j → sgv W' k = sgv (m.W v) k) (hva : VaOk bud p')
    (hq : ∀ k, k ≠ j → Qn[0]? = some k → (Q v)[0]? = some k) (h5 : Qn[0]? = some j → p'.pc ≠ 5) : HX T bud { m with W := updH m.W v W', P := updH m.P v ((m.P v).set j p') } (updH Q v Qn) O i := by
  have hl := h.len hv
  have hsp : ∀ u k, Hm.sp { m with W := updH m.W v W', P := updH m.P v ((m.P v).set j p') } u k = if u = v ∧ k = j then p' else m.sp u k := sp_slot m v j p' (by rw [hl]; exact hj)
  have hsg : ∀ u k, ¬ (u = v ∧ k = j) → Hm.sg { m with W := updH m.W v W', P := updH m.P v ((m.P v).set j p') } u k = m.sg u k := fun u k hne => by
    show sgv (updH m.W v W' u) k = sgv (m.W u) k
    by_cases e : u = v
    · subst e; rw [updH_eq]; exact hst k fun e2 => hne ⟨rfl, e2⟩
    · rw [updH_ne _ _ e]
  refine ⟨fun u hu' => ?_, h.sl, h.ow, fun a b ha hb hab => ?_, fun t ht hne => ?_, fun a b ha hb => ?_, fun a b ha hb h5' => ?_⟩
  · show RInv (T.nv u) (updH m.W v W' u) (updH m.P v ((m.P v).set j p') u) (updH Q v Qn u)
    by_cases e : u = v
    · subst e; rw [updH_eq, updH_eq, updH_eq]; exact hr
    · rw [updH_ne _ _ e, updH_ne _ _ e, updH_ne _ _ e]; exact h.rg u hu'
  · rw [hsp, if_neg (fun e => by rw [e.1, e.2, ho] at hab; cases hab)]
    exact h.fr a b ha hb hab
  · obtain ⟨K, k, o⟩ := h.th t ht hne
    refine ⟨K, k.keep (fun l hl' hD => ?_) (fun l hl' hD _ => ?_), o⟩
    · rw [hsp, if_neg (own_ne ho hne ((o l hD).2 hl'))]
    · exact hsg _ _ (own_ne ho hne ((o l hD).2 hl'))
  · rw [hsp]
    split
    · exact hva
    · exact h.va a b ha hb
  · rw [hsp] at h5'
    by_cases e : a = v ∧ b = j
    · rw [if_pos e] at h5'
      obtain ⟨rfl, rfl⟩ := e
      rw [updH_eq] at hb
      exact absurd h5' (h5 hb)
    · rw [if_neg e] at h5'
      rw [hsg a b e]
      refine h.sa a b ha ?_ h5'
      by_cases e2 : a = v
      · subst e2
        rw [updH_eq] at hb
        exact hq b (fun e3 => e ⟨rfl, e3⟩) hb
      · rw [updH_ne _ _ e2] at hb; exact hb
/-- the levels above c of u become its own -/
def upO (T : HTr) (O : Nat → Nat → Option Nat) (u c : Nat) : Nat → Nat → Option Nat := fun a b => if (List.range T.D).any (fun k => decide (c < k ∧ a = T.pl u k ∧ b = T.sl u k)) = true then some u else O a b
theorem up_iff {u c a b : Nat} : (List.range T.D).any (fun k => decide (c < k ∧ a = T.pl u k ∧ b = T.sl u k)) = true ↔ ∃ k, c < k ∧ k < T.D ∧ a = T.pl u k ∧ b = T.sl u k := by
  rw [List.any_eq_true]
  constructor
  · rintro ⟨k, hk, h⟩
    obtain ⟨h1, h2, h3⟩ := of_decide_eq_true h
    exact ⟨k, h1, List.mem_range.1 hk, h2, h3⟩
  · rintro ⟨k, h1, h2, h3, h4⟩
    exact ⟨k, List.mem_range.2 h2, decide_eq_true ⟨h1, h3, h4⟩⟩
theorem upO_in {u c k : Nat} (hc : c < k) (hk : k < T.D) : upO T O u c (T.pl u k) (T.sl u k) = some u := by unfold upO; rw [if_pos (up_iff.2 ⟨k, hc, hk, rfl, rfl⟩)]
theorem upO_out {u c a b : Nat} (h : ¬ ∃ k, c < k ∧ k < T.D ∧ a = T.pl u k ∧ b = T.sl u k) : upO T O u c a b = O a b := by unfold upO; rw [if_neg (fun e => h (up_iff.1 e))]
/-- the head goes, and tells the one behind it -/
theorem HX.give (h : HX T bud m Q O i) (hT : T.Ok) {v j s u c : Nat} {r : List Nat} (hv : v < T.np) (hj : j < T.nv v) (ho : O v j = some i) (W' : List Int) (p' : Sp) (hp0 : p'.pc = 0) (hQ : Q v = j :: s :: r) (hr : RInv (T.nv v) W' ((m.P v).set j p') (s :: r)) (hs5 : (m.sp v s).pc = 5)
    (hst : ∀ k, k ≠ j → k ≠ s → sgv W' k = sgv (m.W v) k) (hc1 : sgv W' s = -1 ∨ (1 ≤ sgv W' s ∧ sgv W' s ≤ bud + 1)) (hos : O v s = some u) (hcD : c < T.D) (hvc : v = T.pl u c) (hsc : s = T.sl u c)
    (hup : 0 < sgv W' s → ∀ k, c < k → k < T.D → (m.sp (T.pl u k) (T.sl u k)).pc = 10 ∧ O (T.pl u k) (T.sl u k) = some i) :
    u < T.n ∧ u ≠ i ∧ ∃ O', HX T bud { m with W := updH m.W v W', P := updH m.P v ((m.P v).set j p') } (updH Q v (s :: r)) O' i ∧ (0 < sgv W' s → O' = upO T O u c) ∧ (¬ 0 < sgv W' s → O' = O) := by
  obtain ⟨hun, _⟩ := h.ow v s u hos
  have hnd : (j :: s :: r).Nodup := by rw [← hQ]; exact (h.rg v hv).nd
  have hsj : s ≠ j := fun e => by rw [e] at hnd; simp at hnd
  have hl := h.len hv
  have hsn : s < T.nv v := by have := hT.slt u c hun hcD; rw [← hvc, ← hsc] at this; exact this
  have hsp : ∀ a b, Hm.sp { m with W := updH m.W v W', P := updH m.P v ((m.P v).set j p') } a b = if a = v ∧ b = j then p' else m.sp a b := sp_slot m v j p' (by rw [hl]; exact hj)
  have hsg : ∀ a b, ¬ (a = v ∧ b = j) → ¬ (a = v ∧ b = s) → Hm.sg { m with W := updH m.W v W', P := updH m.P v ((m.P v).set j p') } a b = m.sg a b := fun a b hne hne2 => by
    show sgv (updH m.W v W' a) b = sgv (m.W a) b
    by_cases e : a = v
    · subst e; rw [updH_eq]; exact hst b (fun e2 => hne ⟨rfl, e2⟩) (fun e2 => hne2 ⟨rfl, e2⟩)
    · rw [updH_ne _ _ e]
  have hsgs : Hm.sg { m with W := updH m.W v W', P := updH m.P v ((m.P v).set j p') } v s = sgv W' s := by show sgv (updH m.W v W' v) s = _; rw [updH_eq]
  obtain ⟨_, ki, hkD, hvi, hji⟩ := h.ow v j i ho
  obtain ⟨hin, _⟩ := h.ow v j i ho
  have hki : ki = c := by
    have e1 := hT.lv i ki hin hkD
    have e2 := hT.lv u c hun hcD
    rw [← hvi] at e1
    rw [← hvc] at e2
    omega
  have hui : u ≠ i := fun e => by
    subst e hki
    rw [← hsc] at hji
    exact hsj hji.symm
  have hlev : ∀ k, k < T.D → T.pl u k = v → k = c := fun k hk e => by
    have e1 := hT.lv u k hun hk
    have e2 := hT.lv u c hun hcD
    rw [e] at e1
    rw [← hvc] at e2
    omega
  have hsame : ∀ k, k < T.D → k ≠ c → Hm.sp { m with W := updH m.W v W', P := updH m.P v ((m.P v).set j p') } (T.pl u k) (T.sl u k) = m.sp (T.pl u k) (T.sl u k) := fun k hk hkc => by
    rw [hsp, if_neg (fun e => hkc (hlev k hk e.1))]
  have hsps : Hm.sp { m with W := updH m.W v W', P := updH m.P v ((m.P v).set j p') } v s = m.sp v s := by rw [hsp, if_neg (fun e => hsj e.2)]
  obtain ⟨K, kk, o⟩ := h.th u hun hui
  have hcK : c < K := by rw [← o c hcD, ← hvc, ← hsc]; exact hos
  -- u was coming, at c
  have hcome : K = c + 1 ∧ ((sv m.S u).pc = 1 ∧ (sv m.S u).c = c ∧ c < T.D) ∧ ∀ k, k < c → (m.sp (T.pl u k) (T.sl u k)).pc = 10 := by
    have h5c : (m.sp (T.pl u c) (T.sl u c)).pc = 5 := by rw [← hvc, ← hsc]; exact hs5
    cases kk with
    | rest h => omega
    | come c' h ha hg hb =>
      by_cases e : c = c'
      · subst e; exact ⟨rfl, h, hb⟩
      · have := hb c (by omega); omega
    | granted c' h' ha hb =>
      by_cases e : c = c'
      · subst e
        have := h.head5 (v := T.pl u c) (j := T.sl u c) (by rw [← hvc]; exact hv) (by rw [← hvc, ← hsc]; exact hsn) h5c (by have := ha.2; omega)
        rw [← hvc, ← hsc, hQ] at this
        simp at this
        exact absurd this.symm hsj
      · have := hb c hcD e; omega
    | hold h hb => have := hb c hcD; omega
    | pass c' h ha hb =>
      by_cases e : c = c'
      · subst e; omega
      · have := hb c hcD e; omega
    | leave c' h ha hc hb =>
      by_cases e : c = c'
      · subst e; omega
      · have := hb c (by omega); omega
  obtain ⟨rfl, hu1, hub⟩ := hcome
  have hset : ∀ a b, (∃ k, c < k ∧ k < T.D ∧ a = T.pl u k ∧ b = T.sl u k) → 0 < sgv W' s → O a b = some i := fun a b ⟨k, h1, h2, h3, h4⟩ hp => by rw [h3, h4]; exact (hup hp k h1 h2).2
  have hother : ∀ (O1 : Nat → Nat → Option Nat) (ho1 : ∀ a b, O1 a b = O a b ∨ (O1 a b = some u ∧ O a b = some i)) (t : Nat), t < T.n → t ≠ i → t ≠ u → ∃ K, TSt T (Hm.sp { m with W := updH m.W v W', P := updH m.P v ((m.P v).set j p') }) (Hm.sg { m with W := updH m.W v W', P := updH m.P v ((m.P v).set j p') }) t (sv m.S t) K ∧ ∀ k, k < T.D → (O1 (T.pl t k) (T.sl t k) = some t ↔ k < K) := fun O1 ho1 t ht hti htu => by
    obtain ⟨K', k', o'⟩ := h.th t ht hti
    refine ⟨K', k'.keep (fun l hl' hD => ?_) (fun l hl' hD _ => ?_), fun l hD => ?_⟩
    · rw [hsp, if_neg (own_ne ho hti ((o' l hD).2 hl'))]
    · refine hsg _ _ (own_ne ho hti ((o' l hD).2 hl')) fun e => ?_
      have := (o' l hD).2 hl'
      rw [e.1, e.2, hos] at this
      injection this with this
      exact htu this.symm
    · rcases ho1 (T.pl t l) (T.sl t l) with e | ⟨e1, e2⟩
      · rw [e]; exact o' l hD
      · rw [← o' l hD, e1, e2]
        refine ⟨fun he => ?_, fun he => ?_⟩
        · injection he with he; exact absurd he.symm htu
        · injection he with he; exact absurd he.symm hti
  have hrg : ∀ w, w < T.np → RInv (T.nv w) (updH m.W v W' w) (updH m.P v ((m.P v).set j p') w) (updH Q v (s :: r) w) := fun w hw => by
    by_cases e : w = v
    · subst e; rw [updH_eq, updH_eq, updH_eq]; exact hr
    · rw [updH_ne _ _ e, updH_ne _ _ e, updH_ne _ _ e]; exact h.rg w hw
  have hva : ∀ a b, a < T.np → b < T.nv a → VaOk bud (Hm.sp { m with W := updH m.W v W', P := updH m.P v ((m.P v).set j p') } a b) := fun a b ha hb => by
    rw [hsp]
    split
    · exact ⟨fun e => by omega, fun e => by omega⟩
    · exact h.va a b ha hb
  have hsa : ∀ a b, a < T.np → (updH Q v (s :: r) a)[0]? = some b → (Hm.sp { m with W := updH m.W v W', P := updH m.P v ((m.P v).set j p') } a b).pc = 5 → Hm.sg { m with W := updH m.W v W', P := updH m.P v ((m.P v).set j p') } a b = -1 ∨ (1 ≤ Hm.sg { m with W := updH m.W v W', P := updH m.P v ((m.P v).set j p') } a b ∧ Hm.sg { m with W := updH m.W v W', P := updH m.P v ((m.P v).set j p') } a b ≤ bud + 1) := fun a b ha hb h5 => by
    by_cases e : a = v
    · subst e
      rw [updH_eq] at hb
      obtain rfl : s = b := by simpa using hb
      rw [hsgs]; exact hc1
    · rw [updH_ne _ _ e] at hb
      rw [hsp, if_neg (fun e' => e e'.1)] at h5
      rw [hsg a b (fun e' => e e'.1) (fun e' => e e'.1)]
      exact h.sa a b ha hb h5
  refine ⟨hun, hui, ?_⟩
  by_cases hpos : 0 < sgv W' s
  · refine ⟨upO T O u c, ⟨hrg, h.sl, fun a b t hab => ?_, fun a b ha hb hab => ?_, fun t ht hti => ?_, hva, hsa⟩, fun _ => rfl, fun hn => absurd hpos hn⟩
    · by_cases e : ∃ k, c < k ∧ k < T.D ∧ a = T.pl u k ∧ b = T.sl u k
      · obtain ⟨k, h1, h2, rfl, rfl⟩ := e
        rw [upO_in h1 h2] at hab
        injection hab with hab
        subst hab
        exact ⟨hun, k, h2, rfl, rfl⟩
      · rw [upO_out e] at hab; exact h.ow a b t hab
    · by_cases e : ∃ k, c < k ∧ k < T.D ∧ a = T.pl u k ∧ b = T.sl u k
      · obtain ⟨k, h1, h2, rfl, rfl⟩ := e
        rw [upO_in h1 h2] at hab; cases hab
      · rw [upO_out e] at hab
        rw [hsp]
        split
        · exact hp0
        · exact h.fr a b ha hb hab
    · by_cases e : t = u
      · subst e
        refine ⟨T.D, .granted c hu1 ⟨?_, ?_⟩ fun k hk hkc => ?_, fun k hk => ⟨fun _ => hk, fun _ => ?_⟩⟩
        · rw [← hvc, ← hsc, hsps]; exact hs5
        · rw [← hvc, ← hsc, hsgs]; exact hpos
        · rw [hsame k hk hkc]
          rcases Nat.lt_or_ge k c with h1 | h1
          · exact hub k h1
          · exact (hup hpos k (by omega) hk).1
        · rcases Nat.lt_or_ge c k with h1 | h1
          · exact upO_in h1 hk
          · rw [upO_out]
            · exact (o k hk).2 (by omega)
            · rintro ⟨k', h2, h3, h4, _⟩
              have e1 := hT.lv t k hun hk
              have e2 := hT.lv t k' hun h3
              rw [h4] at e1
              omega
      · refine hother _ (fun a b => ?_) t ht hti e
        by_cases e2 : ∃ k, c < k ∧ k < T.D ∧ a = T.pl u k ∧ b = T.sl u k
        · refine .inr ⟨?_, hset a b e2 hpos⟩
          obtain ⟨k, h1, h2, rfl, rfl⟩ := e2
          exact upO_in h1 h2
        · exact .inl (upO_out e2)
  · refine ⟨O, ⟨hrg, h.sl, h.ow, fun a b ha hb hab => ?_, fun t ht hti => ?_, hva, hsa⟩, fun hp => absurd hp hpos, fun _ => rfl⟩
    · rw [hsp]
      split
      · exact hp0
      · exact h.fr a b ha hb hab
    · by_cases e : t = u
      · subst e
        refine ⟨c + 1, .come c hu1 ?_ (fun _ => ?_) fun k hk => ?_, o⟩
        · rw [← hvc, ← hsc, hsps, hs5]; decide
        · rw [← hvc, ← hsc, hsgs]; exact hpos
        · rw [hsame k (by omega) (by omega)]; exact hub k hk
      · exact hother O (fun a b => .inl rfl) t ht hti e
end
end Go.Proofs.YtkdaiomjbkpedaaGreat
end
section
/- Layer 27 (hmcs): any act keeps what always holds. No program in sight. -/
namespace Go.Proofs.YtkdaiomjbkpedaaGreat
open Go.RowKit

section
variable {T : HTr} {bud : Int} {m m' : Hm} {Q Q' : Nat → List Nat} {O O' : Nat → Nat → Option Nat} {i : Nat}
theorem HX.upNone (h : HX T bud m Q O i) (hT : T.Ok) (hi : i < T.n) {c : Nat} (hc : c + 1 < T.D) (hd : (Q (T.pl i c))[0]? = some (T.sl i c)) (ho : O (T.pl i c) (T.sl i c) = some i) (hn : O (T.pl i (c + 1)) (T.sl i (c + 1)) ≠ some i) : O (T.pl i (c + 1)) (T.sl i (c + 1)) = none := by
  cases hO : O (T.pl i (c + 1)) (T.sl i (c + 1)) with
  | none => rfl
  | some u =>
    exfalso
    have hui : u ≠ i := fun e => hn (by rw [hO, e])
    obtain ⟨hu, k, hk, h1, h2⟩ := h.ow _ _ u hO
    have e1 := hT.lv i (c + 1) hi hc
    have e2 := hT.lv u k hu hk
    rw [h1] at e1
    obtain rfl : k = c + 1 := by omega
    obtain ⟨K, kk, o⟩ := h.th u hu hui
    have hK : c + 1 < K := by rw [← o (c + 1) hc, ← h1, ← h2]; exact hO
    have hh := h.ownHead hT hu kk (l := c) hK kk.le
    have hp := hT.dn i u c hi hu hc h1 h2
    rw [← hp, hd] at hh
    injection hh with hh
    have ou := (o c (by omega)).2 (by omega)
    rw [← hp, ← hh, ho] at ou
    injection ou with ou
    exact hui ou.symm
theorem lenS (h : HX T bud m Q O i) (hi : i < T.n) : i < m.S.length := by rw [h.sl]; exact hi
theorem thr_own {s : Sp} {K : Nat} (hl : i < m.S.length) (k : TSt T m.sp m.sg i s K) (o : ∀ k, k < T.D → (O (T.pl i k) (T.sl i k) = some i ↔ k < K)) : TOwn T (m.thr i s) O i := by
  refine ⟨K, ?_, o⟩
  rw [sv_thr m s hl]
  exact k
/-- it begins to go out, from a level on -/
theorem begH_ok (hT : T.Ok) (hi : i < T.n) : ∀ (f : Nat) (m : Hm) (k0 : Nat), HX T bud m Q O i → (∀ k, k < T.D → O (T.pl i k) (T.sl i k) = some i) → (∀ k, k < T.D → (m.sp (T.pl i k) (T.sl i k)).pc = 10) → k0 < T.D → T.D ≤ k0 + f → HInv T bud (begH T bud f m i k0) Q O := by
  intro f
  induction f with
  | zero => intro m k0 _ _ _ h1 h2; omega
  | succ f ih =>
    intro m k0 h ho h10 hk hf
    unfold begH
    have hv := hT.plt i k0 hi hk
    have hj := hT.slt i k0 hi hk
    have hlen : T.sl i k0 < (m.P (T.pl i k0)).length := by rw [h.len hv]; exact hj
    have hlev : ∀ k, k < T.D → k ≠ k0 → ¬ (T.pl i k = T.pl i k0 ∧ T.sl i k = T.sl i k0) := fun k hk' hne e => by
      have e1 := hT.lv i k hi hk'
      have e2 := hT.lv i k0 hi hk
      rw [e.1] at e1; omega
    have own : ∀ (k : Nat), k < T.D → (O (T.pl i k) (T.sl i k) = some i ↔ k < T.D) := fun k hk' => ⟨fun _ => hk', fun _ => ho k hk'⟩
    by_cases c1 : k0 + 1 = T.D
    · rw [if_pos c1]
      have e : wthH m (T.pl i k0) (T.sl i k0) 11 1 = m.slot (T.pl i k0) (T.sl i k0) { m.sp (T.pl i k0) (T.sl i k0) with pc := 11, c := 1 } := by unfold wthH; rw [if_pos (h10 k0 hk)]
      rw [e]
      have h1 := h.wth hv hj (ho k0 hk) (h10 k0 hk) { m.sp (T.pl i k0) (T.sl i k0) with pc := 11, c := 1 } (.inl rfl) ⟨fun e => absurd e (by show ¬ ((11 : Int) = 10 ∨ (11 : Int) = 15 ∨ (11 : Int) = 16); decide), fun e => absurd e (by show ¬ ((11 : Int) = 15 ∨ (11 : Int) = 16); decide)⟩
      have hsp := sp_slot m (T.pl i k0) (T.sl i k0) { m.sp (T.pl i k0) (T.sl i k0) with pc := 11, c := 1 } hlen
      refine .of (h1.thr _) (thr_own (K := k0 + 1) (lenS h1 hi) (.leave k0 ⟨rfl, rfl, hk⟩ ?_ ?_ fun k hk' => ?_) fun k hk' => by rw [c1]; exact own k hk')
      · rw [hsp, if_pos ⟨rfl, rfl⟩]; exact ⟨by show (11 : Int) ≤ 11; decide, by show (11 : Int) ≤ 14; decide⟩
      · rw [hsp, if_pos ⟨rfl, rfl⟩, if_pos c1]
      · rw [hsp, if_neg (hlev k (by omega) (by omega))]; exact h10 k (by omega)
    · rw [if_neg c1]
      by_cases c2 : (m.sp (T.pl i k0) (T.sl i k0)).a ≤ bud
      · rw [if_pos c2]
        have hva := (h.va _ _ hv hj).1 (.inl (h10 k0 hk))
        have e : wthH m (T.pl i k0) (T.sl i k0) 15 ((m.sp (T.pl i k0) (T.sl i k0)).a + 1) = m.slot (T.pl i k0) (T.sl i k0) { m.sp (T.pl i k0) (T.sl i k0) with pc := 15, c := (m.sp (T.pl i k0) (T.sl i k0)).a + 1 } := by unfold wthH; rw [if_pos (h10 k0 hk)]
        rw [e]
        have h1 := h.wth hv hj (ho k0 hk) (h10 k0 hk) { m.sp (T.pl i k0) (T.sl i k0) with pc := 15, c := (m.sp (T.pl i k0) (T.sl i k0)).a + 1 } (.inr rfl) ⟨fun _ => hva, fun _ => ⟨rfl, c2⟩⟩
        have hsp := sp_slot m (T.pl i k0) (T.sl i k0) { m.sp (T.pl i k0) (T.sl i k0) with pc := 15, c := (m.sp (T.pl i k0) (T.sl i k0)).a + 1 } hlen
        refine .of (h1.thr _) (thr_own (K := T.D) (lenS h1 hi) (.pass k0 ⟨rfl, rfl, by omega⟩ ?_ fun k hk' hne => ?_) own)
        · rw [hsp, if_pos ⟨rfl, rfl⟩]; exact .inl rfl
        · rw [hsp, if_neg (hlev k hk' hne)]; exact h10 k hk'
      · rw [if_neg c2]
        exact ih m (k0 + 1) h ho h10 (by omega) (by omega)
/-- it goes down -/
theorem downH_ok (h : HX T bud m Q O i) (hT : T.Ok) (hi : i < T.n) {c : Nat} (hc : c < T.D) (ho : ∀ k, k < T.D → (O (T.pl i k) (T.sl i k) = some i ↔ k < c)) (h10 : ∀ k, k < c → (m.sp (T.pl i k) (T.sl i k)).pc = 10) : HInv T bud (downH T m i c) Q O := by
  unfold downH
  by_cases c0 : c = 0
  · rw [if_pos c0]
    subst c0
    exact .of (h.thr _) (thr_own (lenS h hi) (.rest rfl) ho)
  · rw [if_neg c0]
    obtain ⟨d, rfl⟩ : ∃ d, c = d + 1 := ⟨c - 1, by omega⟩
    simp only [Nat.add_sub_cancel]
    have hd : d < T.D := by omega
    have hv := hT.plt i d hi hd
    have hj := hT.slt i d hi hd
    have hlen : T.sl i d < (m.P (T.pl i d)).length := by rw [h.len hv]; exact hj
    have e : wthH m (T.pl i d) (T.sl i d) 11 (-1) = m.slot (T.pl i d) (T.sl i d) { m.sp (T.pl i d) (T.sl i d) with pc := 11, c := -1 } := by unfold wthH; rw [if_pos (h10 d (by omega))]
    rw [e]
    have h1 := h.wth hv hj ((ho d hd).2 (by omega)) (h10 d (by omega)) { m.sp (T.pl i d) (T.sl i d) with pc := 11, c := -1 } (.inl rfl) ⟨fun e => absurd e (by show ¬ ((11 : Int) = 10 ∨ (11 : Int) = 15 ∨ (11 : Int) = 16); decide), fun e => absurd e (by show ¬ ((11 : Int) = 15 ∨ (11 : Int) = 16); decide)⟩
    have hsp := sp_slot m (T.pl i d) (T.sl i d) { m.sp (T.pl i d) (T.sl i d) with pc := 11, c := -1 } hlen
    refine .of (h1.thr _) (thr_own (lenS h1 hi) (.leave d ⟨rfl, by show ((d + 1 : Nat) : Int) - 1 = d; omega, hd⟩ ?_ ?_ fun k hk' => ?_) ho)
    · rw [hsp, if_pos ⟨rfl, rfl⟩]; exact ⟨by show (11 : Int) ≤ 11; decide, by show (11 : Int) ≤ 14; decide⟩
    · rw [hsp, if_pos ⟨rfl, rfl⟩, if_neg (by omega)]
    · rw [hsp, if_neg]
      · exact h10 k (by omega)
      · intro e
        have e1 := hT.lv i k hi (by omega)
        have e2 := hT.lv i d hi hd
        rw [e.1] at e1; omega
/-- it asks at its leaf -/
theorem HInv.ask (h : HInv T bud m Q O) (hT : T.Ok) (hi : i < T.n) : ∃ O', HInv T bud (askHm T m i) Q O' := by
  unfold askHm
  by_cases c0 : (sv m.S i).pc = 0
  · rw [if_pos c0]
    have hd := hT.d1
    have hx := h.x i
    obtain ⟨K, k, o⟩ := h.t i hi
    have hK : K = 0 := by cases k <;> first | rfl | omega
    subst hK
    have hn : O (T.pl i 0) (T.sl i 0) = none := by
      cases hO : O (T.pl i 0) (T.sl i 0) with
      | none => rfl
      | some u =>
        exfalso
        obtain ⟨hu, k', hk', h1, h2⟩ := hx.ow _ _ u hO
        have e1 := hT.lv i 0 hi (by omega)
        have e2 := hT.lv u k' hu hk'
        rw [h1] at e1
        obtain rfl : k' = 0 := by omega
        obtain rfl : i = u := hT.leaf i u hi hu h1 h2
        have := (o 0 (by omega)).1 hO
        omega
    have hv := hT.plt i 0 hi (by omega)
    have hj := hT.slt i 0 hi (by omega)
    have h0 := hx.fr _ _ hv hj hn
    have e : askH m (T.pl i 0) (T.sl i 0) = m.slot (T.pl i 0) (T.sl i 0) { m.sp (T.pl i 0) (T.sl i 0) with pc := 1 } := by unfold askH; rw [if_pos h0]
    rw [e]
    have h1 := hx.ask hi (k := 0) (by omega) hT hn { m.sp (T.pl i 0) (T.sl i 0) with pc := 1 } rfl
    have hsp := sp_slot m (T.pl i 0) (T.sl i 0) { m.sp (T.pl i 0) (T.sl i 0) with pc := 1 } (by rw [hx.len hv]; exact hj)
    refine ⟨_, .of (h1.thr _) (thr_own (lenS h1 hi) (.come 0 ⟨rfl, rfl, by omega⟩ ?_ (fun e5 => ?_) fun k hk => by omega) fun k hk => ?_)⟩
    · rw [hsp, if_pos ⟨rfl, rfl⟩]; exact ⟨by show (1 : Int) ≤ 1; decide, by show (1 : Int) ≤ 6; decide⟩
    · rw [hsp, if_pos ⟨rfl, rfl⟩] at e5; exact absurd e5 (by show ¬ (1 : Int) = 5; decide)
    · by_cases e : k = 0
      · subst e; rw [setO_eq]; exact ⟨fun _ => by omega, fun _ => rfl⟩
      · rw [setO_ne (fun e' => by
          have e1 := hT.lv i k hi hk
          have e2 := hT.lv i 0 hi (by omega)
          rw [e'.1] at e1; omega)]
        rw [o k hk]
        exact ⟨fun h => by omega, fun h => by omega⟩
  · rw [if_neg c0]; exact ⟨O, h⟩
/-- it leaves -/
theorem HInv.leave (h : HInv T bud m Q O) (hT : T.Ok) (hi : i < T.n) : HInv T bud (leaveHm T bud m i) Q O := by
  unfold leaveHm
  by_cases c0 : (sv m.S i).pc = 10
  · rw [if_pos c0]
    have hd := hT.d1
    obtain ⟨K, k, o⟩ := h.t i hi
    obtain ⟨rfl, h10⟩ := k.of10 c0
    exact begH_ok hT hi T.D m 0 (h.x i) (fun k hk => (o k hk).2 hk) h10 (by omega) (by omega)
  · rw [if_neg c0]; exact h
end
end Go.Proofs.YtkdaiomjbkpedaaGreat
end
section
/- Layer 27 (hmcs): a step keeps what always holds. No program in sight. -/
namespace Go.Proofs.YtkdaiomjbkpedaaGreat
open Go.RowKit

theorem RInv.wait0 {n : Nat} {W : List Int} {S : List Sp} {Q : List Nat} {i : Nat} (k : RInv n W S Q) (hi : i < n) (h5 : (sv S i).pc = 5) (hn : Q[0]? ≠ some i) : sgv W i = 0 := by
  by_cases hQ : i ∈ Q
  · rcases k.inq hQ with ⟨hd, _⟩ | ⟨_, _, _, _, h0, _⟩
    · exact absurd hd hn
    · exact h0
  · have := (k.out i hi hQ).1.2; omega
section
variable {T : HTr} {bud : Int} {m m' : Hm} {Q Q' : Nat → List Nat} {O O' : Nat → Nat → Option Nat} {i : Nat}
theorem TOwn.act {s : Sp} {K : Nat} {sp : Nat → Nat → Sp} {sg : Nat → Nat → Int} (k : TSt T sp sg i s K) (h0 : ¬ (s.pc = 0 ∨ s.pc = 10)) : ∃ c : Nat, s.c = c ∧ c < T.D ∧ c < K ∧ (sp (T.pl i c) (T.sl i c)).pc ≠ 0 ∧ (sp (T.pl i c) (T.sl i c)).pc ≠ 10 ∧ ((sp (T.pl i c) (T.sl i c)).pc = 14 → (sp (T.pl i c) (T.sl i c)).c ≠ 0) := by
  cases k with
  | rest h => exact absurd (.inl h) h0
  | come c h ha hg hb => exact ⟨c, h.2.1, h.2.2, Nat.lt_succ_self _, by omega, by omega, fun e => by omega⟩
  | granted c h ha hb => exact ⟨c, h.2.1, h.2.2, h.2.2, by omega, by omega, fun e => by omega⟩
  | hold h hb => exact absurd (.inr h) h0
  | pass c h ha hb => exact ⟨c, h.2.1, by omega, by omega, by omega, by omega, fun e => by omega⟩
  | leave c h ha hc hb =>
    refine ⟨c, h.2.1, h.2.2, Nat.lt_succ_self _, by omega, by omega, fun _ => ?_⟩
    rw [hc]; split <;> decide
theorem up_same (hT : T.Ok) {i u c : Nat} (hi : i < T.n) (hu : u < T.n) (h : T.pl i c = T.pl u c) : ∀ d, c + d + 1 < T.D → T.pl i (c + d + 1) = T.pl u (c + d + 1) ∧ T.sl i (c + d + 1) = T.sl u (c + d + 1)
  | 0, hd => hT.up i u c hi hu hd h
  | d + 1, hd => hT.up i u (c + d + 1) hi hu hd (up_same hT hi hu h d (by omega)).1
theorem HInv.step (h : HInv T bud m Q O) (hT : T.Ok) (hb0 : 0 ≤ bud) (hi : i < T.n) : ∃ Q' O', HInv T bud (stepHm T bud m i) Q' O' := by
  unfold stepHm
  by_cases c0 : (sv m.S i).pc = 0 ∨ (sv m.S i).pc = 10
  · rw [if_pos c0]; exact ⟨Q, O, h⟩
  rw [if_neg c0]
  have hx := h.x i
  obtain ⟨K, kk, o⟩ := h.t i hi
  obtain ⟨c, hc, hcD, hcK, a0, a10, a14⟩ := TOwn.act kk c0
  rw [hc]
  simp only [Int.toNat_natCast]
  have hv := hT.plt i c hi hcD
  have hj := hT.slt i c hi hcD
  have ho : O (T.pl i c) (T.sl i c) = some i := (o c hcD).2 hcK
  have hlev : ∀ k, k < T.D → k ≠ c → T.pl i k ≠ T.pl i c := fun k hk hne e => by
    have e1 := hT.lv i k hi hk
    have e2 := hT.lv i c hi hcD
    rw [e] at e1; omega
  obtain ⟨v, hvd⟩ : ∃ v, v = T.pl i c := ⟨_, rfl⟩
  obtain ⟨j, hjd⟩ : ∃ j, j = T.sl i c := ⟨_, rfl⟩
  have hva := hx.va _ _ hv hj
  rw [← hvd] at hv hj ho hva a0 a10 a14 hlev ⊢
  rw [← hjd] at hj ho hva a0 a10 a14 ⊢
  rw [if_neg (fun e => e.elim a0 a10)]
  have hcc : (sv (m.P v) j).pc = 14 ∨ (sv (m.P v) j).pc = 16 → (sv (m.P v) j).c ≠ 0 := fun e => by
    rcases e with e | e
    · exact a14 e
    · have e1 := hva.1 (.inr (.inr e))
      have e2 := hva.2 (.inr e)
      show (m.sp v j).c ≠ 0
      omega
  obtain ⟨Qn, R⟩ := rungStep (ar := arW (m.W v)) (hx.rg v hv) (hT.nv32 v hv) hj a0 a10 hcc
  obtain ⟨x, hxd⟩ : ∃ x, x = stepP (arW (m.W v)) 1 ((j : Int) + 1) (sv (m.P v) j) := ⟨_, rfl⟩
  have hm1 : rstH m v j = { m with W := updH m.W v x.1.W, P := updH m.P v ((m.P v).set j x.2) } := by rw [hxd]; rfl
  rw [← hxd] at R
  have hlen : j < (m.P v).length := by rw [hx.len hv]; exact hj
  have hsp : ∀ a b, (rstH m v j).sp a b = if a = v ∧ b = j then x.2 else m.sp a b := fun a b => by rw [hm1]; exact sp_slot m v j x.2 hlen a b
  have hs1 : (rstH m v j).sp v j = x.2 := by rw [hsp, if_pos ⟨rfl, rfl⟩]
  have hsg1 : (rstH m v j).sg v j = sgv x.1.W j := by rw [hm1]; show sgv (updH m.W v x.1.W v) j = _; rw [updH_eq]
  rw [hs1]
  have hS : (rstH m v j).S = m.S := rfl
  have hsame : ∀ k, k < T.D → k ≠ c → (rstH m v j).sp (T.pl i k) (T.sl i k) = m.sp (T.pl i k) (T.sl i k) := fun k hk hne => by rw [hsp, if_neg (fun e => hlev k hk hne e.1)]
  have ng : ¬ ((m.sp v j).pc = 14 ∨ (m.sp v j).pc = 16) → VaOk bud x.2 → (∀ k, k ≠ j → Qn[0]? = some k → (Q v)[0]? = some k) → (Qn[0]? = some j → x.2.pc ≠ 5) → HX T bud (rstH m v j) (updH Q v Qn) O i := fun e1 e2 e3 e4 => by
    rw [hm1]
    exact hx.rung hv hj ho x.1.W x.2 Qn R.inv (fun k hk => R.st k hk fun e => absurd e e1) e2 e3 e4
  have fin : ∀ {K : Nat}, HX T bud (rstH m v j) (updH Q v Qn) O i → TSt T (rstH m v j).sp (rstH m v j).sg i (sv m.S i) K → (∀ k, k < T.D → (O (T.pl i k) (T.sl i k) = some i ↔ k < K)) → ∃ Q' O', HInv T bud (rstH m v j) Q' O' := fun hx1 k1 o1 => ⟨_, _, .of hx1 ⟨_, k1, o1⟩⟩
  have va0 : ∀ p : Sp, ¬ (p.pc = 10 ∨ p.pc = 15 ∨ p.pc = 16) → VaOk bud p := fun p hp => ⟨fun e => absurd e hp, fun e => absurd (.inr e) hp⟩
  have same0 : ∀ k, k ≠ j → (Q v)[0]? = some k → (Q v)[0]? = some k := fun _ _ e => e
  cases kk with
  | rest hh => exact absurd (.inl hh) c0
  | hold hh _ => exact absurd (.inr hh) c0
  | come c' hh ha hg hb =>
    obtain rfl : c = c' := by have := hh.2.1; omega
    rw [← hvd, ← hjd] at ha hg
    have stay : 1 ≤ x.2.pc → x.2.pc ≤ 6 → (x.2.pc = 5 → ¬ 0 < sgv x.1.W j) → TSt T (rstH m v j).sp (rstH m v j).sg i (sv m.S i) (c + 1) := fun e1 e2 e3 => by
      refine .come c hh ?_ (fun e5 => ?_) fun k hk => ?_
      · rw [← hvd, ← hjd, hs1]; exact ⟨e1, e2⟩
      · rw [← hvd, ← hjd] at e5 ⊢
        rw [hs1] at e5
        rw [hsg1]; exact e3 e5
      · rw [hsame k (by omega) (by omega)]; exact hb k hk
    have w0 : x.2.pc = 5 → Qn[0]? ≠ some j → sgv x.1.W j = 0 := fun e5 hn => R.inv.wait0 hj (by rw [sv_self _ hlen]; exact e5) hn
    cases R.case_ with
    | walk e =>
      obtain ⟨e1, e2, rfl⟩ := e
      have e2' : x.2.pc = (m.sp v j).pc + 1 := e2
      have e1' : (m.sp v j).pc = 1 ∨ (m.sp v j).pc = 2 := e1
      rw [if_pos (by omega)]
      exact fin (ng (by omega) (va0 _ (by omega)) same0 (fun _ => by omega)) (stay (by omega) (by omega) (fun e => by omega)) o
    | come e =>
      obtain ⟨e1, rfl, e3⟩ := e
      have e1' : (m.sp v j).pc = 3 := e1
      rw [if_pos (by omega)]
      refine fin (ng (by omega) (va0 _ (by omega)) (fun k hk hq => ?_) (fun _ => by omega)) (stay (by omega) (by omega) (fun e => by omega)) o
      rcases e3 with ⟨_, e4⟩ | ⟨_, e4⟩
      · rw [e4] at hq; simp at hq; exact absurd hq.symm hk
      · cases hQ : Q v with
        | nil => exact absurd hQ e4
        | cons a l => rw [hQ] at hq; simpa using hq
    | link e =>
      obtain ⟨e1, e2, rfl, e4⟩ := e
      have e1' : (m.sp v j).pc = 4 := e1
      rw [if_pos (by omega)]
      exact fin (ng (by omega) (va0 _ (by omega)) same0 (fun e => absurd e e4)) (stay (by omega) (by omega) (fun e => by rw [w0 e e4]; decide)) o
    | spin e =>
      obtain ⟨e1, e2, _, rfl, e4⟩ := e
      have e1' : (m.sp v j).pc = 5 := e1
      rw [if_pos (by omega)]
      exact fin (ng (by omega) (va0 _ (by omega)) same0 (fun e => absurd e e4)) (stay (by omega) (by omega) (fun e => by rw [w0 e e4]; decide)) o
    | told e => exact absurd e.2.2.1 (hg e.1)
    | sent e =>
      obtain ⟨e1, e2, _, rfl, e4⟩ := e
      have e1' : (m.sp v j).pc = 5 := e1
      rw [if_pos (by omega)]
      exact fin (ng (by omega) (va0 _ (by omega)) same0 (fun _ => by omega)) (stay (by omega) (by omega) (fun e => by omega)) o
    | hold e =>
      obtain ⟨e1, e2, e3, e4, rfl, e6⟩ := e
      have e1' : (m.sp v j).pc = 6 := e1
      rw [if_neg (fun hn => hn (.inr e2)), if_pos hh.1]
      have hx1 := ng (by omega) ⟨fun _ => by omega, fun e => by omega⟩ same0 (fun _ => by omega)
      unfold comeH
      rw [← hvd, ← hjd, hs1, hS]
      have low : ∀ k, k ≤ c → ((rstH m v j).sp (T.pl i k) (T.sl i k)).pc = 10 := fun k hk => by
        by_cases e : k = c
        · subst e; rw [← hvd, ← hjd, hs1]; exact e2
        · rw [hsame k (by omega) e]; exact hb k (by omega)
      by_cases hD : c + 1 = T.D
      · rw [if_pos (.inr hD)]
        exact ⟨_, _, .of (hx1.thr _) (thr_own (K := T.D) (lenS hx1 hi) (.hold rfl fun k hk => low k (by omega)) fun k hk => by rw [o k hk]; omega)⟩
      · rw [if_neg (by omega)]
        have hcD1 : c + 1 < T.D := by omega
        have hn : O (T.pl i (c + 1)) (T.sl i (c + 1)) = none := hx1.upNone hT hi hcD1 (by rw [← hvd, ← hjd, updH_eq]; exact e6) (by rw [← hvd, ← hjd]; exact ho) (fun e => by have := (o (c + 1) hcD1).1 e; omega)
        have hv1 := hT.plt i (c + 1) hi hcD1
        have hj1 := hT.slt i (c + 1) hi hcD1
        have h0 := hx1.fr _ _ hv1 hj1 hn
        have e : askH (rstH m v j) (T.pl i (c + 1)) (T.sl i (c + 1)) = (rstH m v j).slot (T.pl i (c + 1)) (T.sl i (c + 1)) { (rstH m v j).sp (T.pl i (c + 1)) (T.sl i (c + 1)) with pc := 1 } := by unfold askH; rw [if_pos h0]
        rw [e]
        have h2 := hx1.ask hi hcD1 hT hn { (rstH m v j).sp (T.pl i (c + 1)) (T.sl i (c + 1)) with pc := 1 } rfl
        have hsp2 := sp_slot (rstH m v j) (T.pl i (c + 1)) (T.sl i (c + 1)) { (rstH m v j).sp (T.pl i (c + 1)) (T.sl i (c + 1)) with pc := 1 } (by rw [hx1.len hv1]; exact hj1)
        have hl2 : ∀ k, k < T.D → k ≠ c + 1 → ¬ (T.pl i k = T.pl i (c + 1) ∧ T.sl i k = T.sl i (c + 1)) := fun k hk hne e => by
          have e1 := hT.lv i k hi hk
          have e2 := hT.lv i (c + 1) hi hcD1
          rw [e.1] at e1; omega
        refine ⟨_, _, .of (h2.thr _) (thr_own (K := c + 1 + 1) (lenS h2 hi) (.come (c + 1) ⟨hh.1, by show (c : Int) + 1 = ((c + 1 : Nat) : Int); omega, hcD1⟩ ?_ (fun e5 => ?_) fun k hk => ?_) fun k hk => ?_)⟩
        · rw [hsp2, if_pos ⟨rfl, rfl⟩]; exact ⟨by show (1 : Int) ≤ 1; decide, by show (1 : Int) ≤ 6; decide⟩
        · rw [hsp2, if_pos ⟨rfl, rfl⟩] at e5; exact absurd e5 (by show ¬ (1 : Int) = 5; decide)
        · rw [hsp2, if_neg (hl2 k (by omega) (by omega))]; exact low k (by omega)
        · by_cases e : k = c + 1
          · subst e; rw [setO_eq]; exact ⟨fun _ => by omega, fun _ => rfl⟩
          · rw [setO_ne (hl2 k hk e), o k hk]; omega
    | out e => have : 11 ≤ (m.sp v j).pc := e.1; omega
    | free e => have : (m.sp v j).pc = 12 := e.1; omega
    | give s r e => have : (m.sp v j).pc = 14 ∨ (m.sp v j).pc = 16 := e.1; omega
    | look e => have : (m.sp v j).pc = 15 := e.1; omega
  | granted c' hh ha hb =>
    obtain rfl : c = c' := by have := hh.2.1; omega
    rw [← hvd, ← hjd] at ha
    have ha2 : 0 < sgv (m.W v) j := ha.2
    cases R.case_ with
    | told e =>
      obtain ⟨e1, e2, e3, e4, e5, rfl, e6⟩ := e
      rw [if_neg (fun hn => hn (.inr e2)), if_pos hh.1]
      have hsa := hx.sa v j hv e6 ha.1
      have hsa' : sgv (m.W v) j = -1 ∨ (1 ≤ sgv (m.W v) j ∧ sgv (m.W v) j ≤ bud + 1) := hsa
      have e4' : x.2.a = sgv (m.W v) j := e4
      have hx1 := ng (by omega) ⟨fun _ => by omega, fun e => by omega⟩ same0 (fun _ => by omega)
      unfold comeH
      rw [← hvd, ← hjd, hs1, hS, if_pos (.inl e5)]
      refine ⟨_, _, .of (hx1.thr _) (thr_own (K := T.D) (lenS hx1 hi) (.hold rfl fun k hk => ?_) o)⟩
      by_cases e : k = c
      · subst e; rw [← hvd, ← hjd, hs1]; exact e2
      · rw [hsame k hk e]; exact hb k hk e
    | spin e => have : sgv (m.W v) j = 0 := e.2.2.1; omega
    | sent e => have : sgv (m.W v) j < 0 := e.2.2.1; omega
    | walk e => have : (m.sp v j).pc = 1 ∨ (m.sp v j).pc = 2 := e.1; omega
    | come e => have : (m.sp v j).pc = 3 := e.1; omega
    | link e => have : (m.sp v j).pc = 4 := e.1; omega
    | hold e => have : (m.sp v j).pc = 6 := e.1; omega
    | out e => have : 11 ≤ (m.sp v j).pc := e.1; omega
    | free e => have : (m.sp v j).pc = 12 := e.1; omega
    | give s r e => have : (m.sp v j).pc = 14 ∨ (m.sp v j).pc = 16 := e.1; omega
    | look e => have : (m.sp v j).pc = 15 := e.1; omega
  | pass c' hh ha hb =>
    obtain rfl : c = c' := by have := hh.2.1; omega
    rw [← hvd, ← hjd] at ha
    cases R.case_ with
    | look e =>
      obtain ⟨e1, e2, e3, e4, rfl, e6⟩ := e
      have e1' : (m.sp v j).pc = 15 := e1
      have e3' : x.2.a = (m.sp v j).a := e3
      have e4' : x.2.c = (m.sp v j).c := e4
      have v1 := hva.1 (.inr (.inl e1'))
      have v2 := hva.2 (.inl e1')
      have hx1 := ng (by omega) ⟨fun _ => by omega, fun _ => by omega⟩ same0 (fun _ => by omega)
      rcases e2 with e2 | e2
      · rw [if_neg (fun hn => hn (.inr e2)), if_neg (by omega), if_neg (by omega)]
        refine ⟨_, _, begH_ok hT hi T.D _ (c + 1) hx1 (fun k hk => (o k hk).2 hk) (fun k hk => ?_) hh.2.2 (by omega)⟩
        by_cases e : k = c
        · subst e; rw [← hvd, ← hjd, hs1]; exact e2
        · rw [hsame k hk e]; exact hb k hk e
      · rw [if_pos (by omega)]
        refine fin hx1 (.pass c hh ?_ fun k hk hne => ?_) o
        · rw [← hvd, ← hjd, hs1]; exact .inr e2
        · rw [hsame k hk hne]; exact hb k hk hne
    | give s r e =>
      obtain ⟨e1, e2, e3, rfl, e5, e6⟩ := e
      have e1' : (m.sp v j).pc = 16 := by have : (m.sp v j).pc = 14 ∨ (m.sp v j).pc = 16 := e1; omega
      have v1 := hva.1 (.inr (.inr e1'))
      have v2 := hva.2 (.inr e1')
      have e6' : sgv x.1.W s = (m.sp v j).c := e6
      have hsn : s < T.nv v := (hx.rg v hv).lt s (by rw [e3]; simp)
      obtain ⟨u, hu⟩ : ∃ u, O v s = some u := by
        cases hO : O v s with
        | none => have := hx.fr v s hv hsn hO; have e5' : (m.sp v s).pc = 5 := e5; omega
        | some u => exact ⟨u, rfl⟩
      obtain ⟨hun, k, hk, h1, h2⟩ := hx.ow v s u hu
      obtain rfl : c = k := by
        have l1 := hT.lv u k hun hk
        have l2 := hT.lv i c hi hcD
        rw [← h1] at l1
        rw [← hvd] at l2
        omega
      have hup : ∀ k, c < k → k < T.D → T.pl i k = T.pl u k ∧ T.sl i k = T.sl u k := fun k hk1 hk2 => by
        obtain ⟨d, rfl⟩ : ∃ d, k = c + d + 1 := ⟨k - c - 1, by omega⟩
        exact up_same hT hi hun (by rw [← hvd]; exact h1) d hk2
      have hpos : 0 < sgv x.1.W s := by omega
      obtain ⟨_, hui, O', hg, hgo, _⟩ := hx.give hT hv hj ho x.1.W x.2 e2 e3 R.inv e5 (fun k hk1 hk2 => R.st k hk1 fun _ => by simp; exact fun e => hk2 e.symm) (.inr (by omega)) hu hcD h1 h2 (fun _ k hk1 hk2 => by
        rw [← (hup k hk1 hk2).1, ← (hup k hk1 hk2).2]
        exact ⟨hb k hk2 (by omega), (o k hk2).2 hk2⟩)
      rw [← hm1] at hg
      have hO' := hgo hpos
      rw [if_neg (fun hn => hn (.inl e2)), if_neg (by omega), if_pos e2]
      have out : ∀ k, k ≤ c → ¬ ∃ k', c < k' ∧ k' < T.D ∧ T.pl i k = T.pl u k' ∧ T.sl i k = T.sl u k' := fun k hkc ⟨k', h3, h4, h5, _⟩ => by
        have l1 := hT.lv i k hi (by omega)
        have l2 := hT.lv u k' hun h4
        rw [h5] at l1
        omega
      have hov : O' v j = some i := by rw [hO', hvd, hjd, upO_out (out c (Nat.le_refl _)), ← hvd, ← hjd]; exact ho
      have hrel := hg.release (by rw [hs1]; exact e2) hov
      refine ⟨_, _, downH_ok hrel hT hi hcD (fun k hk => ?_) fun k hk => ?_⟩
      · by_cases e : k = c
        · subst e
          rw [← hvd, ← hjd, setO_eq]
          exact ⟨fun h => (by cases h), fun h => by omega⟩
        · rw [setO_ne (fun e' => hlev k hk e e'.1), hO']
          rcases Nat.lt_or_ge k c with h3 | h3
          · rw [upO_out (out k (by omega)), o k hk]; omega
          · rw [(hup k (by omega) hk).1, (hup k (by omega) hk).2, upO_in (by omega) hk]
            exact ⟨fun h => (by injection h with h; exact absurd h hui), fun h => by omega⟩
      · rw [hsame k (by omega) (by omega)]; exact hb k (by omega) (by omega)
    | walk e => have : (m.sp v j).pc = 1 ∨ (m.sp v j).pc = 2 := e.1; omega
    | come e => have : (m.sp v j).pc = 3 := e.1; omega
    | link e => have : (m.sp v j).pc = 4 := e.1; omega
    | spin e => have : (m.sp v j).pc = 5 := e.1; omega
    | told e => have : (m.sp v j).pc = 5 := e.1; omega
    | sent e => have : (m.sp v j).pc = 5 := e.1; omega
    | hold e => have : (m.sp v j).pc = 6 := e.1; omega
    | out e => have : 11 ≤ (m.sp v j).pc := e.1; have : (m.sp v j).pc ≤ 13 := e.2.1; omega
    | free e => have : (m.sp v j).pc = 12 := e.1; omega
  | leave c' hh ha hcf hb =>
    obtain rfl : c = c' := by have := hh.2.1; omega
    rw [← hvd, ← hjd] at ha hcf
    cases R.case_ with
    | out e =>
      obtain ⟨e1, e2, e3, rfl, e5, e6⟩ := e
      have e1' : 11 ≤ (m.sp v j).pc := e1
      have e2' : (m.sp v j).pc ≤ 13 := e2
      have e3' : x.2.c = (m.sp v j).c := e3
      have e6' : 11 ≤ x.2.pc ∧ x.2.pc ≤ 14 := by
        rcases e6 with ⟨h1, h2⟩ | ⟨h1, h2, _⟩
        · have h1' : (m.sp v j).pc < x.2.pc := h1; omega
        · omega
      rw [if_pos (by omega)]
      refine fin (ng (by omega) (va0 _ (by omega)) same0 (fun _ => by omega)) (.leave c hh ?_ ?_ fun k hk => ?_) o
      · rw [← hvd, ← hjd, hs1]; exact e6'
      · rw [← hvd, ← hjd, hs1, e3']; exact hcf
      · rw [hsame k (by omega) (by omega)]; exact hb k hk
    | free e =>
      obtain ⟨e1, e2, e3, rfl⟩ := e
      have e1' : (m.sp v j).pc = 12 := e1
      rw [if_neg (fun hn => hn (.inl e2)), if_neg (by omega), if_pos e2]
      have hx1 := ng (by omega) (va0 _ (by omega)) (fun k _ hq => by simp at hq) (fun hq => by simp at hq)
      have hrel := hx1.release (by rw [hs1]; exact e2) ho
      refine ⟨_, _, downH_ok hrel hT hi hcD (fun k hk => ?_) fun k hk => ?_⟩
      · by_cases e : k = c
        · subst e
          rw [← hvd, ← hjd, setO_eq]
          exact ⟨fun h => (by cases h), fun h => by omega⟩
        · rw [setO_ne (fun e' => hlev k hk e e'.1), o k hk]; omega
      · rw [hsame k (by omega) (by omega)]; exact hb k hk
    | give s r e =>
      obtain ⟨e1, e2, e3, rfl, e5, e6⟩ := e
      have e1' : (m.sp v j).pc = 14 := by have : (m.sp v j).pc = 14 ∨ (m.sp v j).pc = 16 := e1; omega
      have e6' : sgv x.1.W s = (m.sp v j).c := e6
      have hsn : s < T.nv v := (hx.rg v hv).lt s (by rw [e3]; simp)
      obtain ⟨u, hu⟩ : ∃ u, O v s = some u := by
        cases hO : O v s with
        | none => have := hx.fr v s hv hsn hO; have e5' : (m.sp v s).pc = 5 := e5; omega
        | some u => exact ⟨u, rfl⟩
      obtain ⟨hun, k, hk, h1, h2⟩ := hx.ow v s u hu
      obtain rfl : c = k := by
        have l1 := hT.lv u k hun hk
        have l2 := hT.lv i c hi hcD
        rw [← h1] at l1
        rw [← hvd] at l2
        omega
      have hval : (c + 1 = T.D ∧ sgv x.1.W s = 1) ∨ (c + 1 ≠ T.D ∧ sgv x.1.W s = -1) := by
        rw [e6', hcf]
        by_cases e : c + 1 = T.D
        · exact .inl ⟨e, by rw [if_pos e]⟩
        · exact .inr ⟨e, by rw [if_neg e]⟩
      obtain ⟨_, hui, O', hg, hgo, hgn⟩ := hx.give hT hv hj ho x.1.W x.2 e2 e3 R.inv e5 (fun k hk1 hk2 => R.st k hk1 fun _ => by simp; exact fun e => hk2 e.symm) (by omega) hu hcD h1 h2 (fun hp k hk1 hk2 => by omega)
      rw [← hm1] at hg
      have hO' : O' = O := by
        rcases hval with ⟨e7, e8⟩ | ⟨e7, e8⟩
        · rw [hgo (by omega)]
          funext a b
          exact upO_out fun ⟨k', h3, h4, _⟩ => by omega
        · exact hgn (by omega)
      rw [hO'] at hg
      rw [if_neg (fun hn => hn (.inl e2)), if_neg (by omega), if_pos e2]
      have hrel := hg.release (by rw [hs1]; exact e2) ho
      refine ⟨_, _, downH_ok hrel hT hi hcD (fun k hk => ?_) fun k hk => ?_⟩
      · by_cases e : k = c
        · subst e
          rw [← hvd, ← hjd, setO_eq]
          exact ⟨fun h => (by cases h), fun h => by omega⟩
        · rw [setO_ne (fun e' => hlev k hk e e'.1), o k hk]; omega
      · rw [hsame k (by omega) (by omega)]; exact hb k hk
    | walk e => have : (m.sp v j).pc = 1 ∨ (m.sp v j).pc = 2 := e.1; omega
    | come e => have : (m.sp v j).pc = 3 := e.1; omega
    | link e => have : (m.sp v j).pc = 4 := e.1; omega
    | spin e => have : (m.sp v j).pc = 5 := e.1; omega
    | told e => have : (m.sp v j).pc = 5 := e.1; omega
    | sent e => have : (m.sp v j).pc = 5 := e.1; omega
    | hold e => have : (m.sp v j).pc = 6 := e.1; omega
    | look e => have : (m.sp v j).pc = 15 := e.1; omega
end
end Go.Proofs.YtkdaiomjbkpedaaGreat
end
section
/- Layer 27 (hmcs): the start; somebody can always move. No program in sight. -/
namespace Go.Proofs.YtkdaiomjbkpedaaGreat
open Go.RowKit

def hm0 (T : HTr) : Hm := ⟨fun v => List.replicate (2 * T.nv v + 1) 0, fun v => List.replicate (T.nv v) Sp.zero, List.replicate T.n Sp.zero⟩
theorem sv_repH (n i : Nat) : sv (List.replicate n Sp.zero) i = Sp.zero := by
  unfold sv; rw [List.getD_eq_getElem?_getD, List.getElem?_replicate]; split <;> rfl
theorem HInv.start (T : HTr) (bud : Int) : HInv T bud (hm0 T) (fun _ => []) (fun _ _ => none) := by
  have hs : ∀ v j, (hm0 T).sp v j = Sp.zero := fun v j => sv_repH _ _
  have hS : ∀ t, sv (hm0 T).S t = Sp.zero := fun t => sv_repH _ _
  have ht : ∀ t, TOwn T (hm0 T) (fun _ _ => none) t := fun t => ⟨0, .rest (by rw [hS]; rfl), fun k hk => ⟨fun h => (by cases h), fun h => absurd h (Nat.not_lt_zero _)⟩⟩
  refine ⟨fun i => ⟨fun v hv => RInv.start _, by simp [hm0], fun v j t h => (by cases h), fun v j _ _ _ => by rw [hs]; rfl, fun t _ _ => ht t, fun v j _ _ => ?_, fun v j _ h => by simp at h⟩, fun t _ => ht t⟩
  rw [hs]
  exact ⟨fun e => absurd e (by decide), fun e => absurd e (by decide)⟩
/-- it is not waiting for another one -/
def MovH (T : HTr) (m : Hm) (i : Nat) : Prop :=
  (sv m.S i).pc ≠ 0 ∧ ((sv m.S i).pc ≠ 10 → ∀ c : Nat, (sv m.S i).c = c → ((m.sp (T.pl i c) (T.sl i c)).pc = 5 → m.sg (T.pl i c) (T.sl i c) ≠ 0) ∧ ((m.sp (T.pl i c) (T.sl i c)).pc = 13 → nxv (m.W (T.pl i c)) (T.sl i c) ≠ 0))
section
variable {T : HTr} {bud : Int} {m m' : Hm} {Q Q' : Nat → List Nat} {O O' : Nat → Nat → Option Nat} {i : Nat}
theorem mov_of {s : Sp} (hs : sv m.S i = s) {c : Nat} (hc : s.c = c) (h0 : s.pc ≠ 0) (h5 : (m.sp (T.pl i c) (T.sl i c)).pc = 5 → m.sg (T.pl i c) (T.sl i c) ≠ 0) (h13 : (m.sp (T.pl i c) (T.sl i c)).pc = 13 → nxv (m.W (T.pl i c)) (T.sl i c) ≠ 0) : MovH T m i := by
  refine ⟨by rw [hs]; exact h0, fun _ c' hc' => ?_⟩
  rw [hs, hc] at hc'
  obtain rfl : c = c' := by omega
  exact ⟨h5, h13⟩
/-- whose slot it is -/
theorem HX.owner (h : HX T bud m Q O i) {v j : Nat} (hv : v < T.np) (hj : j < T.nv v) (h0 : (m.sp v j).pc ≠ 0) : ∃ u, O v j = some u := by
  cases hO : O v j with
  | none => exact absurd (h.fr v j hv hj hO) h0
  | some u => exact ⟨u, rfl⟩
/-- who goes out can move, or the one behind it can -/
theorem HInv.leaveMov (h : HInv T bud m Q O) (hT : T.Ok) {t c : Nat} (ht : t < T.n) (hc : (sv m.S t).c = c) (h12 : (sv m.S t).pc = 12) (hcD : c < T.D) (ha : 11 ≤ (m.sp (T.pl t c) (T.sl t c)).pc ∧ (m.sp (T.pl t c) (T.sl t c)).pc ≤ 14) : ∃ u, u < T.n ∧ MovH T m u := by
  by_cases h13 : (m.sp (T.pl t c) (T.sl t c)).pc = 13 ∧ nxv (m.W (T.pl t c)) (T.sl t c) = 0
  · have hx := h.x t
    have hv := hT.plt t c ht hcD
    have hj := hT.slt t c ht hcD
    obtain ⟨v, hvd⟩ : ∃ v, v = T.pl t c := ⟨_, rfl⟩
    obtain ⟨j, hjd⟩ : ∃ j, j = T.sl t c := ⟨_, rfl⟩
    rw [← hvd] at hv hj h13
    rw [← hjd] at hj h13
    have hd := hx.head hv hj (by rw [h13.1]; decide)
    have r := hx.rg v hv
    have h2 := r.hd13 j hd h13.1
    obtain ⟨s, hs⟩ : ∃ s, (Q v)[1]? = some s := ⟨_, List.getElem?_eq_getElem h2⟩
    have hsn : s < T.nv v := r.lt s (List.mem_of_getElem? hs)
    rcases (r.link 0 j s hd hs).2 with ⟨h4, _, _⟩ | ⟨_, h5⟩
    · have h4' : (m.sp v s).pc = 4 := h4
      obtain ⟨u, hu⟩ := hx.owner hv hsn (by omega)
      obtain ⟨hun, k, hk, e1, e2⟩ := hx.ow v s u hu
      refine ⟨u, hun, ?_⟩
      obtain ⟨K, kk, o⟩ := h.t u hun
      have hkK : k < K := by rw [← o k hk, ← e1, ← e2]; exact hu
      have h4k : (m.sp (T.pl u k) (T.sl u k)).pc = 4 := by rw [← e1, ← e2]; exact h4'
      cases kk with
      | rest _ => omega
      | come c' hh _ _ hb =>
        by_cases e : k = c'
        · subst e
          exact mov_of rfl hh.2.1 (by omega) (fun e => by omega) (fun e => by omega)
        · have := hb k (by omega); omega
      | granted c' hh ha' hb =>
        by_cases e : k = c'
        · subst e; omega
        · have := hb k hk e; omega
      | hold _ hb => have := hb k hk; omega
      | pass c' hh ha' hb =>
        by_cases e : k = c'
        · subst e; omega
        · have := hb k hk e; omega
      | leave c' hh ha' _ hb =>
        by_cases e : k = c'
        · subst e; omega
        · have := hb k (by omega); omega
    · have := h13.2; omega
  · refine ⟨t, ht, mov_of rfl hc (by omega) (fun e => by omega) fun e => ?_⟩
    exact fun e2 => h13 ⟨e, e2⟩
theorem HInv.comeMov (h : HInv T bud m Q O) (hT : T.Ok) : ∀ (d t c : Nat), t < T.n → (sv m.S t).c = c → (sv m.S t).pc = 1 → c < T.D → T.D - c ≤ d → ∃ u, u < T.n ∧ MovH T m u := by
  intro d
  induction d with
  | zero => intro t c _ _ _ h1 h2; omega
  | succ d ih =>
    intro t c ht hc h1 hcD hd
    by_cases h5 : (m.sp (T.pl t c) (T.sl t c)).pc = 5 ∧ m.sg (T.pl t c) (T.sl t c) = 0
    · have hx := h.x t
      have hv := hT.plt t c ht hcD
      have hj := hT.slt t c ht hcD
      obtain ⟨v, hvd⟩ : ∃ v, v = T.pl t c := ⟨_, rfl⟩
      obtain ⟨j, hjd⟩ : ∃ j, j = T.sl t c := ⟨_, rfl⟩
      have hvc := hvd
      rw [← hvd] at hv hj h5
      rw [← hjd] at hj h5
      have r := hx.rg v hv
      -- the head of its row
      have hQj : j ∈ Q v := by
        apply Classical.byContradiction
        intro hn
        have := (r.out j hj hn).1.2
        have h5' : (sv (m.P v) j).pc = 5 := h5.1
        omega
      obtain ⟨a, ha⟩ : ∃ a, (Q v)[0]? = some a := by
        cases hq : Q v with
        | nil => rw [hq] at hQj; simp at hQj
        | cons a l => exact ⟨a, rfl⟩
      have han : a < T.nv v := r.lt a (List.mem_of_getElem? ha)
      have hap := (r.head a ha).1
      have hap' : (m.sp v a).pc = 5 ∨ (m.sp v a).pc = 6 ∨ 10 ≤ (m.sp v a).pc ∧ (m.sp v a).pc ≤ 16 := hap
      have ha5 : (m.sp v a).pc = 5 → m.sg v a ≠ 0 := r.hd5 a ha
      obtain ⟨u, hu⟩ := hx.owner hv han (by omega)
      obtain ⟨hun, k, hk, e1, e2⟩ := hx.ow v a u hu
      obtain ⟨K, kk, o⟩ := h.t u hun
      have hkK : k < K := by rw [← o k hk, ← e1, ← e2]; exact hu
      have hkc : k = c := by
        have l1 := hT.lv u k hun hk
        have l2 := hT.lv t c ht hcD
        rw [← e1] at l1
        rw [← hvc] at l2
        omega
      subst hkc
      rw [e1, e2] at hap' ha5
      cases kk with
      | rest _ => omega
      | come c' hh hh2 _ hb =>
        by_cases e : k = c'
        · subst e
          exact ⟨u, hun, mov_of rfl hh.2.1 (by omega) ha5 (fun e => by omega)⟩
        · exact ih u c' hun hh.2.1 hh.1 hh.2.2 (by omega)
      | granted c' hh hh2 hb => exact ⟨u, hun, mov_of rfl hh.2.1 (by omega) (fun _ => by have := hh2.2; omega) (fun e => by omega)⟩
      | hold hh _ => exact ⟨u, hun, by rw [hh]; decide, fun e => absurd hh e⟩
      | pass c' hh hh2 hb => exact ⟨u, hun, mov_of rfl hh.2.1 (by omega) (fun e => by omega) (fun e => by omega)⟩
      | leave c' hh hh2 _ hb => exact h.leaveMov hT hun hh.2.1 hh.1 hh.2.2 hh2
    · obtain ⟨K, kk, o⟩ := h.t t ht
      refine ⟨t, ht, mov_of rfl hc (by omega) (fun e e2 => h5 ⟨e, e2⟩) fun e => ?_⟩
      exfalso
      cases kk with
      | rest hh => omega
      | come c' hh hh2 _ _ =>
        obtain rfl : c = c' := by have := hh.2.1; omega
        omega
      | granted c' hh hh2 _ =>
        obtain rfl : c = c' := by have := hh.2.1; omega
        omega
      | hold hh _ => omega
      | pass c' hh _ _ => omega
      | leave c' hh _ _ _ => omega
theorem HInv.someMov (h : HInv T bud m Q O) (hT : T.Ok) : (∀ t, t < T.n → (sv m.S t).pc = 0) ∨ ∃ u, u < T.n ∧ MovH T m u := by
  rcases Classical.em (∀ t, t < T.n → (sv m.S t).pc = 0) with e | e
  · exact .inl e
  · refine .inr ?_
    obtain ⟨t, ht⟩ := Classical.not_forall.1 e
    obtain ⟨htn, hp⟩ := Classical.not_imp.1 ht
    obtain ⟨K, kk, o⟩ := h.t t htn
    cases kk with
    | rest hh => exact absurd hh hp
    | come c hh _ _ _ => exact h.comeMov hT T.D t c htn hh.2.1 hh.1 hh.2.2 (by omega)
    | granted c hh _ _ => exact h.comeMov hT T.D t c htn hh.2.1 hh.1 hh.2.2 (by omega)
    | hold hh _ => exact ⟨t, htn, by rw [hh]; decide, fun e => absurd hh e⟩
    | pass c hh hh2 _ => exact ⟨t, htn, mov_of rfl hh.2.1 (by omega) (fun e => by omega) (fun e => by omega)⟩
    | leave c hh hh2 _ _ => exact h.leaveMov hT htn hh.2.1 hh.1 hh.2.2 hh2
end
end Go.Proofs.YtkdaiomjbkpedaaGreat
end
