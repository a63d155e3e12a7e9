/- Joined: Hm1, Hm2, Hm3. -/
import Derived.Test.YtkdaiomjbkpedaaGreatMgHmcsU4
section
/- Layers 26, 27 (rung, hmcs): what a step of a slot comes to, case by case; the words by windows. Plain data. -/
namespace Go.Proofs.YtkdaiomjbkpedaaGreat
open Go.RowKit

structure RInv (n : Nat) (W : List Int) (S : List Sp) (Q : List Nat) : Prop extends QInv n W S Q where
  hd5 : ∀ h, Q[0]? = some h → (sv S h).pc = 5 → sgv W h ≠ 0
  hd13 : ∀ h, Q[0]? = some h → (sv S h).pc = 13 → 2 ≤ Q.length
/-- what a step of slot i comes to: p ahead of it, p' behind it -/
inductive RCase (W W' : List Int) (S : List Sp) (Q Q' : List Nat) (i : Nat) (p p' : Sp) : Prop where
  | walk (h : (p.pc = 1 ∨ p.pc = 2) ∧ p'.pc = p.pc + 1 ∧ Q' = Q)
  | come (h : p.pc = 3 ∧ Q' = Q ++ [i] ∧ ((p'.pc = 6 ∧ Q = []) ∨ (p'.pc = 4 ∧ Q ≠ [])))
  | link (h : p.pc = 4 ∧ p'.pc = 5 ∧ Q' = Q ∧ Q[0]? ≠ some i)
  | spin (h : p.pc = 5 ∧ p'.pc = 5 ∧ sgv W i = 0 ∧ Q' = Q ∧ Q[0]? ≠ some i)
  | told (h : p.pc = 5 ∧ p'.pc = 10 ∧ 0 < sgv W i ∧ p'.a = sgv W i ∧ p'.b = 0 ∧ Q' = Q ∧ Q[0]? = some i)
  | sent (h : p.pc = 5 ∧ p'.pc = 6 ∧ sgv W i < 0 ∧ Q' = Q ∧ Q[0]? = some i)
  | hold (h : p.pc = 6 ∧ p'.pc = 10 ∧ p'.a = 1 ∧ p'.b = 1 ∧ Q' = Q ∧ Q[0]? = some i)
  | out (h : 11 ≤ p.pc ∧ p.pc ≤ 13 ∧ p'.c = p.c ∧ Q' = Q ∧ Q[0]? = some i ∧ ((p.pc < p'.pc ∧ p'.pc ≤ 14) ∨ (p.pc = 13 ∧ p'.pc = 13 ∧ nxv W i = 0)))
  | free (h : p.pc = 12 ∧ p'.pc = 0 ∧ Q = [i] ∧ Q' = [])
  | give (s : Nat) (r : List Nat) (h : (p.pc = 14 ∨ p.pc = 16) ∧ p'.pc = 0 ∧ Q = i :: s :: r ∧ Q' = s :: r ∧ (sv S s).pc = 5 ∧ sgv W' s = p.c)
  | look (h : p.pc = 15 ∧ (p'.pc = 10 ∨ p'.pc = 16) ∧ p'.a = p.a ∧ p'.c = p.c ∧ Q' = Q ∧ Q[0]? = some i)
structure ROut (n : Nat) (W W' : List Int) (S : List Sp) (Q Q' : List Nat) (i : Nat) (p p' : Sp) : Prop where
  inv : RInv n W' (S.set i p') Q'
  st : ∀ j, j ≠ i → (p.pc = 14 ∨ p.pc = 16 → Q'[0]? ≠ some j) → sgv W' j = sgv W j
  nx : ∀ j, j ≠ i → nxv W j ≠ 0 → nxv W' j ≠ 0
  case_ : RCase W W' S Q Q' i p p'
section
variable {n : Nat} {ar : Ar} {S : List Sp} {Q : List Nat} {i : Nat}
/-- the head stays the head, and is not told anew -/
theorem RInv.same {W W' : List Int} {p p' : Sp} (k : RInv n W S Q) (hp : sv S i = p) (hi : i < n) (h : QInv n W' (S.set i p') Q) (hs : ∀ j, j ≠ i → sgv W' j = sgv W j) (h5 : p'.pc = 5 → Q[0]? = some i → sgv W' i ≠ 0) (h13 : p'.pc = 13 → Q[0]? = some i → 2 ≤ Q.length) : RInv n W' (S.set i p') Q := by
  refine ⟨h, fun a ha h5' => ?_, fun a ha h13' => ?_⟩
  by_cases e : a = i
  · subst e
    rw [sv_self S (by rw [k.sl]; exact hi)] at h5'
    exact h5 h5' ha
  · rw [sv_set, if_neg (fun h => e h.1.symm)] at h5'
    rw [hs a e]
    exact k.hd5 a ha h5'
  · by_cases e : a = i
    · subst e
      rw [sv_self S (by rw [k.sl]; exact hi)] at h13'
      exact h13 h13' ha
    · rw [sv_set, if_neg (fun h => e h.1.symm)] at h13'
      exact k.hd13 a ha h13'
theorem rungStep (k : RInv n ar.W S Q) (hn : n ≤ 32) (hi : i < n) (h0 : (sv S i).pc ≠ 0) (h10 : (sv S i).pc ≠ 10) (hc : (sv S i).pc = 14 ∨ (sv S i).pc = 16 → (sv S i).c ≠ 0) :
    ∃ Q', ROut n ar.W (stepP ar 1 ((i : Int) + 1) (sv S i)).1.W S Q Q' i (sv S i) (stepP ar 1 ((i : Int) + 1) (sv S i)).2 := by
  have h := k.toQInv
  have hw := h.wl
  have hsl : i < S.length := by rw [h.sl]; exact hi
  obtain ⟨p, hp⟩ : ∃ p, p = sv S i := ⟨_, rfl⟩
  rw [← hp]
  rw [← hp] at h0 h10 hc
  have same : ∀ (W' : List Int) (p' : Sp), QInv n W' (S.set i p') Q → (∀ j, j ≠ i → sgv W' j = sgv ar.W j) → (p'.pc = 5 → Q[0]? = some i → sgv W' i ≠ 0) → RCase ar.W W' S Q Q i p p' → (p'.pc = 13 → Q[0]? = some i → 2 ≤ Q.length) → (∀ j, j ≠ i → nxv ar.W j ≠ 0 → nxv W' j ≠ 0) → ROut n ar.W W' S Q Q i p p' := fun W' p' h1 h2 h3 h4 h5 h6 =>
    ⟨k.same hp.symm hi h1 h2 h3 h5, fun j hj _ => h2 j hj, h6, h4⟩
  by_cases hQ : i ∈ Q
  · rcases h.inq hQ with ⟨hd, hpc⟩ | ⟨kk, a, ha, hk, hsg, hpc⟩
    · rw [← hp] at hpc
      obtain ⟨t, ht⟩ := headQ hd
      have hcase : p.pc = 5 ∨ p.pc = 6 ∨ p.pc = 11 ∨ p.pc = 12 ∨ p.pc = 13 ∨ p.pc = 14 ∨ p.pc = 15 ∨ p.pc = 16 := by omega
      have hhead := h.head i hd
      rw [← hp] at hhead
      have pop : ∀ s : Nat, Q[1]? = some s → (sv S s).pc = 5 → p.c ≠ 0 → s < n → (p.pc = 14 ∨ p.pc = 16) → ROut n ar.W (ar.W.set (2 * s + 2) p.c) S Q Q.tail i p { p with pc := 0 } := fun s q1 q3 hc0 hs hpp => by
        obtain ⟨g1, g2⟩ := h.pop (p' := { p with pc := 0 }) hd q1 q3 (W' := ar.W.set (2 * s + 2) p.c) (by simp [hw]) (by rw [tlv_set _ _ _ (by omega), if_neg (by omega)]) (fun j => by rw [nxv_set _ _ _ _ (by omega), if_neg (by omega)]) (fun j hj => by rw [sgv_set _ _ _ _ (by omega), if_neg (by omega)]) rfl
        obtain ⟨r, hr⟩ : ∃ r, Q = i :: s :: r := by
          rw [ht] at q1
          cases t with
          | nil => simp at q1
          | cons b r => simp at q1; subst q1; exact ⟨r, ht⟩
        have hsv : sgv (ar.W.set (2 * s + 2) p.c) s = p.c := by rw [sgv_set _ _ _ _ (by omega), if_pos rfl]
        refine ⟨⟨g1, fun b hb _ => ?_, fun b hb hb13 => ?_⟩, fun j hj hjj => ?_, fun j _ hj => by rw [nxv_set _ _ _ _ (by omega), if_neg (by omega)]; exact hj, .give s r ⟨hpp, rfl, hr, by rw [hr]; rfl, q3, hsv⟩⟩
        · rw [hr] at hb
          obtain rfl : s = b := by simpa using hb
          rw [hsv]; exact hc0
        · rw [hr] at hb
          obtain rfl : s = b := by simpa using hb
          have hsi : s ≠ i := fun e => by
            have hnd := h.nd
            rw [hr, e] at hnd
            simp at hnd
          rw [sv_set, if_neg (fun h => hsi h.1.symm)] at hb13
          omega
        · have : j ≠ s := fun e => hjj hpp (by rw [hr, e]; rfl)
          rw [sgv_set _ _ _ _ (by omega), if_neg (by omega)]
      rcases hcase with e | e | e | e | e | e | e | e
      · have hx : stepP ar 1 ((i : Int) + 1) p = (loadA ar (stA 1 ((i : Int) + 1)), if 0 < sgv ar.W i then { p with a := sgv ar.W i, b := 0, pc := 10 } else if sgv ar.W i < 0 then { p with a := sgv ar.W i, pc := 6 } else { p with a := sgv ar.W i, pc := 5 }) := by
          unfold stepP inR26
          rw [if_pos (by rw [e]; decide), if_neg (by rw [e]; decide), if_neg (by rw [e]; decide), if_neg (by rw [e]; decide), if_neg (by rw [e]; decide), if_pos e, ld_st hw hi hn]
        rw [hx, loadA_W]
        have hne := k.hd5 i hd (by rw [← hp]; exact e)
        refine ⟨Q, ?_⟩
        by_cases hv : 0 < sgv ar.W i
        · rw [if_pos hv]
          exact same _ _ (h.headOnly hd hw rfl (fun _ => rfl) (fun _ _ => rfl) ⟨.inr (.inr ⟨by show (10 : Int) ≤ 10; omega, by show (10 : Int) ≤ 16; omega⟩), fun e => absurd e (by show ¬ (10 : Int) = 14; decide), fun e => absurd e (by show ¬ (10 : Int) = 16; decide)⟩) (fun _ _ => rfl) (fun e => absurd e (by show ¬ (10 : Int) = 5; decide)) (.told ⟨e, rfl, hv, rfl, rfl, rfl, hd⟩) (fun e => by simp at e) (fun _ _ h => h)
        · rw [if_neg hv, if_pos (by omega)]
          exact same _ _ (h.headOnly hd hw rfl (fun _ => rfl) (fun _ _ => rfl) ⟨.inr (.inl rfl), fun e => absurd e (by show ¬ (6 : Int) = 14; decide), fun e => absurd e (by show ¬ (6 : Int) = 16; decide)⟩) (fun _ _ => rfl) (fun e => absurd e (by show ¬ (6 : Int) = 5; decide)) (.sent ⟨e, rfl, by omega, rfl, hd⟩) (fun e => by simp at e) (fun _ _ h => h)
      · have hx : stepP ar 1 ((i : Int) + 1) p = (storeA ar (stA 1 ((i : Int) + 1)) 1, { p with a := 1, b := 1, pc := 10 }) := by
          unfold stepP inR26
          rw [if_pos (by rw [e]; decide), if_neg (by rw [e]; decide), if_neg (by rw [e]; decide), if_neg (by rw [e]; decide), if_neg (by rw [e]; decide), if_neg (by rw [e]; decide)]
        rw [hx]
        have hW : (storeA ar (stA 1 ((i : Int) + 1)) 1).W = ar.W.set (2 * i + 2) 1 := by rw [storeA_W, st_st hw hi hn]
        rw [hW]
        have hsg : ∀ j, j ≠ i → sgv (ar.W.set (2 * i + 2) 1) j = sgv ar.W j := fun j hj => by rw [sgv_set _ _ _ _ (by omega), if_neg (by omega)]
        exact ⟨Q, same _ _ (h.headOnly hd (by simp [hw]) (by rw [tlv_set _ _ _ (by omega), if_neg (by omega)]) (fun j => by rw [nxv_set _ _ _ _ (by omega), if_neg (by omega)]) hsg ⟨.inr (.inr ⟨by show (10 : Int) ≤ 10; omega, by show (10 : Int) ≤ 16; omega⟩), fun e => absurd e (by show ¬ (10 : Int) = 14; decide), fun e => absurd e (by show ¬ (10 : Int) = 16; decide)⟩) hsg (fun e => absurd e (by show ¬ (10 : Int) = 5; decide)) (.hold ⟨e, rfl, rfl, rfl, rfl, hd⟩) (fun e => by simp at e) (fun j _ h => by rw [nxv_set _ _ _ _ (by omega), if_neg (by omega)]; exact h)⟩
      · have hx : stepP ar 1 ((i : Int) + 1) p = (loadA ar (nxA 1 ((i : Int) + 1)), { p with a := nxv ar.W i, pc := if nxv ar.W i ≠ 0 then 14 else 12 }) := by
          unfold stepP outR26
          rw [if_neg (by rw [e]; decide), if_neg (by rw [e]; decide), if_neg (by rw [e]; decide), if_neg (by rw [e]; decide), if_neg (by rw [e]; decide), ld_nx hw hi hn]
          simp [e]
        rw [hx, loadA_W]
        refine ⟨Q, ?_⟩
        by_cases hz : nxv ar.W i = 0
        · rw [if_neg (fun h => h hz)]
          exact same _ _ (h.headOnly hd hw rfl (fun _ => rfl) (fun _ _ => rfl) ⟨.inr (.inr ⟨by show (10 : Int) ≤ 12; omega, by show (12 : Int) ≤ 16; omega⟩), fun e => absurd e (by show ¬ (12 : Int) = 14; decide), fun e => absurd e (by show ¬ (12 : Int) = 16; decide)⟩) (fun _ _ => rfl) (fun e => absurd e (by show ¬ (12 : Int) = 5; decide)) (.out ⟨by omega, by omega, rfl, rfl, hd, .inl ⟨by show p.pc < 12; omega, by show (12 : Int) ≤ 14; decide⟩⟩) (fun e => by simp at e) (fun _ _ h => h)
        · rw [if_pos hz]
          exact same _ _ (h.headOnly hd hw rfl (fun _ => rfl) (fun _ _ => rfl) ⟨.inr (.inr ⟨by show (10 : Int) ≤ 14; omega, by show (14 : Int) ≤ 16; omega⟩), fun _ => h.second hd hz, fun e => absurd e (by show ¬ (14 : Int) = 16; decide)⟩) (fun _ _ => rfl) (fun e => absurd e (by show ¬ (14 : Int) = 5; decide)) (.out ⟨by omega, by omega, rfl, rfl, hd, .inl ⟨by show p.pc < 14; omega, by show (14 : Int) ≤ 14; decide⟩⟩) (fun e => by simp at e) (fun _ _ h => h)
      · have hcb0 : casB ar 1 ((i : Int) + 1) = decide (tlv ar.W = (i : Int) + 1) := by
          unfold casB
          rw [ld_tl hw]
          have : inR ar.W 1 = true := decide_eq_true (by omega)
          rw [this, Bool.true_and]
        have hx : stepP ar 1 ((i : Int) + 1) p = (casA ar 1 ((i : Int) + 1) 0, { p with pc := if casB ar 1 ((i : Int) + 1) then 0 else 13 }) := by
          unfold stepP outR26
          rw [if_neg (by rw [e]; decide), if_pos e]
        rw [hx]
        by_cases hl : tlv ar.W = (i : Int) + 1
        · have hcb : casB ar 1 ((i : Int) + 1) = true := by rw [hcb0]; exact decide_eq_true hl
          have hW : (casA ar 1 ((i : Int) + 1) 0).W = ar.W.set 0 0 := by
            unfold casA
            rw [hcb, if_pos rfl]
            show stW (noteA ar 4 1 true).W 1 0 = _
            rw [noteA_W, st_tl hw]
          have hQ1 : Q = [i] := h.alone hd hl
          rw [hcb, hW]
          subst hQ1
          have hsg : ∀ j, sgv (ar.W.set 0 0) j = sgv ar.W j := fun j => by rw [sgv_set _ _ _ _ (by omega), if_neg (by omega)]
          exact ⟨[], ⟨⟨h.gone (by simp [hw]) (by rw [tlv_set _ _ _ (by omega), if_pos rfl]) (fun j => by rw [nxv_set _ _ _ _ (by omega), if_neg (by omega)]) hsg rfl, fun a ha => by simp at ha, fun a ha => by simp at ha⟩, fun j _ _ => hsg j, fun j _ hj => by rw [nxv_set _ _ _ _ (by omega), if_neg (by omega)]; exact hj, .free ⟨e, rfl, rfl, rfl⟩⟩⟩
        · have hcb : casB ar 1 ((i : Int) + 1) = false := by rw [hcb0]; exact decide_eq_false hl
          have hW : (casA ar 1 ((i : Int) + 1) 0).W = ar.W := by
            unfold casA
            rw [hcb]
            exact noteA_W _ _ _ _
          rw [hcb, hW]
          exact ⟨Q, same _ _ (h.headOnly hd hw rfl (fun _ => rfl) (fun _ _ => rfl) ⟨.inr (.inr (by show (10 : Int) ≤ 13 ∧ (13 : Int) ≤ 16; decide)), fun e => absurd e (by show ¬ (13 : Int) = 14; decide), fun e => absurd e (by show ¬ (13 : Int) = 16; decide)⟩) (fun _ _ => rfl) (fun e => absurd e (by show ¬ (13 : Int) = 5; decide)) (.out ⟨by omega, by omega, rfl, rfl, hd, .inl ⟨by show p.pc < 13; omega, by show (13 : Int) ≤ 14; decide⟩⟩) (fun _ _ => by
            cases t with
            | nil => exact absurd (by rw [h.tail, ht]; rfl) hl
            | cons a l => rw [ht]; simp) (fun _ _ h => h)⟩
      · have hx : stepP ar 1 ((i : Int) + 1) p = (loadA ar (nxA 1 ((i : Int) + 1)), { p with a := nxv ar.W i, pc := if nxv ar.W i ≠ 0 then 14 else 13 }) := by
          unfold stepP outR26
          rw [if_neg (by rw [e]; decide), if_neg (by rw [e]; decide), if_neg (by rw [e]; decide), if_neg (by rw [e]; decide), if_neg (by rw [e]; decide), ld_nx hw hi hn]
          simp [e]
        rw [hx, loadA_W]
        refine ⟨Q, ?_⟩
        by_cases hz : nxv ar.W i = 0
        · rw [if_neg (fun h => h hz)]
          exact same _ _ (h.headOnly hd hw rfl (fun _ => rfl) (fun _ _ => rfl) ⟨.inr (.inr ⟨by show (10 : Int) ≤ 13; omega, by show (13 : Int) ≤ 16; omega⟩), fun e => absurd e (by show ¬ (13 : Int) = 14; decide), fun e => absurd e (by show ¬ (13 : Int) = 16; decide)⟩) (fun _ _ => rfl) (fun e => absurd e (by show ¬ (13 : Int) = 5; decide)) (.out ⟨by omega, by omega, rfl, rfl, hd, .inr ⟨e, rfl, hz⟩⟩) (fun _ hq => k.hd13 i hq (by rw [← hp]; exact e)) (fun _ _ h => h)
        · rw [if_pos hz]
          exact same _ _ (h.headOnly hd hw rfl (fun _ => rfl) (fun _ _ => rfl) ⟨.inr (.inr ⟨by show (10 : Int) ≤ 14; omega, by show (14 : Int) ≤ 16; omega⟩), fun _ => h.second hd hz, fun e => absurd e (by show ¬ (14 : Int) = 16; decide)⟩) (fun _ _ => rfl) (fun e => absurd e (by show ¬ (14 : Int) = 5; decide)) (.out ⟨by omega, by omega, rfl, rfl, hd, .inl ⟨by show p.pc < 14; omega, by show (14 : Int) ≤ 14; decide⟩⟩) (fun e => by simp at e) (fun _ _ h => h)
      · obtain ⟨s, q1, q2, q3⟩ := hhead.2.1 e
        have hs : s < n := h.lt s (List.mem_of_getElem? q1)
        have hx : stepP ar 1 ((i : Int) + 1) p = (storeA ar (stA 1 ((s : Int) + 1)) p.c, { p with pc := 0 }) := by
          unfold stepP outR26
          rw [if_neg (by rw [e]; decide), if_neg (by rw [e]; decide), if_pos e, q2]
        rw [hx]
        have hW : (storeA ar (stA 1 ((s : Int) + 1)) p.c).W = ar.W.set (2 * s + 2) p.c := by rw [storeA_W, st_st hw hs hn]
        rw [hW]
        exact ⟨Q.tail, pop s q1 q3 (hc (.inl e)) hs (.inl e)⟩
      · have hx : stepP ar 1 ((i : Int) + 1) p = (loadA ar (nxA 1 ((i : Int) + 1)), { p with b := nxv ar.W i, pc := if nxv ar.W i = 0 then 10 else 16 }) := by
          unfold stepP outR26
          rw [if_neg (by rw [e]; decide), if_neg (by rw [e]; decide), if_neg (by rw [e]; decide), if_pos e, ld_nx hw hi hn]
        rw [hx, loadA_W]
        refine ⟨Q, ?_⟩
        by_cases hz : nxv ar.W i = 0
        · rw [if_pos hz]
          exact same _ _ (h.headOnly hd hw rfl (fun _ => rfl) (fun _ _ => rfl) ⟨.inr (.inr ⟨by show (10 : Int) ≤ 10; omega, by show (10 : Int) ≤ 16; omega⟩), fun e => absurd e (by show ¬ (10 : Int) = 14; decide), fun e => absurd e (by show ¬ (10 : Int) = 16; decide)⟩) (fun _ _ => rfl) (fun e => absurd e (by show ¬ (10 : Int) = 5; decide)) (.look ⟨e, .inl rfl, rfl, rfl, rfl, hd⟩) (fun e => by simp at e) (fun _ _ h => h)
        · rw [if_neg hz]
          exact same _ _ (h.headOnly hd hw rfl (fun _ => rfl) (fun _ _ => rfl) ⟨.inr (.inr ⟨by show (10 : Int) ≤ 16; omega, by show (16 : Int) ≤ 16; omega⟩), fun e => absurd e (by show ¬ (16 : Int) = 14; decide), fun _ => h.second hd hz⟩) (fun _ _ => rfl) (fun e => absurd e (by show ¬ (16 : Int) = 5; decide)) (.look ⟨e, .inr rfl, rfl, rfl, rfl, hd⟩) (fun e => by simp at e) (fun _ _ h => h)
      · obtain ⟨s, q1, q2, q3⟩ := hhead.2.2 e
        have hs : s < n := h.lt s (List.mem_of_getElem? q1)
        have hx : stepP ar 1 ((i : Int) + 1) p = (storeA ar (stA 1 ((s : Int) + 1)) p.c, { p with pc := 0 }) := by
          unfold stepP outR26
          rw [if_neg (by rw [e]; decide), if_neg (by rw [e]; decide), if_neg (by rw [e]; decide), if_neg (by rw [e]; decide), if_pos e, q2]
        rw [hx]
        have hW : (storeA ar (stA 1 ((s : Int) + 1)) p.c).W = ar.W.set (2 * s + 2) p.c := by rw [storeA_W, st_st hw hs hn]
        rw [hW]
        exact ⟨Q.tail, pop s q1 q3 (hc (.inr e)) hs (.inr e)⟩
    · rw [← hp] at hpc
      have han : a < n := h.lt a (List.mem_of_getElem? ha)
      have hnh : Q[0]? ≠ some i := fun e => by have := nodup_idx h.nd hk e; omega
      rcases hpc with ⟨e, ea, hz⟩ | ⟨e, hz⟩
      · have hx : stepP ar 1 ((i : Int) + 1) p = (storeA ar (nxA 1 ((a : Int) + 1)) ((i : Int) + 1), { p with pc := 5 }) := by
          unfold stepP inR26
          rw [if_pos (by rw [e]; decide), if_neg (by rw [e]; decide), if_neg (by rw [e]; decide), if_neg (by rw [e]; decide), if_pos e, ea]
        rw [hx]
        have hW : (storeA ar (nxA 1 ((a : Int) + 1)) ((i : Int) + 1)).W = ar.W.set (2 * a + 1) ((i : Int) + 1) := by rw [storeA_W, st_nx hw han hn]
        rw [hW]
        have hsg2 : ∀ j, sgv (ar.W.set (2 * a + 1) ((i : Int) + 1)) j = sgv ar.W j := fun j => by rw [sgv_set _ _ _ _ (by omega), if_neg (by omega)]
        exact ⟨Q, same _ _ (h.behind ha hk (by simp [hw]) (by rw [tlv_set _ _ _ (by omega), if_neg (by omega)]) (fun j hj => by rw [nxv_set _ _ _ _ (by omega), if_neg (by omega)]) hsg2 ⟨rfl, by rw [nxv_set _ _ _ _ (by omega), if_pos rfl]⟩) (fun j _ => hsg2 j) (fun _ e => absurd e hnh) (.link ⟨e, rfl, rfl, hnh⟩) (fun e => by simp at e) (fun j _ hj => by
          by_cases ej : j = a
          · subst ej; rw [nxv_set _ _ _ _ (by omega), if_pos rfl]; omega
          · rw [nxv_set _ _ _ _ (by omega), if_neg (by omega)]; exact hj)⟩
      · have hx : stepP ar 1 ((i : Int) + 1) p = (loadA ar (stA 1 ((i : Int) + 1)), { p with a := sgv ar.W i, pc := 5 }) := by
          unfold stepP inR26
          rw [if_pos (by rw [e]; decide), if_neg (by rw [e]; decide), if_neg (by rw [e]; decide), if_neg (by rw [e]; decide), if_neg (by rw [e]; decide), if_pos e, ld_st hw hi hn, hsg]
          rfl
        rw [hx, loadA_W]
        exact ⟨Q, same _ _ (h.behind ha hk hw rfl (fun _ _ => rfl) (fun _ => rfl) ⟨rfl, hz⟩) (fun _ _ => rfl) (fun _ e => absurd e hnh) (.spin ⟨e, rfl, hsg, rfl, hnh⟩) (fun e => by simp at e) (fun _ _ h => h)⟩
  · obtain ⟨hr, hr2, hr3⟩ := h.out i hi hQ
    rw [← hp] at hr hr2 hr3
    have hnh : Q[0]? ≠ some i := fun e => hQ (List.mem_of_getElem? e)
    rcases (show p.pc = 1 ∨ p.pc = 2 ∨ p.pc = 3 by omega) with e | e | e
    · have hx : stepP ar 1 ((i : Int) + 1) p = (storeA ar (nxA 1 ((i : Int) + 1)) 0, { p with pc := 2 }) := by
        unfold stepP inR26
        rw [if_pos (by rw [e]; decide), if_pos e]
      rw [hx]
      have hW : (storeA ar (nxA 1 ((i : Int) + 1)) 0).W = ar.W.set (2 * i + 1) 0 := by rw [storeA_W, st_nx hw hi hn]
      rw [hW]
      have hsg2 : ∀ j, j ≠ i → sgv (ar.W.set (2 * i + 1) 0) j = sgv ar.W j := fun j _ => by rw [sgv_set _ _ _ _ (by omega), if_neg (by omega)]
      obtain ⟨g1, g2⟩ := h.outside (p' := { p with pc := 2 }) hi hQ (W' := ar.W.set (2 * i + 1) 0) (by simp [hw]) (by rw [tlv_set _ _ _ (by omega), if_neg (by omega)]) (fun j hj => by rw [nxv_set _ _ _ _ (by omega), if_neg (by omega)]) hsg2 ⟨⟨by show (0 : Int) ≤ 2; decide, by show (2 : Int) ≤ 3; decide⟩, fun _ => by rw [nxv_set _ _ _ _ (by omega), if_pos rfl], fun e => absurd e (by show ¬ (2 : Int) = 3; decide)⟩
      exact ⟨Q, same _ _ g1 hsg2 (fun _ e => absurd e hnh) (.walk ⟨.inl e, by show (2 : Int) = p.pc + 1; omega, rfl⟩) (fun e => by simp at e) (fun j hj h => by rw [nxv_set _ _ _ _ (by omega), if_neg (by omega)]; exact h)⟩
    · have hx : stepP ar 1 ((i : Int) + 1) p = (storeA ar (stA 1 ((i : Int) + 1)) 0, { p with pc := 3 }) := by
        unfold stepP inR26
        rw [if_pos (by rw [e]; decide), if_neg (by rw [e]; decide), if_pos e]
      rw [hx]
      have hW : (storeA ar (stA 1 ((i : Int) + 1)) 0).W = ar.W.set (2 * i + 2) 0 := by rw [storeA_W, st_st hw hi hn]
      rw [hW]
      have hsg2 : ∀ j, j ≠ i → sgv (ar.W.set (2 * i + 2) 0) j = sgv ar.W j := fun j hj => by rw [sgv_set _ _ _ _ (by omega), if_neg (by omega)]
      obtain ⟨g1, g2⟩ := h.outside (p' := { p with pc := 3 }) hi hQ (W' := ar.W.set (2 * i + 2) 0) (by simp [hw]) (by rw [tlv_set _ _ _ (by omega), if_neg (by omega)]) (fun j hj => by rw [nxv_set _ _ _ _ (by omega), if_neg (by omega)]) hsg2 ⟨⟨by show (0 : Int) ≤ 3; decide, by show (3 : Int) ≤ 3; decide⟩, fun _ => by rw [nxv_set _ _ _ _ (by omega), if_neg (by omega)]; exact hr2 (by omega), fun _ => by rw [sgv_set _ _ _ _ (by omega), if_pos rfl]⟩
      exact ⟨Q, same _ _ g1 hsg2 (fun _ e => absurd e hnh) (.walk ⟨.inr e, by show (3 : Int) = p.pc + 1; omega, rfl⟩) (fun e => by simp at e) (fun j hj h => by rw [nxv_set _ _ _ _ (by omega), if_neg (by omega)]; exact h)⟩
    · have hx : stepP ar 1 ((i : Int) + 1) p = (swapA ar 1 ((i : Int) + 1), { p with a := tlv ar.W, pc := if tlv ar.W = 0 then 6 else 4 }) := by
        unfold stepP inR26
        rw [if_pos (by rw [e]; decide), if_neg (by rw [e]; decide), if_neg (by rw [e]; decide), if_pos e, ld_tl hw]
      rw [hx]
      have hW : (swapA ar 1 ((i : Int) + 1)).W = ar.W.set 0 ((i : Int) + 1) := by rw [swapA_W, st_tl hw]
      rw [hW]
      have hsg2 : ∀ j, sgv (ar.W.set 0 ((i : Int) + 1)) j = sgv ar.W j := fun j => by rw [sgv_set _ _ _ _ (by omega), if_neg (by omega)]
      obtain ⟨g1, _⟩ := h.come (p' := { p with a := tlv ar.W, pc := if tlv ar.W = 0 then 6 else 4 }) hi (by rw [← hp]; exact e) (W' := ar.W.set 0 ((i : Int) + 1)) (by simp [hw]) (by rw [tlv_set _ _ _ (by omega), if_pos rfl]) (fun j => by rw [nxv_set _ _ _ _ (by omega), if_neg (by omega)]) hsg2 ⟨rfl, rfl⟩
      have hq0 : tlv ar.W = 0 ↔ Q = [] := by
        rw [h.tail]
        unfold lastW
        constructor
        · intro hh
          cases hg : Q.getLast? with
          | none => simpa using hg
          | some j => rw [hg] at hh; dsimp only at hh; omega
        · intro hh; rw [hh]; rfl
      refine ⟨Q ++ [i], ⟨g1, fun b hb hb5 => ?_, fun b hb hb13 => ?_⟩, fun j _ _ => hsg2 j, fun j _ hj => by rw [nxv_set _ _ _ _ (by omega), if_neg (by omega)]; exact hj, ?_⟩
      · by_cases eb : b = i
        · subst eb
          rw [sv_self S hsl] at hb5
          dsimp only at hb5
          split at hb5 <;> exact absurd hb5 (by decide)
        · rw [sv_set, if_neg (fun h => eb h.1.symm)] at hb5
          rw [hsg2]
          refine k.hd5 b ?_ hb5
          cases Q with
          | nil => simp at hb; exact absurd hb.symm eb
          | cons c r => simpa using hb
      · by_cases eb : b = i
        · subst eb
          rw [sv_self S hsl] at hb13
          dsimp only at hb13
          split at hb13 <;> exact absurd hb13 (by decide)
        · rw [sv_set, if_neg (fun h => eb h.1.symm)] at hb13
          have := k.hd13 b (by
            cases Q with
            | nil => simp at hb; exact absurd hb.symm eb
            | cons c r => simpa using hb) hb13
          simp only [List.length_append, List.length_singleton]; omega
      · by_cases hz : Q = []
        · exact .come ⟨e, rfl, .inl ⟨by show (if tlv ar.W = 0 then (6 : Int) else 4) = 6; rw [if_pos (hq0.2 hz)], hz⟩⟩
        · exact .come ⟨e, rfl, .inr ⟨by show (if tlv ar.W = 0 then (6 : Int) else 4) = 4; rw [if_neg (fun h => hz (hq0.1 h))], hz⟩⟩
theorem RInv.start (n : Nat) : RInv n (List.replicate (2 * n + 1) 0) (List.replicate n Sp.zero) [] := ⟨QInv.start n, fun h hh => by simp at hh, fun h hh => by simp at hh⟩
end
end Go.Proofs.YtkdaiomjbkpedaaGreat
end
section
/- Layers 26, 27: a rung's step on a window of the arena's words. Plain data. -/
namespace Go.Proofs.YtkdaiomjbkpedaaGreat
open Go.RowKit

def arW (W : List Int) : Ar := ⟨W, 0, 0, 0, 0, false⟩
section
variable {A W C : List Int} {n : Nat}
theorem inR_win {z : Int} (h1 : 1 ≤ z) (h2 : z ≤ W.length) : inR (A ++ W ++ C) (A.length + z) = true ∧ inR W z = true := by
  refine ⟨inR_true.2 ⟨by omega, ?_⟩, inR_true.2 ⟨h1, h2⟩⟩
  simp only [List.length_append]; omega
theorem ld_win {z : Int} (h1 : 1 ≤ z) (h2 : z ≤ W.length) : ldW (A ++ W ++ C) (A.length + z) = ldW W z := by
  obtain ⟨e1, e2⟩ := inR_win (A := A) (C := C) h1 h2
  rw [ldW_in e1, ldW_in e2, show ((A.length : Int) + z).toNat - 1 = A.length + (z.toNat - 1) by omega]
  rw [List.getD_eq_getElem?_getD, List.getD_eq_getElem?_getD, List.append_assoc, List.getElem?_append_right (by omega), Nat.add_sub_cancel_left, List.getElem?_append_left (by omega)]
theorem st_win {z : Int} (v : Int) (h1 : 1 ≤ z) (h2 : z ≤ W.length) : stW (A ++ W ++ C) (A.length + z) v = A ++ stW W z v ++ C := by
  obtain ⟨e1, e2⟩ := inR_win (A := A) (C := C) h1 h2
  unfold stW
  rw [if_pos e1, if_pos e2, show ((A.length : Int) + z).toNat - 1 = A.length + (z.toNat - 1) by omega]
  rw [List.append_assoc, List.set_append_right _ _ (by omega), Nat.add_sub_cancel_left, List.set_append_left _ _ (by omega), List.append_assoc]
theorem nxA_win {x : Int} (hx : 1 ≤ x ∧ x ≤ 32) (hA : A.length ≤ 5000) : nxA ((A.length : Int) + 1) x = A.length + 2 * x ∧ nxA 1 x = 2 * x := by unfold nxA wrap64; omega
theorem stA_win {x : Int} (hx : 1 ≤ x ∧ x ≤ 32) (hA : A.length ≤ 5000) : stA ((A.length : Int) + 1) x = A.length + (2 * x + 1) ∧ stA 1 x = 2 * x + 1 := by unfold stA wrap64; omega
theorem cas_win {s : Ar} (hs : s.W = A ++ W ++ C) {z old v : Int} (h1 : 1 ≤ z) (h2 : z ≤ W.length) : casB s (A.length + z) old = casB (arW W) z old ∧ (casA s (A.length + z) old v).W = A ++ (casA (arW W) z old v).W ++ C := by
  obtain ⟨e1, e2⟩ := inR_win (A := A) (C := C) h1 h2
  have hb : casB s (A.length + z) old = casB (arW W) z old := by
    unfold casB
    rw [hs, e1, ld_win h1 h2]
    show _ = (inR W z && decide (ldW W z = old))
    rw [e2]
  refine ⟨hb, ?_⟩
  rw [casA_W, casA_W, hb, hs]
  show (if casB (arW W) z old = true then stW (A ++ W ++ C) (A.length + z) v else A ++ W ++ C) = A ++ (if casB (arW W) z old = true then stW W z v else W) ++ C
  split
  · exact st_win v h1 h2
  · rfl
/-- a step on the arena is a step on the rung's own words -/
theorem stepP_win {s : Ar} (hs : s.W = A ++ W ++ C) (hW : W.length = 2 * n + 1) (hn : n ≤ 32) (hA : A.length ≤ 5000) {x : Int} (hx : 1 ≤ x ∧ x ≤ n) {p : Sp} (h4 : p.pc = 4 ∨ p.pc = 14 → 1 ≤ p.a ∧ p.a ≤ n) (h16 : p.pc = 16 → 1 ≤ p.b ∧ p.b ≤ n) :
    (stepP s ((A.length : Int) + 1) x p).1.W = A ++ (stepP (arW W) 1 x p).1.W ++ C ∧ (stepP s ((A.length : Int) + 1) x p).2 = (stepP (arW W) 1 x p).2 := by
  have nx : ∀ y : Int, 1 ≤ y → y ≤ n → (∀ v, stW (A ++ W ++ C) (nxA ((A.length : Int) + 1) y) v = A ++ stW W (nxA 1 y) v ++ C) ∧ ldW (A ++ W ++ C) (nxA ((A.length : Int) + 1) y) = ldW W (nxA 1 y) := fun y h1 h2 => by
    obtain ⟨e1, e2⟩ := nxA_win (x := y) (A := A) (by omega) hA
    rw [e1, e2]
    exact ⟨fun v => st_win v (by omega) (by omega), ld_win (by omega) (by omega)⟩
  have st : ∀ y : Int, 1 ≤ y → y ≤ n → (∀ v, stW (A ++ W ++ C) (stA ((A.length : Int) + 1) y) v = A ++ stW W (stA 1 y) v ++ C) ∧ ldW (A ++ W ++ C) (stA ((A.length : Int) + 1) y) = ldW W (stA 1 y) := fun y h1 h2 => by
    obtain ⟨e1, e2⟩ := stA_win (x := y) (A := A) (by omega) hA
    rw [e1, e2]
    exact ⟨fun v => st_win v (by omega) (by omega), ld_win (by omega) (by omega)⟩
  have tl := ld_win (A := A) (W := W) (C := C) (z := 1) (by omega) (by omega)
  have tst := fun v => st_win (A := A) (W := W) (C := C) (z := 1) v (by omega) (by omega)
  have tc := fun v => cas_win (s := s) hs (z := 1) (old := x) (v := v) (by omega) (by omega)
  obtain ⟨nx1, nx2⟩ := nx x hx.1 hx.2
  obtain ⟨st1, st2⟩ := st x hx.1 hx.2
  unfold stepP
  by_cases c10 : p.pc < 10
  · rw [if_pos c10, if_pos c10]
    unfold inR26
    by_cases c1 : p.pc = 1
    · simp only [if_pos c1, storeA_W, hs]; exact ⟨nx1 0, trivial⟩
    by_cases c2 : p.pc = 2
    · simp only [if_neg c1, if_pos c2, storeA_W, hs]; exact ⟨st1 0, trivial⟩
    by_cases c3 : p.pc = 3
    · simp only [if_neg c1, if_neg c2, if_pos c3, swapA_W, hs, tl]; exact ⟨tst x, rfl⟩
    by_cases c4 : p.pc = 4
    · obtain ⟨e1, e2⟩ := h4 (.inl c4)
      simp only [if_neg c1, if_neg c2, if_neg c3, if_pos c4, storeA_W, hs]; exact ⟨(nx p.a e1 e2).1 x, trivial⟩
    by_cases c5 : p.pc = 5
    · simp only [if_neg c1, if_neg c2, if_neg c3, if_neg c4, if_pos c5, loadA_W, hs, st2]; exact ⟨rfl, rfl⟩
    · simp only [if_neg c1, if_neg c2, if_neg c3, if_neg c4, if_neg c5, storeA_W, hs]; exact ⟨st1 1, trivial⟩
  · rw [if_neg c10, if_neg c10]
    unfold outR26
    by_cases c12 : p.pc = 12
    · simp only [if_pos c12, (tc 0).1, (tc 0).2]; exact ⟨trivial, trivial⟩
    by_cases c14 : p.pc = 14
    · obtain ⟨e1, e2⟩ := h4 (.inr c14)
      simp only [if_neg c12, if_pos c14, storeA_W, hs]; exact ⟨(st p.a e1 e2).1 p.c, trivial⟩
    by_cases c15 : p.pc = 15
    · simp only [if_neg c12, if_neg c14, if_pos c15, loadA_W, hs, nx2]; exact ⟨rfl, rfl⟩
    by_cases c16 : p.pc = 16
    · obtain ⟨e1, e2⟩ := h16 c16
      simp only [if_neg c12, if_neg c14, if_neg c15, if_pos c16, storeA_W, hs]; exact ⟨(st p.b e1 e2).1 p.c, trivial⟩
    · simp only [if_neg c12, if_neg c14, if_neg c15, if_neg c16, loadA_W, hs, nx2]; exact ⟨rfl, rfl⟩
/-- what a slot's step reads for a number is one of a slot -/
theorem QInv.reach {S : List Sp} {Q : List Nat} (k : QInv n W S Q) {i : Nat} (hi : i < n) : ((sv S i).pc = 4 ∨ (sv S i).pc = 14 → 1 ≤ (sv S i).a ∧ (sv S i).a ≤ n) ∧ ((sv S i).pc = 16 → 1 ≤ (sv S i).b ∧ (sv S i).b ≤ n) := by
  by_cases hQ : i ∈ Q
  · rcases k.inq hQ with ⟨hd, hpc⟩ | ⟨kk, a, ha, hk, hsg, hpc⟩
    · refine ⟨fun e => ?_, fun e => ?_⟩
      · rcases e with e | e
        · omega
        · obtain ⟨s, q1, q2, _⟩ := (k.head i hd).2.1 e
          have := k.lt s (List.mem_of_getElem? q1)
          omega
      · obtain ⟨s, q1, q2, _⟩ := (k.head i hd).2.2 e
        have := k.lt s (List.mem_of_getElem? q1)
        omega
    · have := k.lt a (List.mem_of_getElem? ha)
      refine ⟨fun e => ?_, fun e => ?_⟩ <;> omega
  · have := (k.out i hi hQ).1
    refine ⟨fun e => ?_, fun e => ?_⟩ <;> omega
end
end Go.Proofs.YtkdaiomjbkpedaaGreat
end
section
/- Layer 27 (hmcs): the tree of rungs as plain data, and what always holds of it. No program in sight. -/
namespace Go.Proofs.YtkdaiomjbkpedaaGreat
open Go.RowKit

/-- the tree: of each thread its places, from its leaf up, and its slots there -/
structure HTr where
  D : Nat
  n : Nat
  np : Nat
  pl : Nat → Nat → Nat
  sl : Nat → Nat → Nat
  nv : Nat → Nat
  lev : Nat → Nat
structure HTr.Ok (T : HTr) : Prop where
  d1 : 1 ≤ T.D
  plt : ∀ t k, t < T.n → k < T.D → T.pl t k < T.np
  slt : ∀ t k, t < T.n → k < T.D → T.sl t k < T.nv (T.pl t k)
  nv32 : ∀ v, v < T.np → T.nv v ≤ 32
  lv : ∀ t k, t < T.n → k < T.D → T.lev (T.pl t k) = k
  up : ∀ t u k, t < T.n → u < T.n → k + 1 < T.D → T.pl t k = T.pl u k → T.pl t (k + 1) = T.pl u (k + 1) ∧ T.sl t (k + 1) = T.sl u (k + 1)
  dn : ∀ t u k, t < T.n → u < T.n → k + 1 < T.D → T.pl t (k + 1) = T.pl u (k + 1) → T.sl t (k + 1) = T.sl u (k + 1) → T.pl t k = T.pl u k
  root : ∀ t u, t < T.n → u < T.n → T.pl t (T.D - 1) = T.pl u (T.D - 1)
  leaf : ∀ t u, t < T.n → u < T.n → T.pl t 0 = T.pl u 0 → T.sl t 0 = T.sl u 0 → t = u
/-- of each place the words and the spots of its rung; the threads' spots -/
structure Hm where
  W : Nat → List Int
  P : Nat → List Sp
  S : List Sp
def Hm.sp (m : Hm) (v j : Nat) : Sp := sv (m.P v) j
def Hm.sg (m : Hm) (v j : Nat) : Int := sgv (m.W v) j
def updH {α : Type} (f : Nat → α) (v : Nat) (x : α) : Nat → α := fun u => if u = v then x else f u
theorem updH_eq {α : Type} (f : Nat → α) (v : Nat) (x : α) : updH f v x v = x := by unfold updH; rw [if_pos rfl]
theorem updH_ne {α : Type} (f : Nat → α) {v u : Nat} (x : α) (h : u ≠ v) : updH f v x u = f u := by unfold updH; rw [if_neg h]
def Hm.slot (m : Hm) (v j : Nat) (p : Sp) : Hm := { m with P := updH m.P v ((m.P v).set j p) }
def Hm.thr (m : Hm) (i : Nat) (s : Sp) : Hm := { m with S := m.S.set i s }
/-- a slot that holds begins to go out, or to hand on -/
def wthH (m : Hm) (v j : Nat) (u c : Int) : Hm := if (m.sp v j).pc = 10 then m.slot v j { m.sp v j with pc := u, c := c } else m
def askH (m : Hm) (v j : Nat) : Hm := if (m.sp v j).pc = 0 then m.slot v j { m.sp v j with pc := 1 } else m
def begH (T : HTr) (bud : Int) : Nat → Hm → Nat → Nat → Hm
  | 0, m, _, _ => m
  | f + 1, m, i, k =>
    if k + 1 = T.D then (wthH m (T.pl i k) (T.sl i k) 11 1).thr i { sv m.S i with pc := 12, c := k }
    else if (m.sp (T.pl i k) (T.sl i k)).a ≤ bud then (wthH m (T.pl i k) (T.sl i k) 15 ((m.sp (T.pl i k) (T.sl i k)).a + 1)).thr i { sv m.S i with pc := 11, c := k }
    else begH T bud f m i (k + 1)
def comeH (T : HTr) (m : Hm) (i k : Nat) : Hm :=
  if (m.sp (T.pl i k) (T.sl i k)).b = 0 ∨ k + 1 = T.D then m.thr i { sv m.S i with pc := 10 }
  else (askH m (T.pl i (k + 1)) (T.sl i (k + 1))).thr i { sv m.S i with c := (k : Int) + 1 }
def downH (T : HTr) (m : Hm) (i k : Nat) : Hm :=
  if k = 0 then m.thr i { sv m.S i with pc := 0 }
  else (wthH m (T.pl i (k - 1)) (T.sl i (k - 1)) 11 (-1)).thr i { sv m.S i with pc := 12, c := (k : Int) - 1 }
/-- the rung's step -/
def rstH (m : Hm) (v j : Nat) : Hm := { m with W := updH m.W v (stepP (arW (m.W v)) 1 ((j : Int) + 1) (m.sp v j)).1.W, P := updH m.P v ((m.P v).set j (stepP (arW (m.W v)) 1 ((j : Int) + 1) (m.sp v j)).2) }
def stepHm (T : HTr) (bud : Int) (m : Hm) (i : Nat) : Hm :=
  if (sv m.S i).pc = 0 ∨ (sv m.S i).pc = 10 then m else
  let k := (sv m.S i).c.toNat
  let v := T.pl i k
  let j := T.sl i k
  if (m.sp v j).pc = 0 ∨ (m.sp v j).pc = 10 then m else
  let m1 := rstH m v j
  if ¬ ((m1.sp v j).pc = 0 ∨ (m1.sp v j).pc = 10) then m1
  else if (sv m.S i).pc = 1 then comeH T m1 i k
  else if (m1.sp v j).pc = 0 then downH T m1 i k
  else begH T bud T.D m1 i (k + 1)
def askHm (T : HTr) (m : Hm) (i : Nat) : Hm := if (sv m.S i).pc = 0 then (askH m (T.pl i 0) (T.sl i 0)).thr i ⟨1, 0, 0, 0⟩ else m
def leaveHm (T : HTr) (bud : Int) (m : Hm) (i : Nat) : Hm := if (sv m.S i).pc = 10 then begH T bud T.D m i 0 else m

/-- how far a thread is; K: how many of its levels, from its leaf up, are its own -/
inductive TSt (T : HTr) (sp : Nat → Nat → Sp) (sg : Nat → Nat → Int) (i : Nat) (s : Sp) : Nat → Prop
  | rest (h : s.pc = 0) : TSt T sp sg i s 0
  | come (c : Nat) (h : s.pc = 1 ∧ s.c = c ∧ c < T.D) (ha : 1 ≤ (sp (T.pl i c) (T.sl i c)).pc ∧ (sp (T.pl i c) (T.sl i c)).pc ≤ 6) (hg : (sp (T.pl i c) (T.sl i c)).pc = 5 → ¬ 0 < sg (T.pl i c) (T.sl i c)) (hb : ∀ k, k < c → (sp (T.pl i k) (T.sl i k)).pc = 10) : TSt T sp sg i s (c + 1)
  | granted (c : Nat) (h : s.pc = 1 ∧ s.c = c ∧ c < T.D) (ha : (sp (T.pl i c) (T.sl i c)).pc = 5 ∧ 0 < sg (T.pl i c) (T.sl i c)) (hb : ∀ k, k < T.D → k ≠ c → (sp (T.pl i k) (T.sl i k)).pc = 10) : TSt T sp sg i s T.D
  | hold (h : s.pc = 10) (hb : ∀ k, k < T.D → (sp (T.pl i k) (T.sl i k)).pc = 10) : TSt T sp sg i s T.D
  | pass (c : Nat) (h : s.pc = 11 ∧ s.c = c ∧ c + 1 < T.D) (ha : (sp (T.pl i c) (T.sl i c)).pc = 15 ∨ (sp (T.pl i c) (T.sl i c)).pc = 16) (hb : ∀ k, k < T.D → k ≠ c → (sp (T.pl i k) (T.sl i k)).pc = 10) : TSt T sp sg i s T.D
  | leave (c : Nat) (h : s.pc = 12 ∧ s.c = c ∧ c < T.D) (ha : 11 ≤ (sp (T.pl i c) (T.sl i c)).pc ∧ (sp (T.pl i c) (T.sl i c)).pc ≤ 14) (hc : (sp (T.pl i c) (T.sl i c)).c = if c + 1 = T.D then 1 else -1) (hb : ∀ k, k < c → (sp (T.pl i k) (T.sl i k)).pc = 10) : TSt T sp sg i s (c + 1)
def VaOk (bud : Int) (p : Sp) : Prop := (p.pc = 10 ∨ p.pc = 15 ∨ p.pc = 16 → 1 ≤ p.a ∧ p.a ≤ bud + 1) ∧ (p.pc = 15 ∨ p.pc = 16 → p.c = p.a + 1 ∧ p.a ≤ bud)
/-- all but how far thread i is -/
structure HX (T : HTr) (bud : Int) (m : Hm) (Q : Nat → List Nat) (O : Nat → Nat → Option Nat) (i : Nat) : Prop where
  rg : ∀ v, v < T.np → RInv (T.nv v) (m.W v) (m.P v) (Q v)
  sl : m.S.length = T.n
  ow : ∀ v j t, O v j = some t → t < T.n ∧ ∃ k, k < T.D ∧ v = T.pl t k ∧ j = T.sl t k
  fr : ∀ v j, v < T.np → j < T.nv v → O v j = none → (m.sp v j).pc = 0
  th : ∀ t, t < T.n → t ≠ i → ∃ K, TSt T m.sp m.sg t (sv m.S t) K ∧ ∀ k, k < T.D → (O (T.pl t k) (T.sl t k) = some t ↔ k < K)
  va : ∀ v j, v < T.np → j < T.nv v → VaOk bud (m.sp v j)
  sa : ∀ v j, v < T.np → (Q v)[0]? = some j → (m.sp v j).pc = 5 → m.sg v j = -1 ∨ (1 ≤ m.sg v j ∧ m.sg v j ≤ bud + 1)
def TOwn (T : HTr) (m : Hm) (O : Nat → Nat → Option Nat) (t : Nat) : Prop := ∃ K, TSt T m.sp m.sg t (sv m.S t) K ∧ ∀ k, k < T.D → (O (T.pl t k) (T.sl t k) = some t ↔ k < K)
structure HInv (T : HTr) (bud : Int) (m : Hm) (Q : Nat → List Nat) (O : Nat → Nat → Option Nat) : Prop where
  x : ∀ i, HX T bud m Q O i
  t : ∀ t, t < T.n → TOwn T m O t
section
variable {T : HTr} {bud : Int} {m m' : Hm} {Q Q' : Nat → List Nat} {O O' : Nat → Nat → Option Nat} {i : Nat}
theorem HInv.of (h : HX T bud m Q O i) (ht : TOwn T m O i) : HInv T bud m Q O := by
  have all : ∀ t, t < T.n → TOwn T m O t := fun t hl => by
    by_cases e : t = i
    · subst e; exact ht
    · exact h.th t hl e
  exact ⟨fun j => ⟨h.rg, h.sl, h.ow, h.fr, fun t hl _ => all t hl, h.va, h.sa⟩, all⟩
theorem TSt.keep {sp sp' : Nat → Nat → Sp} {sg sg' : Nat → Nat → Int} {s : Sp} {K : Nat} (h : TSt T sp sg i s K) (h1 : ∀ k, k < K → k < T.D → sp' (T.pl i k) (T.sl i k) = sp (T.pl i k) (T.sl i k)) (h2 : ∀ k, k < K → k < T.D → (sp (T.pl i k) (T.sl i k)).pc = 5 → sg' (T.pl i k) (T.sl i k) = sg (T.pl i k) (T.sl i k)) : TSt T sp' sg' i s K := by
  cases h with
  | rest h => exact .rest h
  | come c h ha hg hb =>
    have e := h1 c (Nat.lt_succ_self _) h.2.2
    refine .come c h (by rw [e]; exact ha) (fun e5 => ?_) fun k hk => ?_
    · rw [e] at e5
      rw [h2 c (Nat.lt_succ_self _) h.2.2 e5]; exact hg e5
    · rw [h1 k (by omega) (by omega)]; exact hb k hk
  | granted c h ha hb =>
    have e := h1 c h.2.2 h.2.2
    refine .granted c h ⟨by rw [e]; exact ha.1, by rw [h2 c h.2.2 h.2.2 ha.1]; exact ha.2⟩ fun k hk hkc => ?_
    rw [h1 k hk hk]; exact hb k hk hkc
  | hold h hb => exact .hold h fun k hk => by rw [h1 k hk hk]; exact hb k hk
  | pass c h ha hb =>
    refine .pass c h (by rw [h1 c (by omega) (by omega)]; exact ha) fun k hk hkc => ?_
    rw [h1 k hk hk]; exact hb k hk hkc
  | leave c h ha hc hb =>
    have e := h1 c (Nat.lt_succ_self _) h.2.2
    refine .leave c h (by rw [e]; exact ha) (by rw [e]; exact hc) fun k hk => ?_
    rw [h1 k (by omega) (by omega)]; exact hb k hk
theorem sp_slot (m : Hm) (v j : Nat) (p : Sp) (hj : j < (m.P v).length) (u k : Nat) : (m.slot v j p).sp u k = if u = v ∧ k = j then p else m.sp u k := by
  unfold Hm.sp Hm.slot
  show sv (updH m.P v ((m.P v).set j p) u) k = _
  by_cases e : u = v
  · subst e
    rw [updH_eq, sv_set]
    by_cases e2 : k = j
    · subst e2; rw [if_pos ⟨rfl, hj⟩, if_pos ⟨rfl, rfl⟩]
    · rw [if_neg (fun h => e2 h.1.symm), if_neg (fun h => e2 h.2)]
  · rw [updH_ne _ _ e, if_neg (fun h => e h.1)]
theorem HX.len (h : HX T bud m Q O i) {v : Nat} (hv : v < T.np) : (m.P v).length = T.nv v := (h.rg v hv).sl
/-- whoever holds, or hands on, or goes out, is the head -/
theorem HX.head (h : HX T bud m Q O i) {v j : Nat} (hv : v < T.np) (hj : j < T.nv v) (h10 : 6 ≤ (m.sp v j).pc) : (Q v)[0]? = some j := by
  have r := (h.rg v hv).toQInv
  by_cases hQ : j ∈ Q v
  · rcases r.inq hQ with ⟨hd, _⟩ | ⟨_, _, _, _, _, h4 | h5⟩
    · exact hd
    · have := h4.1; unfold Hm.sp at h10; omega
    · have := h5.1; unfold Hm.sp at h10; omega
  · have := (r.out j hj hQ).1.2; unfold Hm.sp at h10; omega
/-- and whoever was told -/
theorem HX.head5 (h : HX T bud m Q O i) {v j : Nat} (hv : v < T.np) (hj : j < T.nv v) (h5 : (m.sp v j).pc = 5) (hg : m.sg v j ≠ 0) : (Q v)[0]? = some j := by
  have r := (h.rg v hv).toQInv
  by_cases hQ : j ∈ Q v
  · rcases r.inq hQ with ⟨hd, _⟩ | ⟨_, _, _, _, h0, _⟩
    · exact hd
    · exact absurd h0 hg
  · have := (r.out j hj hQ).1.2; unfold Hm.sp at h5; omega
/-- the slots that are a thread's own below its top are heads -/
theorem HX.ownHead (h : HX T bud m Q O i) (hT : T.Ok) {t : Nat} (ht : t < T.n) {s : Sp} {K : Nat} (k : TSt T m.sp m.sg t s K) {l : Nat} (hl : l + 1 < K) (hK : K ≤ T.D) : (Q (T.pl t l))[0]? = some (T.sl t l) := by
  have hv := hT.plt t l ht (by omega)
  have hj := hT.slt t l ht (by omega)
  cases k with
  | rest _ => omega
  | come c _ _ _ hb => exact h.head hv hj (by rw [hb l (by omega)]; decide)
  | granted c hc ha hb =>
    by_cases e : l = c
    · subst e; exact h.head5 hv hj ha.1 (by have := ha.2; omega)
    · exact h.head hv hj (by rw [hb l (by omega) e]; decide)
  | hold _ hb => exact h.head hv hj (by rw [hb l (by omega)]; decide)
  | pass c _ ha hb =>
    by_cases e : l = c
    · subst e; exact h.head hv hj (by omega)
    · exact h.head hv hj (by rw [hb l (by omega) e]; decide)
  | leave c _ _ _ hb => exact h.head hv hj (by rw [hb l (by omega)]; decide)
theorem TSt.le {sp : Nat → Nat → Sp} {sg : Nat → Nat → Int} {s : Sp} {K : Nat} (h : TSt T sp sg i s K) : K ≤ T.D := by
  cases h <;> omega
theorem TSt.of10 {sp : Nat → Nat → Sp} {sg : Nat → Nat → Int} {s : Sp} {K : Nat} (h : TSt T sp sg i s K) (e : s.pc = 10) : K = T.D ∧ ∀ k, k < T.D → (sp (T.pl i k) (T.sl i k)).pc = 10 := by
  cases h with
  | rest h => omega
  | come c h => omega
  | granted c h => omega
  | hold h hb => exact ⟨rfl, hb⟩
  | pass c h => omega
  | leave c h => omega
/-- two who hold are one -/
theorem HInv.one (h : HInv T bud m Q O) (hT : T.Ok) {a b : Nat} (ha : a < T.n) (hb : b < T.n) (h1 : (sv m.S a).pc = 10) (h2 : (sv m.S b).pc = 10) : a = b := by
  obtain ⟨Ka, ka, oa⟩ := h.t a ha
  obtain ⟨Kb, kb, ob⟩ := h.t b hb
  obtain ⟨rfl, pa⟩ := ka.of10 h1
  obtain ⟨rfl, pb⟩ := kb.of10 h2
  have hd := hT.d1
  have e1 := (h.x a).head (hT.plt a (T.D - 1) ha (by omega)) (hT.slt a (T.D - 1) ha (by omega)) (by rw [pa (T.D - 1) (by omega)]; decide)
  have e2 := (h.x a).head (hT.plt b (T.D - 1) hb (by omega)) (hT.slt b (T.D - 1) hb (by omega)) (by rw [pb (T.D - 1) (by omega)]; decide)
  have er := hT.root a b ha hb
  rw [er] at e1
  have es : T.sl a (T.D - 1) = T.sl b (T.D - 1) := by rw [e1] at e2; injection e2
  have o1 := (oa (T.D - 1) (by omega)).2 (by omega)
  have o2 := (ob (T.D - 1) (by omega)).2 (by omega)
  rw [er, es, o2] at o1
  injection o1 with o1
  exact o1.symm
end
end Go.Proofs.YtkdaiomjbkpedaaGreat
end
