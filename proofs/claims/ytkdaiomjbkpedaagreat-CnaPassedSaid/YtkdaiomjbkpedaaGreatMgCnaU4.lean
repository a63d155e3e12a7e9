/- Joined: Cn4, Hc3, Hc4. -/
import Derived.IntWalk
import Derived.Test.YtkdaiomjbkpedaaGreatMgCnaU3
section
/- Layer 31 (cna): the first one puts others aside, and hands on. No program in sight. -/
namespace Go.Proofs.YtkdaiomjbkpedaaGreat
open Go

section
variable {n : Nat} {bud : Int} {node : Nat → Int} {W W' : List Int} {w w' : Wk} {S S' : List Sp} {h i : Nat} {A R : List Nat} {p p' : Sp}
theorem lastD_app (h : Nat) (A : List Nat) {R : List Nat} (hR : R ≠ []) : lastD h (A ++ R) = lastD h R := by
  obtain ⟨t, ht, _⟩ := last_some hR
  rw [lastD_some ht, lastD_some (by rw [List.getLast?_append, ht]; rfl)]
theorem lastD_of {h h' : Nat} {R : List Nat} (hR : R ≠ []) : lastD h R = lastD h' R := by
  obtain ⟨t, ht, _⟩ := last_some hR
  rw [lastD_some ht, lastD_some ht]
theorem CBs.disj (b : CBs n W S h A R) {t : Nat} (ha : t ∈ A) (hr : t ∈ R) : False := (List.nodup_append.1 b.nd).2.2 t ha t hr rfl
/-- the link behind one put aside turns -/
theorem CBs.linkA (b : CBs n W S h A R) {q : Nat} (hq : q ∈ A) (hl : W'.length = W.length) (hN : ∀ u, u ≠ q → cnx W' u = cnx W u) (hS : ∀ u, csp W' u = csp W u) (hT : Go.Proofs.YtkdaiomjbkpedaaGreat.ctl W' = Go.Proofs.YtkdaiomjbkpedaaGreat.ctl W) : CBs n W' (S.set h p') h A R := by
  have hsv : ∀ u, u ∈ A ++ R → sv (S.set h p') u = sv S u := fun u hu => sv_ne (b.waits hu)
  have hqA : q ∈ A ++ R := List.mem_append_left _ hq
  refine ⟨hl.trans b.wl, by simp [b.sl], b.nh, b.nd, b.hn, b.lt, fun t ht h1 h2 => by rw [sv_ne h1, hN t (fun e => h2 (e ▸ hqA)), hS]; exact b.out t ht h1 h2, fun t ht => by rw [hsv t ht, hS]; exact b.wait t ht, fun t ht => by rw [hsv t (List.mem_append_left _ ht)]; exact b.a5 t ht,
    b.chR.mono fun x y hx hy hxy => hxy.cong (hN x fun e => b.disj hq (e ▸ hx)) (hsv y (List.mem_append_right _ (List.mem_of_mem_tail hy))), hT.trans b.tl, ?_⟩
  rw [hN]
  · exact b.end0
  · intro e
    rcases lastD_mem h R with h1 | h1
    · exact b.nh (by rw [← h1, e]; exact hqA)
    · exact b.disj hq (e ▸ h1)
/-- those put aside stand ahead of the others again -/
theorem CBs.merge (b : CBs n W S h A R) (hR : R ≠ []) (hch : Lks (CLk W S) (A ++ R)) : CBs n W S h [] (A ++ R) :=
  ⟨b.wl, b.sl, by simpa using b.nh, by simpa using b.nd, b.hn, fun t ht => b.lt t (by simpa using ht), fun t ht h1 h2 => b.out t ht h1 (by simpa using h2), fun t ht => b.wait t (by simpa using ht), fun t ht => by simp at ht, hch, by rw [lastD_app h A hR]; exact b.tl, by rw [lastD_app h A hR]; exact b.end0⟩
theorem Asd.chain (k : Asd W A) (h5 : ∀ t, t ∈ A → (sv S t).pc = 5) : Lks (CLk W S) A := k.1.mono fun _ y _ hy hxy => .inr ⟨h5 y (List.mem_of_mem_tail hy), hxy⟩
/-- 15: the tail is told: those put aside are all -/
theorem CBs.all15 (b : CBs n W S h A []) (ka : Asd W A) {l : Nat} (hla : A.getLast? = some l) (hl : W'.length = W.length) (hN : ∀ u, cnx W' u = cnx W u) (hS : ∀ u, csp W' u = csp W u) (hT : Go.Proofs.YtkdaiomjbkpedaaGreat.ctl W' = num l) : CBs n W' (S.set h p') h [] A := by
  have hsv : ∀ u, u ∈ A → sv (S.set h p') u = sv S u := fun u hu => sv_ne (b.waits (by simpa using hu))
  have ch := ka.chain (S := S) b.a5
  refine ⟨hl.trans b.wl, by simp [b.sl], by simpa using b.nh, by simpa using b.nd, b.hn, fun t ht => b.lt t (by simpa using ht), fun t ht h1 h2 => by rw [sv_ne h1, hN, hS]; exact b.out t ht h1 (by simpa using h2), fun t ht => by
      have ht' : t ∈ A := by simpa using ht
      rw [hsv t ht', hS]; exact b.wait t (by simpa using ht'), fun t ht => by simp at ht, ch.mono fun x y hx hy hxy => hxy.cong (hN x) (hsv y (List.mem_of_mem_tail hy)), by rw [lastD_some hla]; exact hT, by rw [lastD_some hla, hN]; exact ka.2 l hla⟩
/-- 28, handed on to the first one put aside, when nobody else is there or all stand behind it -/
theorem CPh.c28 (b : CBs n W' (S.set h p') h [] R) (hR : R ≠ []) (hq : p'.pc = 28) (hb : ∀ a, R.head? = some a → p'.b = num a) (h5 : ∀ a, R.head? = some a → (sv S a).pc = 5) (hc0 : 0 ≤ cct W') (hc : cct W' ≤ bud) : CPh n bud node W' w (S.set h p') h [] R p' := by
  constructor
  all_goals (try (intro e; exfalso; rw [hq] at e; revert e; decide))
  case pcs => omega
  case some_ => exact fun _ => hR
  case leadB =>
    intro _
    cases R with
    | nil => exact absurd rfl hR
    | cons a l => exact ⟨a, rfl, by rw [sv_ne (b.waits (by simp))]; exact h5 a rfl, hb a rfl⟩
  case asd => exact fun _ => ⟨trivial, fun l hl => by simp at hl⟩
  case asl => exact fun _ => fun a l ha => by simp at ha
  case none_ => exact fun _ => rfl
  case ct0 => exact hc0
  case ct => exact hc
/-- 19: those who were passed stand no more in the row -/
theorem CPh.c19 (k : CPh n bud node W w S h A R p) (b : CBs n W S h A R) (e : p.pc = 19) :
    ∃ l P f R', R = P ++ f :: R' ∧ l < n ∧ w.last = num l ∧ ∀ W' p', W'.length = W.length → cnx W' l = 0 → (∀ u, u ≠ l → cnx W' u = cnx W u) → (∀ u, csp W' u = csp W u) → (∀ u, cla W' u = cla W u) → Go.Proofs.YtkdaiomjbkpedaaGreat.ctl W' = Go.Proofs.YtkdaiomjbkpedaaGreat.ctl W → cct W' = cct W →
      (if 0 < p.b then p'.pc = 20 ∧ p'.a = p.a ∧ p'.b = p.b else p'.pc = 22 ∧ p'.b = p.a) → CBs n W' (S.set h p') h (A ++ P) (f :: R') ∧ CPh n bud node W' w (S.set h p') h (A ++ P) (f :: R') p' := by
  have hB := k.b (by rw [e]; decide)
  have hA0 := k.asd (by rw [e]; decide)
  have hAl := k.asl (by rw [e]; decide)
  have hlead := k.leadA (by rw [e]; decide)
  obtain ⟨P, R', f, hR, hP, hfound, hf5, hlast, hp5⟩ := k.found e
  obtain ⟨l, hl, hlm⟩ := last_some hP
  have hlR : l ∈ R := by rw [hR]; exact List.mem_append_left _ hlm
  refine ⟨l, P, f, R', hR, b.lt l (List.mem_append_right _ hlR), hlast l hl, fun W' p' hlen h0 hN hS hL hT hC hp' => ?_⟩
  subst hR
  have hndR := (List.nodup_append.1 b.nd).2.1
  have hnd2 := List.nodup_append.1 hndR
  have hsv : ∀ u, u ∈ A ++ (P ++ f :: R') → sv (S.set h p') u = sv S u := fun u hu => sv_ne (b.waits hu)
  have hlA : l ∉ A := fun hm => b.disj hm hlR
  have hlf : l ∉ f :: R' := fun hm => hnd2.2.2 l hlm l hm rfl
  have hassoc : A ++ P ++ f :: R' = A ++ (P ++ f :: R') := List.append_assoc _ _ _
  have hlastR : lastD h (P ++ f :: R') = lastD h (f :: R') := lastD_app h P (by simp)
  have hAP : ∀ t, t ∈ A ++ P → t ∈ A ++ (P ++ f :: R') := fun t ht => by rw [← hassoc]; exact List.mem_append_left _ ht
  have hmf : ∀ t, t ∈ f :: R' → t ∈ A ++ (P ++ f :: R') := fun t ht => by rw [← hassoc]; exact List.mem_append_right _ ht
  have chP : Lks (fun x y => cnx W' x = num y) P := by
    refine (b.chR.left.mono' hnd2.1 fun x y hx hy hlx hxy => ?_)
    have hxl : x ≠ l := fun e => hlx (by rw [e]; exact hl)
    rw [hN x hxl]
    rcases hxy with h1 | h1
    · have := hp5 y (List.mem_of_mem_tail hy); omega
    · exact h1.2
  have asdP : Asd W' P := ⟨chP, fun l' hl' => by rw [hl] at hl'; injection hl' with hl'; subst hl'; exact h0⟩
  have asdA : Asd W' A := ⟨hA0.1.mono fun x y hx _ hxy => by rw [hN x (nei hlA hx)]; exact hxy, fun l' hl' => by rw [hN l' (nei hlA (List.mem_of_getLast? hl'))]; exact hA0.2 l' hl'⟩
  have aslA : Asl W' A := fun a l' ha hl' => by rw [hL]; exact hAl a l' ha hl'
  have hb : CBs n W' (S.set h p') h (A ++ P) (f :: R') := by
    refine ⟨hlen.trans b.wl, by simp [b.sl], by rw [hassoc]; exact b.nh, by rw [hassoc]; exact b.nd, b.hn, by rw [hassoc]; exact b.lt, fun t ht h1 h2 => ?_, fun t ht => ?_, fun t ht => ?_, b.chR.right.mono fun x y hx hy hxy => hxy.cong (hN x (nei hlf hx)) (hsv y (hmf y (List.mem_of_mem_tail hy))), by rw [← hlastR]; exact hT.trans b.tl, ?_⟩
    · rw [hassoc] at h2
      rw [sv_ne h1, hN t (fun e => h2 (by rw [e]; exact hAP l (List.mem_append_right _ hlm))), hS]
      exact b.out t ht h1 h2
    · rw [hassoc] at ht
      rw [hsv t ht, hS]; exact b.wait t ht
    · rw [hsv t (hAP t ht)]
      rcases List.mem_append.1 ht with h1 | h1
      · exact b.a5 t h1
      · exact hp5 t h1
    · rw [hN]
      · rw [← hlastR]; exact b.end0
      · intro e'
        rcases lastD_mem h (f :: R') with h1 | h1
        · exact b.nh (by rw [← h1, e']; exact List.mem_append_right _ hlR)
        · exact hlf (e' ▸ h1)
  refine ⟨hb, ?_⟩
  have hleadF : Lead (S.set h p') (f :: R') w.found := ⟨f, rfl, by rw [hsv f (hmf f (by simp))]; exact hf5, hfound⟩
  have hPa : ∀ a, P.head? = some a → p.a = num a := fun a ha => by
    obtain ⟨x, h1, _, h3⟩ := hlead
    rw [List.head?_append, ha] at h1
    injection h1 with h1
    subst h1
    exact h3
  by_cases c : 0 < p.b
  · rw [if_pos c] at hp'
    obtain ⟨hq, haa, hbb⟩ := hp'
    have hne := vA_pos.1 (show 0 < vA A by omega)
    constructor
    all_goals (try (intro e; exfalso; rw [hq] at e; revert e; decide))
    case pcs => omega
    case some_ => exact fun _ => by simp
    case leadF => exact fun _ => hleadF
    case b =>
      intro _
      rw [hbb, hB]
      cases A with
      | nil => exact absurd rfl hne
      | cons a A => rfl
    case put => exact fun _ => ⟨A, P, rfl, hne, hP, asdA, aslA, asdP, fun a ha => by rw [haa]; exact hPa a ha, hlast, fun e => by rw [hq] at e; exact absurd e (by decide)⟩
    case ct0 => rw [hC]; exact k.ct0
    case ct => rw [hC]; exact k.ct
    case ctlt => exact fun _ => by rw [hC]; exact k.ctlt (by rw [e]; decide)
  · rw [if_neg c] at hp'
    obtain ⟨hq, hbb⟩ := hp'
    have hAe : A = [] := by
      apply Classical.byContradiction
      intro hne
      exact c (by rw [hB]; exact vA_pos.2 hne)
    subst hAe
    constructor
    all_goals (try (intro e; exfalso; rw [hq] at e; revert e; decide))
    case pcs => omega
    case some_ => exact fun _ => by simp
    case leadF => exact fun _ => hleadF
    case asd => exact fun _ => asdP
    case b =>
      intro _
      rw [hbb]
      cases P with
      | nil => exact absurd rfl hP
      | cons a P => exact hPa a rfl
    case put2 => exact fun _ => ⟨hP, hlast⟩
    case ct0 => rw [hC]; exact k.ct0
    case ct => rw [hC]; exact k.ct
    case ctlt => exact fun _ => by rw [hC]; exact k.ctlt (by rw [e]; decide)
/-- 20 -/
theorem CPh.c20 (k : CPh n bud node W w S h A R p) (b : CBs n W S h A R) (e : p.pc = 20) :
    ∃ a, a < n ∧ p.b = num a ∧ ∀ p', p'.pc = 21 → p'.a = p.a → p'.b = p.b → p'.c = cla W a → CPh n bud node W w (S.set h p') h A R p' := by
  have hB := k.b (by rw [e]; decide)
  obtain ⟨A0, P, hA, hA0, hP, h1, h2, h3, h4, h5, h6⟩ := k.put (.inl e)
  obtain ⟨l, hl, _⟩ := last_some hA0
  cases hA0' : A0 with
  | nil => exact absurd hA0' hA0
  | cons a A1 =>
    have haA : a ∈ A := by rw [hA, hA0']; simp
    have hba : p.b = num a := by rw [hB, hA, hA0']; rfl
    refine ⟨a, b.lt a (List.mem_append_left _ haA), hba, fun p' hq haa hbb hc => ?_⟩
    constructor
    all_goals (try (intro e; exfalso; rw [hq] at e; revert e; decide))
    case pcs => omega
    case some_ => exact fun _ => k.some_ (by omega)
    case leadF => exact fun _ => (k.leadF (.inl e)).ctrl b
    case b => exact fun _ => by rw [hbb]; exact hB
    case put => exact fun _ => ⟨A0, P, hA, hA0, hP, h1, h2, h3, fun a ha => by rw [haa]; exact h4 a ha, h5, fun _ l hl => by rw [hc]; exact h2 a l (by rw [hA0']; rfl) hl⟩
    case ct0 => exact k.ct0
    case ct => exact k.ct
    case ctlt => exact fun _ => k.ctlt (by rw [e]; decide)
/-- 21 -/
theorem CPh.c21 (k : CPh n bud node W w S h A R p) (b : CBs n W S h A R) (e : p.pc = 21) :
    ∃ l, l ∈ A ∧ p.c = num l ∧ ∀ W' p', W'.length = W.length → cnx W' l = p.a → (∀ u, u ≠ l → cnx W' u = cnx W u) → (∀ u, csp W' u = csp W u) → Go.Proofs.YtkdaiomjbkpedaaGreat.ctl W' = Go.Proofs.YtkdaiomjbkpedaaGreat.ctl W → cct W' = cct W → p'.pc = 22 → p'.b = p.b →
      CBs n W' (S.set h p') h A R ∧ CPh n bud node W' w (S.set h p') h A R p' := by
  have hB := k.b (by rw [e]; decide)
  obtain ⟨A0, P, hA, hA0, hP, h1, h2, h3, h4, h5, h6⟩ := k.put (.inr e)
  obtain ⟨l, hl, hlm⟩ := last_some hA0
  have hlA : l ∈ A := by rw [hA]; exact List.mem_append_left _ hlm
  refine ⟨l, hlA, h6 e l hl, fun W' p' hlen hl' hN hS hT hC hq hbb => ?_⟩
  have hb := b.linkA (p' := p') hlA hlen hN hS hT
  refine ⟨hb, ?_⟩
  have hndA := (List.nodup_append.1 b.nd).1
  rw [hA] at hndA
  have hnd2 := List.nodup_append.1 hndA
  have hlP : l ∉ P := fun hm => hnd2.2.2 l hlm l hm rfl
  have ch : Lks (fun x y => cnx W' x = num y) (A0 ++ P) := by
    refine (h1.1.mono' hnd2.1 fun x y hx _ hlx hxy => ?_).append (h3.1.mono fun x y hx _ hxy => ?_) fun x y hx hy => ?_
    · rw [hN x fun e => hlx (by rw [e]; exact hl)]; exact hxy
    · rw [hN x (nei hlP hx)]; exact hxy
    · rw [hl] at hx
      injection hx with hx
      subst hx
      rw [hl']; exact h4 y hy
  constructor
  all_goals (try (intro e; exfalso; rw [hq] at e; revert e; decide))
  case pcs => omega
  case some_ => exact fun _ => k.some_ (by omega)
  case leadF => exact fun _ => (k.leadF (.inr (.inl e))).ctrl b
  case asd =>
    intro _
    rw [hA]
    refine ⟨ch, fun l2 hl2 => ?_⟩
    have hl3 : P.getLast? = some l2 := by
      obtain ⟨t, ht, _⟩ := last_some hP
      rw [List.getLast?_append, ht] at hl2
      rw [ht]; exact hl2
    rw [hN l2 (nei hlP (List.mem_of_getLast? hl3))]
    exact h3.2 l2 hl3
  case b => exact fun _ => by rw [hbb]; exact hB
  case put2 =>
    intro _
    rw [hA]
    refine ⟨by simp [hP], fun l2 hl2 => ?_⟩
    have hl3 : P.getLast? = some l2 := by
      obtain ⟨t, ht, _⟩ := last_some hP
      rw [List.getLast?_append, ht] at hl2
      rw [ht]; exact hl2
    exact h5 l2 hl3
  case ct0 => rw [hC]; exact k.ct0
  case ct => rw [hC]; exact k.ct
  case ctlt => exact fun _ => by rw [hC]; exact k.ctlt (by rw [e]; decide)
/-- 22 -/
theorem CPh.c22 (k : CPh n bud node W w S h A R p) (b : CBs n W S h A R) (e : p.pc = 22) :
    ∃ a, a < n ∧ p.b = num a ∧ ∀ W' p', W'.length = W.length → cla W' a = w.last → (∀ u, cnx W' u = cnx W u) → (∀ u, csp W' u = csp W u) → Go.Proofs.YtkdaiomjbkpedaaGreat.ctl W' = Go.Proofs.YtkdaiomjbkpedaaGreat.ctl W → cct W' = cct W → p'.pc = 23 → p'.b = p.b → p'.a = w.found →
      CBs n W' (S.set h p') h A R ∧ CPh n bud node W' w (S.set h p') h A R p' := by
  have hB := k.b (by rw [e]; decide)
  obtain ⟨hA, hlast⟩ := k.put2 e
  obtain ⟨a, l, h1, h2, h3⟩ := k.headB (by rw [e]; decide) hA
  refine ⟨a, b.lt a (List.mem_append_left _ (mem_of_head h1)), h3, fun W' p' hlen hla hN hS hT hC hq hbb haa => ?_⟩
  have hb := b.ctrl (p' := p') hlen hN (fun u _ => hS u) hT
  refine ⟨hb, ?_⟩
  have ka := k.asd (by rw [e]; decide)
  constructor
  all_goals (try (intro e; exfalso; rw [hq] at e; revert e; decide))
  case pcs => omega
  case some_ => exact fun _ => k.some_ (by omega)
  case leadA => exact fun _ => by rw [haa]; exact (k.leadF (.inr (.inr e))).ctrl b
  case asd => exact fun _ => ⟨ka.1.mono fun x y _ _ hxy => by rw [hN]; exact hxy, fun l hl => by rw [hN]; exact ka.2 l hl⟩
  case asl =>
    intro _ a' l' ha' hl'
    rw [h1] at ha'
    injection ha' with ha'
    subst ha'
    rw [hla]; exact hlast l' hl'
  case b => exact fun _ => by rw [hbb]; exact hB
  case ct0 => rw [hC]; exact k.ct0
  case ct => rw [hC]; exact k.ct
  case ctlt => exact fun _ => by rw [hC]; exact k.ctlt (by rw [e]; decide)
/-- 23 -/
theorem CPh.c23 (k : CPh n bud node W w S h A R p) (b : CBs n W S h A R) (e : p.pc = 23) (hN : ∀ u, cnx W' u = cnx W u) (hL : ∀ u, cla W' u = cla W u) (hC : cct W' = cct W + 1) (hq : p'.pc = 24) (hb : p'.b = p.b) (haa : p'.a = p.a) : CPh n bud node W' w (S.set h p') h A R p' := by
  have hB := k.b (by rw [e]; decide)
  have ka := k.asd (by rw [e]; decide)
  have kl := k.asl (by rw [e]; decide)
  have h0 := k.ct0
  have h1 := k.ctlt (by rw [e]; decide)
  constructor
  all_goals (try (intro e; exfalso; rw [hq] at e; revert e; decide))
  case pcs => omega
  case some_ => exact fun _ => k.some_ (by omega)
  case leadA => exact fun _ => by rw [haa]; exact (k.leadA (by rw [e]; decide)).ctrl b
  case asd => exact fun _ => ⟨ka.1.mono fun x y _ _ hxy => by rw [hN]; exact hxy, fun l hl => by rw [hN]; exact ka.2 l hl⟩
  case asl => exact fun _ a l ha hl => by rw [hL]; exact kl a l ha hl
  case b => exact fun _ => by rw [hb]; exact hB
  case ct0 => omega
  case ct => omega
/-- 26: those put aside stand ahead of the others -/
theorem CPh.c26 (k : CPh n bud node W w S h A R p) (b : CBs n W S h A R) (e : p.pc = 26) :
    ∃ l, l < n ∧ p.c = num l ∧ ∀ W' p', W'.length = W.length → cnx W' l = p.a → (∀ u, u ≠ l → cnx W' u = cnx W u) → (∀ u, csp W' u = csp W u) → Go.Proofs.YtkdaiomjbkpedaaGreat.ctl W' = Go.Proofs.YtkdaiomjbkpedaaGreat.ctl W → cct W' = cct W → p'.pc = 27 → p'.b = p.b →
      CBs n W' (S.set h p') h [] (A ++ R) ∧ CPh n bud node W' w (S.set h p') h [] (A ++ R) p' := by
  have hB := k.b (by rw [e]; decide)
  have hA := k.some2 (by rw [e]; decide)
  have hR := k.some_ (by omega)
  have ka := k.asd (by rw [e]; decide)
  obtain ⟨l, hl, hlm⟩ := last_some hA
  refine ⟨l, b.lt l (List.mem_append_left _ hlm), k.c (.inr e) l hl, fun W' p' hlen hl' hN hS hT hC hq hbb => ?_⟩
  have hb := b.linkA (p' := p') hlm hlen hN hS hT
  obtain ⟨f, hf1, hf5, hf3⟩ := k.leadA (by rw [e]; decide)
  have hsv : ∀ u, u ∈ A ++ R → sv (S.set h p') u = sv S u := fun u hu => sv_ne (b.waits hu)
  have ch : Lks (CLk W' (S.set h p')) (A ++ R) := by
    refine (ka.1.mono' (List.nodup_append.1 b.nd).1 fun x y hx hy hlx hxy => ?_).append hb.chR fun x y hx hy => ?_
    · refine .inr ⟨hb.a5 y (List.mem_of_mem_tail hy), ?_⟩
      rw [hN x fun e => hlx (by rw [e]; exact hl)]; exact hxy
    · rw [hl] at hx
      injection hx with hx
      subst hx
      rw [hf1] at hy
      injection hy with hy
      subst hy
      exact .inr ⟨by rw [hsv _ (List.mem_append_right _ (mem_of_head hf1))]; exact hf5, hl'.trans hf3⟩
  refine ⟨hb.merge hR ch, ?_⟩
  constructor
  all_goals (try (intro e; exfalso; rw [hq] at e; revert e; decide))
  case pcs => omega
  case some_ => exact fun _ => by simp [hR]
  case leadB =>
    intro _
    cases hA' : A with
    | nil => exact absurd hA' hA
    | cons a A1 => exact ⟨a, rfl, hb.a5 a (by rw [hA']; simp), by rw [hbb, hB, hA']; rfl⟩
  case asd => exact fun _ => ⟨trivial, fun l hl => by simp at hl⟩
  case asl => exact fun _ => fun a l ha => by simp at ha
  case none_ => exact fun _ => rfl
  case ct0 => rw [hC]; exact k.ct0
  case ct => rw [hC]; exact k.ct
/-- 27 -/
theorem CPh.c27 (k : CPh n bud node W w S h A R p) (b : CBs n W S h A R) (e : p.pc = 27) (hb0 : 0 ≤ bud) (hC : cct W' = 0) (hq : p'.pc = 28) (hb : p'.b = p.b) : CPh n bud node W' w (S.set h p') h A R p' := by
  have hA := k.none_ (by rw [e]; decide)
  subst hA
  constructor
  all_goals (try (intro e; exfalso; rw [hq] at e; revert e; decide))
  case pcs => omega
  case some_ => exact fun _ => k.some_ (by omega)
  case leadB => exact fun _ => by rw [hb]; exact (k.leadB (.inl e)).ctrl b
  case asd => exact fun _ => ⟨trivial, fun l hl => by simp at hl⟩
  case asl => exact fun _ => fun a l ha => by simp at ha
  case none_ => exact fun _ => rfl
  case ct0 => omega
  case ct => omega
theorem CPh.c29 (k : CPh n bud node W w S h A R p) (b : CBs n W S h A R) (e : p.pc = 29) (hb0 : 0 ≤ bud) (hC : cct W' = 0) (hq : p'.pc = 30) (haa : p'.a = p.a) : CPh n bud node W' w (S.set h p') h A R p' := by
  have hA := k.none_ (by rw [e]; decide)
  subst hA
  constructor
  all_goals (try (intro e; exfalso; rw [hq] at e; revert e; decide))
  case pcs => omega
  case some_ => exact fun _ => k.some_ (by omega)
  case leadA => exact fun _ => by rw [haa]; exact (k.leadA (by rw [e]; decide)).ctrl b
  case asd => exact fun _ => ⟨trivial, fun l hl => by simp at hl⟩
  case asl => exact fun _ => fun a l ha => by simp at ha
  case none_ => exact fun _ => rfl
  case ct0 => omega
  case ct => omega
/-- 24, 28, 30: handed on -/
theorem CBs.hand (b : CBs n W S h A R) {f : Nat} {R' : List Nat} (hR : R = f :: R') (h5 : (sv S f).pc = 5) (ka : Asd W A) (kl : Asl W A) (hc0 : 0 ≤ cct W) (hc : cct W ≤ bud) (hl : W'.length = W.length) (hN : ∀ u, cnx W' u = cnx W u) (hF : csp W' f = vA A) (hS : ∀ u, u ≠ f → csp W' u = csp W u) (hL : ∀ u, cla W' u = cla W u)
    (hT : Go.Proofs.YtkdaiomjbkpedaaGreat.ctl W' = Go.Proofs.YtkdaiomjbkpedaaGreat.ctl W) (hC : cct W' = cct W) (hp : p'.pc = 0) : CBs n W' (S.set h p') f A R' ∧ CPh n bud node W' w (S.set h p') f A R' (sv (S.set h p') f) := by
  subst hR
  have hnd := List.nodup_append.1 b.nd
  have hfR : f ∉ R' := (List.nodup_cons.1 hnd.2.1).1
  have hfA : f ∉ A := fun hm => hnd.2.2 f hm f (by simp) rfl
  have hfn : f ∉ A ++ R' := fun hm => by
    rcases List.mem_append.1 hm with h1 | h1
    · exact hfA h1
    · exact hfR h1
  have hsub : ∀ t, t ∈ A ++ R' → t ∈ A ++ f :: R' := fun t ht => by
    rcases List.mem_append.1 ht with h1 | h1
    · exact List.mem_append_left _ h1
    · exact List.mem_append_right _ (List.mem_cons_of_mem _ h1)
  have hsup : ∀ t, t ∈ A ++ f :: R' → t ≠ f → t ∈ A ++ R' := fun t ht e => by
    rcases List.mem_append.1 ht with h1 | h1
    · exact List.mem_append_left _ h1
    · rcases List.mem_cons.1 h1 with h2 | h2
      · exact absurd h2 e
      · exact List.mem_append_right _ h2
  have hfm : f ∈ A ++ f :: R' := List.mem_append_right _ (by simp)
  have hsv : ∀ u, u ∈ A ++ f :: R' → sv (S.set h p') u = sv S u := fun u hu => sv_ne (b.waits hu)
  have hhh : sv (S.set h p') h = p' := sv_eq (by rw [b.sl]; exact b.hn)
  have hlast : lastD h (f :: R') = lastD f R' := by
    cases R' with
    | nil => rfl
    | cons a l =>
      rw [show f :: a :: l = [f] ++ (a :: l) from rfl, lastD_app h [f] (by simp)]
      exact lastD_of (by simp)
  refine ⟨⟨hl.trans b.wl, by simp [b.sl], hfn, ?_, b.lt f hfm, fun t ht => b.lt t (hsub t ht), fun t ht h1 h2 => ?_, fun t ht => ?_, fun t ht => ?_, ?_, by rw [← hlast]; exact hT.trans b.tl, by rw [← hlast, hN]; exact b.end0⟩, ?_⟩
  · refine List.nodup_append.2 ⟨hnd.1, (List.nodup_cons.1 hnd.2.1).2, fun x hx y hy => hnd.2.2 x hx y (List.mem_cons_of_mem _ hy)⟩
  · by_cases e : t = h
    · subst e
      rw [hhh]
      exact ⟨by omega, fun _ => by omega, fun _ => by omega⟩
    · rw [sv_ne e, hN, hS t h1]
      exact b.out t ht e fun hm => h2 (hsup t hm h1)
  · rw [hsv t (hsub t ht), hS t (nei hfn ht)]; exact b.wait t (hsub t ht)
  · rw [hsv t (hsub t (List.mem_append_left _ ht))]; exact b.a5 t ht
  · exact b.chR.2.mono fun x y hx hy hxy => hxy.cong (hN x) (hsv y (List.mem_append_right _ (List.mem_cons_of_mem _ (List.mem_of_mem_tail hy))))
  · have hq : (sv (S.set h p') f).pc = 5 := by rw [hsv f hfm]; exact h5
    constructor
    all_goals (try (intro e; exfalso; rw [hq] at e; revert e; decide))
    case pcs => omega
    case front => exact fun _ g hg => (b.chR.1 g hg).cong (hN f) (hsv g (List.mem_append_right _ (List.mem_cons_of_mem _ (mem_of_head hg))))
    case asd => exact fun _ => ⟨ka.1.mono fun x y _ _ hxy => by rw [hN]; exact hxy, fun l hl => by rw [hN]; exact ka.2 l hl⟩
    case asl => exact fun _ a l ha hl => by rw [hL]; exact kl a l ha hl
    case own => exact fun _ => hF
    case ct0 => rw [hC]; exact hc0
    case ct => rw [hC]; exact hc
/-- 13: the last one goes -/
theorem CBs.frees (b : CBs n W S h [] []) (hl : W'.length = W.length) (hN : ∀ u, cnx W' u = cnx W u) (hS : ∀ u, csp W' u = csp W u) (hT : Go.Proofs.YtkdaiomjbkpedaaGreat.ctl W' = 0) (hc0 : 0 ≤ cct W') (hc : cct W' ≤ bud) (hp : p'.pc = 0) : CFr n bud W' (S.set h p') := by
  refine ⟨hl.trans b.wl, by simp [b.sl], fun t ht => ?_, hT, hc0, hc⟩
  by_cases e : t = h
  · subst e
    rw [sv_eq (by rw [b.sl]; exact b.hn)]
    exact ⟨by omega, fun _ => by omega, fun _ => by omega⟩
  · rw [sv_ne e, hN, hS]
    exact b.out t ht e (by simp)
/-- nobody is there: one comes, and is the first -/
theorem CFr.first (b : CFr n bud W S) (hi : i < n) (h3 : (sv S i).pc = 3) (hl : W'.length = W.length) (hN : ∀ u, cnx W' u = cnx W u) (hS : ∀ u, csp W' u = csp W u) (hC : cct W' = cct W) (hT : Go.Proofs.YtkdaiomjbkpedaaGreat.ctl W' = num i) (hp : p'.pc = 6) : CBs n W' (S.set i p') i [] [] ∧ CPh n bud node W' w (S.set i p') i [] [] p' := by
  refine ⟨⟨hl.trans b.wl, by simp [b.sl], by simp, by simp, hi, fun t ht => by simp at ht, fun t ht h1 _ => by rw [sv_ne h1, hN, hS]; exact b.out t ht, fun t ht => by simp at ht, fun t ht => by simp at ht, trivial, hT, by rw [hN]; exact (b.out i hi).2.1 (by omega)⟩, ?_⟩
  constructor
  all_goals (try (intro e; exfalso; rw [hp] at e; revert e; decide))
  case pcs => omega
  case front => exact fun _ f hf => by simp at hf
  case asd => exact fun _ => ⟨trivial, fun l hl => by simp at hl⟩
  case asl => exact fun _ => fun a l ha => by simp at ha
  case none_ => exact fun _ => rfl
  case ct0 => rw [hC]; exact b.ct0
  case ct => rw [hC]; exact b.ct
theorem CFr.outs (b : CFr n bud W S) (hi : i < n) (hl : W'.length = W.length) (hN : ∀ u, u ≠ i → cnx W' u = cnx W u) (hS : ∀ u, u ≠ i → csp W' u = csp W u) (hC : cct W' = cct W) (hT : Go.Proofs.YtkdaiomjbkpedaaGreat.ctl W' = Go.Proofs.YtkdaiomjbkpedaaGreat.ctl W)
    (hp : (0 ≤ p'.pc ∧ p'.pc ≤ 3) ∧ (2 ≤ p'.pc → cnx W' i = 0) ∧ (p'.pc = 3 → csp W' i = 0)) : CFr n bud W' (S.set i p') := by
  refine ⟨hl.trans b.wl, by simp [b.sl], fun t ht => ?_, hT.trans b.tl, by rw [hC]; exact b.ct0, by rw [hC]; exact b.ct⟩
  by_cases e : t = i
  · subst e; rw [sv_eq (by rw [b.sl]; exact hi)]; exact hp
  · rw [sv_ne e, hN t e, hS t e]; exact b.out t ht
end
end Go.Proofs.YtkdaiomjbkpedaaGreat
end
section
/- Layer 29 (hclh): the splice, the leave, and all steps in one. No program in sight. -/
namespace Go.Proofs.YtkdaiomjbkpedaaGreat
open Go

section
variable {nd n : Nat} {node : Nat → Nat} {W W' D D' : List Int} {S : List Sp} {G : Nat → List Nat} {i : Nat} {p' : Sp}
/-- the rows behind a splice -/
def spl (G : Nat → List Nat) (i : Nat) : Nat → List Nat := fun j => if j = 0 then G 0 ++ G (i + 1) else if j = i + 1 then [] else G j
theorem spl0 (G : Nat → List Nat) (i : Nat) : spl G i 0 = G 0 ++ G (i + 1) := by unfold spl; rw [if_pos rfl]
theorem splI (G : Nat → List Nat) (i : Nat) : spl G i (i + 1) = [] := by unfold spl; rw [if_neg (by omega), if_pos rfl]
theorem splO (G : Nat → List Nat) {i j : Nat} (h : j ≠ i) : spl G i (j + 1) = G (j + 1) := by unfold spl; rw [if_neg (by omega), if_neg (by omega)]
theorem tl_set0 (x : Int) (h : 0 < W.length) : tl (W.set 0 x) = x := getD_set_eq _ _ _ h
theorem lc_set0 {v : Nat} (x : Int) : lc (W.set 0 x) v = lc W v := getD_set_ne _ _ _ (by omega)
theorem tnw_set0 {t : Nat} (x : Int) : tnw nd (W.set 0 x) t = tnw nd W t := getD_set_ne _ _ _ (by omega)
theorem mem_spl {k t : Nat} (hm : t ∈ spl G i k) : ∃ k', t ∈ G k' ∧ (k = k' ∨ (k = 0 ∧ k' = i + 1)) := by
  unfold spl at hm
  split at hm
  · rename_i e
    rcases List.mem_append.1 hm with hm | hm
    · exact ⟨0, hm, .inl e⟩
    · exact ⟨i + 1, hm, .inr ⟨e, rfl⟩⟩
  · split at hm
    · simp at hm
    · exact ⟨k, hm, .inl rfl⟩
theorem HIv.s4 (h : HIv nd n node W D S G) (hi : i < n) (h4 : (sv S i).pc = 4) (hp : (tl W = 0 ∧ p'.pc = 10) ∨ (tl W ≠ 0 ∧ p'.pc = 5)) (ha : p'.a = tl W) :
    (∃ r, G (i + 1) = i :: r) ∧ (p'.pc = 10 → G 0 = []) ∧ HIv nd n node (W.set 0 (sv S i).c) D (S.set i p') (spl G i) := by
  have hf := h.at234 hi (.inr (.inr h4))
  have hne := ne_of_head hf
  have hwl : 0 < W.length := by rw [h.wl]; omega
  have hii := sv_eq (S := S) (i := i) (p' := p') (by rw [h.sl]; exact hi)
  obtain ⟨q1, q2⟩ := h.masterNot hf
  have hc : (sv S i).c = lastT D (G (i + 1)) := by
    rcases h.mast i hne with ⟨h2, _⟩ | ⟨_, h2⟩
    · omega
    · exact h2
  have hempty : p'.pc = 10 → G 0 = [] := fun e => by
    rcases h.tail with ⟨h2, h3⟩ | ⟨h2, _⟩
    · rcases hp with ⟨h5, _⟩ | ⟨_, h6⟩
      · obtain ⟨t, ht, _⟩ := last_some h3
        rw [h5, lastT_some ht] at h2
        exact absurd h2.symm (tok_ne (by have := h.d0 t; omega))
      · omega
    · exact h2
  refine ⟨?_, hempty, ?_⟩
  · cases hr : G (i + 1) with
    | nil => exact absurd hr hne
    | cons a r => rw [hr] at hf; simp at hf; subst hf; exact ⟨r, rfl⟩
  have old : ∀ k, Lks (HLk D (S.set i p')) (G k) := fun k => (h.lk k).mono fun a b _ hb hab => by
    have : b ≠ i := fun e => q1 k (e ▸ hb)
    unfold HLk; rw [sv_ne this]; exact hab
  have hm0 : ∀ m, spl G i (m + 1) ≠ [] → m ≠ i ∧ G (m + 1) ≠ [] := fun m hm => by
    by_cases e : m = i
    · rw [e, splI] at hm; exact absurd rfl hm
    · rw [splO G e] at hm; exact ⟨e, hm⟩
  refine ⟨by simp [h.wl], by simp [h.sl], h.dl, h.n32, h.nn, fun t ht => (tnw_set0 _).trans (h.tw t ht), h.d0, fun k => ?_, fun k k' t hk1 hk2 => ?_, fun k t hm => ?_, fun k => ?_, fun t ht hk1 => ?_, fun m hm => ?_, fun m t hm => ?_, fun m hm => ?_, fun m m' hm hm' he h2 h3 => ?_, fun v hv' => ?_, fun t ht => ?_, ?_⟩
  · unfold spl
    split
    · refine List.nodup_append.2 ⟨h.nod _, h.nod _, fun x hx y hy e => ?_⟩
      subst e
      have := h.dj _ _ _ hx hy; omega
    · split
      · exact List.nodup_nil
      · exact h.nod k
  · obtain ⟨j, hj, ej⟩ := mem_spl hk1
    obtain ⟨j', hj', ej'⟩ := mem_spl hk2
    have e := h.dj _ _ _ hj hj'
    subst e
    rcases ej with rfl | ⟨rfl, rfl⟩ <;> rcases ej' with e' | ⟨rfl, e'⟩
    · exact e'.symm
    · subst e'; rw [splI] at hk1; simp at hk1
    · subst e'; rw [splI] at hk2; simp at hk2
    · rfl
  · obtain ⟨j, hj, _⟩ := mem_spl hm
    exact h.lt j t hj
  · unfold spl
    split
    · refine (old 0).append (old _) fun a b ha' hb' => ?_
      rw [hf] at hb'
      injection hb' with hb'
      subst hb'
      rcases h.tail with ⟨h2, h3⟩ | ⟨h2, _⟩
      · unfold HLk
        rw [hii, ha, h2, lastT_some ha']
        refine ⟨?_, rfl⟩
        rcases hp with ⟨h5, _⟩ | ⟨_, h6⟩
        · rw [h5, lastT_some ha'] at h2
          exact absurd h2.symm (tok_ne (by have := h.d0 a; omega))
        · exact h6
      · rw [h2] at ha'; simp at ha'
    · split
      · trivial
      · exact old k
  · have e : t ≠ i := fun e => hk1 0 (by rw [spl0, e]; exact List.mem_append_right _ (mem_of_head hf))
    rw [sv_ne e]
    refine h.free t ht fun k hk => ?_
    by_cases e0 : k = 0
    · subst e0; exact hk1 0 (by rw [spl0]; exact List.mem_append_left _ hk)
    · by_cases e1 : k = i + 1
      · subst e1; exact hk1 0 (by rw [spl0]; exact List.mem_append_right _ hk)
      · exact hk1 k (by unfold spl; rw [if_neg e0, if_neg e1]; exact hk)
  · obtain ⟨e, hm1⟩ := hm0 m hm
    rw [splO G e]; exact h.first m hm1
  · have e : m ≠ i := fun e => by rw [e, splI] at hm; simp at hm
    rw [splO G e] at hm; exact h.same m t hm
  · obtain ⟨e, hm1⟩ := hm0 m hm
    rw [splO G e, sv_ne e, lc_set0]; exact h.mast m hm1
  · obtain ⟨e, hm1⟩ := hm0 m hm
    obtain ⟨e', hm1'⟩ := hm0 m' hm'
    rw [sv_ne e] at h2
    rw [sv_ne e'] at h3
    exact h.one m m' hm1 hm1' he h2 h3
  · rw [lc_set0]
    rcases h.loc v hv' with h2 | ⟨m, h2, h3, h5⟩
    · exact .inl h2
    · have e : m ≠ i := fun e => by rw [e] at h3; omega
      exact .inr ⟨m, by rw [splO G e]; exact h2, by rw [sv_ne e]; exact h3, h5⟩
  · rw [spl0] at ht
    by_cases h0 : G 0 = []
    · rw [h0, List.nil_append, hf] at ht
      injection ht with ht
      subst ht
      rw [hii]
      rcases hp with ⟨_, h5⟩ | ⟨h5, h6⟩
      · exact .inr (.inl h5)
      · refine .inl ⟨h6, ?_⟩
        rw [ha]
        rcases h.tail with ⟨_, h3⟩ | ⟨_, h3 | h3⟩
        · exact absurd h0 h3
        · exact absurd h3 h5
        · exact h3
    · have ht' : (G 0).head? = some t := by
        cases hg : G 0 with
        | nil => exact absurd hg h0
        | cons a l => rw [hg] at ht; simpa using ht
      rw [sv_ne (fun e : t = i => q2 (by rw [← e]; exact ht'))]
      exact h.front t ht'
  · rw [spl0, tl_set0 _ hwl]
    exact .inl ⟨by rw [lastT_append _ hne]; exact hc, by simp [hne]⟩
theorem Dn.mono {w : Int} (h : Dn n D w) (hd : ∀ t, dv D t ≤ dv D' t) : Dn n D' w := by
  obtain ⟨t, d, h1, h2, h3, h4⟩ := h
  exact ⟨t, d, h1, h2, by have := hd t; omega, h4⟩
theorem dv_set (hl : i < D.length) (x : Int) (t : Nat) : dv (D.set i x) t = if i = t then x else dv D t := by
  unfold dv
  by_cases e : i = t
  · subst e; rw [getD_set_eq _ _ _ hl, if_pos rfl]
  · rw [getD_set_ne _ _ _ e, if_neg e]
theorem lastT_congr {l : List Nat} (h : ∀ t ∈ l, dv D' t = dv D t) : lastT D' l = lastT D l := by
  unfold lastT
  cases hl : l.getLast? with
  | none => rfl
  | some t => simp only; rw [h t (List.mem_of_getLast? hl)]
/-- step 11 -/
theorem HIv.s11 (h : HIv nd n node W D S G) (hi : i < n) (hf : (G 0).head? = some i) (hp : p'.pc = 0) (x : Int) (hx : x = dv D i + 1) :
    HIv nd n node (W.set (1 + nd + i) x) (D.set i (dv D i + 1)) (S.set i p') (upd G 0 (G 0).tail) := by
  have hm0 := mem_of_head hf
  have hwl : 1 + nd + i < W.length := by rw [h.wl]; omega
  have hdl : i < D.length := by have := h.dl; omega
  have hii := sv_eq (S := S) (i := i) (p' := p') (by rw [h.sl]; exact hi)
  have hiT : i ∉ (G 0).tail := head_not_tail (h.nod 0) hf
  have hiO : ∀ k, k ≠ 0 → i ∉ G k := fun k hk hm => hk (h.dj _ _ _ hm hm0)
  have hnt : ∀ k, i ∉ (G k).tail := fun k hm => by
    by_cases e : k = 0
    · subst e; exact hiT hm
    · exact hiO k e (List.mem_of_mem_tail hm)
  have hlcs : ∀ v, v < nd → lc (W.set (1 + nd + i) x) v = lc W v := fun v hv => getD_set_ne _ _ _ (by omega)
  have htls : tl (W.set (1 + nd + i) x) = tl W := getD_set_ne _ _ _ (by omega)
  have htws : ∀ t, tnw nd (W.set (1 + nd + i) x) t = if i = t then x else tnw nd W t := fun t => by
    unfold tnw
    by_cases e : i = t
    · subst e; rw [getD_set_eq _ _ _ hwl, if_pos rfl]
    · rw [getD_set_ne _ _ _ (by omega), if_neg e]
  have hdv := dv_set hdl (dv D i + 1)
  have hdn : ∀ t, t ≠ i → dv (D.set i (dv D i + 1)) t = dv D t := fun t e => by rw [hdv, if_neg (fun h => e h.symm)]
  have hle : ∀ t, dv D t ≤ dv (D.set i (dv D i + 1)) t := fun t => by rw [hdv]; split <;> (try subst_vars) <;> omega
  have hu : ∀ k, k ≠ 0 → upd G 0 (G 0).tail k = G k := fun k e => upd_ne G _ e
  have hsub : ∀ k t, t ∈ upd G 0 (G 0).tail k → t ∈ G k ∧ t ≠ i := fun k t hm => by
    by_cases e : k = 0
    · subst e
      rw [upd_eq] at hm
      exact ⟨List.mem_of_mem_tail hm, fun e => hiT (e ▸ hm)⟩
    · rw [hu k e] at hm
      exact ⟨hm, fun e' => hiO k e (e' ▸ hm)⟩
  have hchain : ∀ k, Lks (HLk D S) (upd G 0 (G 0).tail k) := fun k => by
    by_cases e : k = 0
    · subst e; rw [upd_eq]; exact (h.lk 0).tail
    · rw [hu k e]; exact h.lk k
  have hne1 : ∀ m, G (m + 1) ≠ [] → m ≠ i := fun m hm e => by
    subst e
    exact hiO _ (by omega) (mem_of_head (h.first m hm))
  have hlt : ∀ k, k ≠ 0 → lastT (D.set i (dv D i + 1)) (G k) = lastT D (G k) := fun k e => lastT_congr fun t ht => hdn t fun e' => hiO k e (e' ▸ ht)
  refine ⟨by simp [h.wl], by simp [h.sl], by simpa using h.dl, h.n32, h.nn, fun t ht => ?_, fun t => ?_, fun k => ?_, fun k k' t hk1 hk2 => ?_, fun k t hm => ?_, fun k => ?_, fun t ht hk1 => ?_, fun m hm => ?_, fun m t hm => ?_, fun m hm => ?_, fun m m' hm hm' he h2 h3 => ?_, fun v hv' => ?_, fun t ht => ?_, ?_⟩
  · rw [htws, hdv, hx]
    split
    · rfl
    · exact h.tw t ht
  · have := hle t; have := h.d0 t; omega
  · by_cases e : k = 0
    · subst e; rw [upd_eq]; exact (h.nod 0).sublist (List.tail_sublist _)
    · rw [hu k e]; exact h.nod k
  · exact h.dj k k' t (hsub k t hk1).1 (hsub k' t hk2).1
  · exact h.lt k t (hsub k t hm).1
  · refine (hchain k).mono fun a b ha hb hab => ?_
    have e1 := (hsub k a ha).2
    have e2 := (hsub k b (List.mem_of_mem_tail hb)).2
    unfold HLk
    rw [sv_ne e2, hdn a e1]; exact hab
  · by_cases e : t = i
    · subst e; rw [hii]; exact .inl hp
    · rw [sv_ne e]
      refine h.free t ht fun k hk => hk1 k ?_
      by_cases e2 : k = 0
      · subst e2
        rw [upd_eq]
        rcases mem_ht hk with h3 | h3
        · rw [hf] at h3; injection h3 with h3; exact absurd h3.symm e
        · exact h3
      · rw [hu k e2]; exact hk
  · rw [hu _ (by omega)] at hm ⊢; exact h.first m hm
  · rw [hu _ (by omega)] at hm; exact h.same m t hm
  · rw [hu _ (by omega)] at hm ⊢
    have e := hne1 m hm
    rw [sv_ne e, hlcs _ (h.nn m (h.lt _ _ (mem_of_head (h.first m hm)))), hlt _ (by omega)]
    exact h.mast m hm
  · rw [hu _ (by omega)] at hm hm'
    rw [sv_ne (hne1 m hm)] at h2
    rw [sv_ne (hne1 m' hm')] at h3
    exact h.one m m' hm hm' he h2 h3
  · rw [hlcs v hv']
    rcases h.loc v hv' with h2 | ⟨m, h2, h3, h4⟩
    · exact .inl h2
    · exact .inr ⟨m, by rw [hu _ (by omega)]; exact h2, by rw [sv_ne (hne1 m h2)]; exact h3, h4⟩
  · rw [upd_eq] at ht
    have htm := mem_of_head ht
    have e : t ≠ i := fun e => hiT (e ▸ htm)
    rw [sv_ne e]
    obtain ⟨h5, p, hpm, hpa⟩ := h.notail htm
    refine .inl ⟨h5, ?_⟩
    have hpi : p = i := by
      have hc := h.lk 0
      cases hg : G 0 with
      | nil => rw [hg] at ht; simp at ht
      | cons a l =>
        rw [hg] at hc hf ht
        simp at hf ht
        subst hf
        have := (hc.1 t ht).2
        rw [hpa] at this
        exact (tok_inj (by have := h.lt 0 p hpm; have := h.n32; omega) (by have := h.n32; omega) this).1
    subst hpi
    exact ⟨p, dv D p + 1, hi, by have := h.d0 p; omega, by rw [hdv, if_pos rfl]; exact Int.le_refl _, hpa⟩
  · rw [upd_eq, htls]
    rcases h.tail with ⟨h2, h3⟩ | ⟨h2, h3⟩
    · cases hg : G 0 with
      | nil => exact absurd hg h3
      | cons a l =>
        rw [hg] at hf h2
        simp at hf
        subst hf
        cases l with
        | nil => exact .inr ⟨rfl, .inr ⟨a, dv D a + 1, hi, by have := h.d0 a; omega, by rw [hdv, if_pos rfl]; exact Int.le_refl _, by rw [h2]; exact lastT_some rfl⟩⟩
        | cons b l =>
          refine .inl ⟨?_, by simp⟩
          have e1 : lastT D (a :: b :: l) = lastT D (b :: l) := by unfold lastT; rw [List.getLast?_cons_cons]
          rw [h2, e1]
          refine (lastT_congr fun t ht => hdn t fun e => ?_).symm
          rw [hg] at hiT
          exact hiT (e ▸ ht)
    · rw [h2] at hf; simp at hf
end
end Go.Proofs.YtkdaiomjbkpedaaGreat
end
section
/- Layer 29 (hclh): what any act does; one holder; who is passed; and how long it all lasts. No program in sight. -/
namespace Go.Proofs.YtkdaiomjbkpedaaGreat
open Go

structure HOk (nd n : Nat) (dl : Int) (node : Nat → Nat) (h : Hc) (N : Nat) (G : Nat → List Nat) : Prop where
  iv : HIv nd n node h.ar.W h.D h.S G
  ops : h.ar.ops ≤ N
  dn : ∀ t, dv h.D t ≤ N
  bb : ∀ t, t < n → (sv h.S t).pc = 2 → (sv h.S t).b ≤ dl
/-- what a step of i does -/
structure StH (n : Nat) (node : Nat → Nat) (p p' : Sp) (i : Nat) (Q Q' : List Nat) : Prop where
  row : p.pc = 1 → p'.pc = 5 → ∃ (t : Nat) (d : Int), t < n ∧ node t = node i ∧ 0 ≤ d ∧ p'.a = tokH t d
  stay : p.pc ≠ 4 → p.pc ≠ 11 → Q' = Q
  splice : p.pc = 4 → (∃ r, Q' = Q ++ i :: r) ∧ (p'.pc = 10 → Q = [])
  gone : p.pc = 11 → Q.head? = some i ∧ Q' = Q.tail
  enter : p'.pc = 10 → p.pc ≠ 10 → p.pc = 4 ∨ (p.pc = 5 ∧ Q.head? = some i)
  look : p.pc = 5 → Q.head? = some i → p'.pc = 10
  only : p.pc = 1 ∨ p.pc = 2 ∨ p.pc = 3 ∨ p.pc = 4 ∨ p.pc = 5 ∨ p.pc = 11
  less : p.pc ≠ 5 → p'.pc = p.pc → p'.pc = 2 ∧ p'.b = p.b - 1 ∧ 1 ≤ p'.b
  next : p'.pc = p.pc ∨ (p.pc = 1 ∧ (p'.pc = 2 ∨ p'.pc = 3 ∨ p'.pc = 5)) ∨ (p.pc = 2 ∧ p'.pc = 3) ∨ (p.pc = 3 ∧ p'.pc = 4) ∨ (p.pc = 4 ∧ (p'.pc = 5 ∨ p'.pc = 10)) ∨ (p.pc = 5 ∧ p'.pc = 10) ∨ (p.pc = 11 ∧ p'.pc = 0)
section
variable {nd n N i : Nat} {dl : Int} {node : Nat → Nat} {h : Hc} {G : Nat → List Nat}
theorem goes_iff {p : Sp} : goesH p = true ↔ (p.pc = 1 ∨ p.pc = 2 ∨ p.pc = 3 ∨ p.pc = 4 ∨ p.pc = 5 ∨ p.pc = 11) := by
  unfold goesH
  simp [or_assoc]
theorem HOk.pcs (k : HOk nd n dl node h N G) (hi : i < n) : (sv h.S i).pc = 0 ∨ (sv h.S i).pc = 1 ∨ (sv h.S i).pc = 2 ∨ (sv h.S i).pc = 3 ∨ (sv h.S i).pc = 4 ∨ (sv h.S i).pc = 5 ∨ (sv h.S i).pc = 10 ∨ (sv h.S i).pc = 11 := by
  rcases Classical.em (∀ k, i ∉ G k) with hk | hk
  · have := k.iv.free i hi hk; omega
  · obtain ⟨j, hk⟩ := Classical.not_forall.1 hk
    rcases k.iv.inG (Classical.not_not.1 hk) with h1 | ⟨h0, ⟨_, h1⟩ | ⟨_, h1⟩⟩ <;> omega
theorem isA_W (s : Ar) (f : Int) (n : Nat) (w : Int) : (isA s f n w).W = s.W := by unfold isA; split <;> simp [loadA_W]
theorem isA_ops (s : Ar) (f : Int) (n : Nat) (w : Int) : (isA s f n w).ops ≤ s.ops + 1 := by unfold isA; split <;> simp [loadA_ops]
theorem HOk.bset (k : HOk nd n dl node h N G) (hi : i < n) {p' : Sp} (hb : p'.pc = 2 → p'.b ≤ dl) : ∀ t, t < n → (sv (h.S.set i p') t).pc = 2 → (sv (h.S.set i p') t).b ≤ dl := fun t ht h2 => by
  by_cases e : t = i
  · subst e
    rw [sv_eq (by rw [k.iv.sl]; exact hi)] at h2 ⊢
    exact hb h2
  · rw [sv_ne e] at h2 ⊢; exact k.bb t ht h2
theorem HOk.step (k : HOk nd n dl node h N G) (hN : N < 1000000) (hi : i < n) (hg : goesH (sv h.S i) = true) (x : Ar × List Int × Sp) (hx : x = stepHp nd n dl h (node i) i (sv h.S i)) :
    ∃ G', HOk nd n dl node ⟨x.1, x.2.1, h.S.set i x.2.2⟩ (N + 1) G' ∧ StH n node (sv h.S i) x.2.2 i (G 0) (G' 0) := by
  have hv := k.iv.nn i hi
  have hl1 := ld_lc (W := h.ar.W) (n := n) k.iv.wl hv
  have hs1 := fun y => st_lc (W := h.ar.W) (n := n) k.iv.wl hv y
  have hdn : ∀ t, dv h.D t ≤ (N + 1 : Nat) := fun t => by have := k.dn t; omega
  have hops : ∀ {s : Ar}, s.ops ≤ h.ar.ops + 1 → s.ops ≤ N + 1 := fun hs => by have := k.ops; omega
  rcases goes_iff.1 hg with e | e | e | e | e | e
  · have hx' : x = (swapA h.ar (2 + (node i : Int)) (tokH i (dv h.D i + 1)), h.D,
      if lc h.ar.W (node i) ≠ 0 then { sv h.S i with a := lc h.ar.W (node i), pc := 5 } else if 0 < dl then { sv h.S i with a := lc h.ar.W (node i), b := dl, pc := 2 } else { sv h.S i with a := lc h.ar.W (node i), b := 0, pc := 3 }) := by
      rw [hx]; unfold stepHp; rw [if_pos e, hl1]
    by_cases c : lc h.ar.W (node i) = 0
    · have hx2 : x.2.2 = if 0 < dl then { sv h.S i with a := lc h.ar.W (node i), b := dl, pc := 2 } else { sv h.S i with a := lc h.ar.W (node i), b := 0, pc := 3 } := by rw [hx']; simp only [c, ne_eq, not_true, if_false]
      have hp : (x.2.2.pc = 2 ∧ 0 < x.2.2.b) ∨ x.2.2.pc = 3 := by
        rw [hx2]; split
        · rename_i hdl; exact .inl ⟨rfl, hdl⟩
        · exact .inr rfl
      have hb : x.2.2.pc = 2 → x.2.2.b ≤ dl := by
        rw [hx2]; split
        · intro _; exact Int.le_refl _
        · intro h2; exact absurd h2 (by show ¬ (3 : Int) = 2; decide)
      refine ⟨upd G (i + 1) [i], ⟨?_, by rw [hx']; exact hops (swapA_ops _ _ _), by rw [hx']; exact hdn, k.bset hi hb⟩, ?_⟩
      · have := k.iv.s1a hi e c hp
        show HIv nd n node x.1.W x.2.1 _ _
        rw [show x.1.W = h.ar.W.set (1 + node i) (tokH i (dv h.D i + 1)) by rw [hx']; show (swapA _ _ _).W = _; rw [swapA_W, hs1], show x.2.1 = h.D by rw [hx']]
        exact this
      · have h5 : ¬ x.2.2.pc = 5 := by omega
        refine ⟨fun _ h => absurd h h5, fun _ _ => upd_ne _ _ (by omega), fun h => by omega, fun h => by omega, fun h => by omega, fun h => by omega, .inl e, fun _ h => by omega, by omega⟩
    · have hx2 : x.2.2 = { sv h.S i with a := lc h.ar.W (node i), pc := 5 } := by rw [hx']; simp only [c, ne_eq, not_false_iff, if_true]
      obtain ⟨m, t, hm, ht, hnt, hpa, hiv⟩ := k.iv.s1b (p' := x.2.2) hi e c (by rw [hx2]) (by rw [hx2])
      have h5 : x.2.2.pc = 5 := by rw [hx2]
      refine ⟨upd G (m + 1) (G (m + 1) ++ [i]), ⟨?_, by rw [hx']; exact hops (swapA_ops _ _ _), by rw [hx']; exact hdn, k.bset hi (by omega)⟩, ?_⟩
      · show HIv nd n node x.1.W x.2.1 _ _
        rw [show x.1.W = h.ar.W.set (1 + node i) (tokH i (dv h.D i + 1)) by rw [hx']; show (swapA _ _ _).W = _; rw [swapA_W, hs1], show x.2.1 = h.D by rw [hx']]
        exact hiv
      · exact ⟨fun _ _ => ⟨t, _, k.iv.lt _ t ht, hnt, by have := k.iv.d0 t; omega, hpa⟩, fun _ _ => upd_ne _ _ (by omega), fun h => by omega, fun h => by omega, fun h => by omega, fun h => by omega, .inl e, fun _ h => by omega, by omega⟩
  · have hx' : x = (h.ar, h.D, { sv h.S i with b := (sv h.S i).b - 1, pc := if 0 < (sv h.S i).b - 1 then 2 else 3 }) := by
      rw [hx]; unfold stepHp; rw [if_neg (by omega), if_pos e]
    have hp : (x.2.2.pc = 2 ∧ 0 < x.2.2.b) ∨ x.2.2.pc = 3 := by
      rw [hx']; show ((if _ then (2 : Int) else 3) = 2 ∧ _) ∨ (if _ then (2 : Int) else 3) = 3
      split
      · rename_i hb; exact .inl ⟨rfl, hb⟩
      · exact .inr rfl
    have hb : x.2.2.b = (sv h.S i).b - 1 := by rw [hx']
    have := k.bb i hi e
    refine ⟨G, ⟨?_, by rw [hx']; exact hops (Nat.le_succ _), by rw [hx']; exact hdn, k.bset hi (by omega)⟩, ⟨fun h => by omega, fun _ _ => rfl, fun h => by omega, fun h => by omega, fun h => by omega, fun h => by omega, .inr (.inl e), fun _ h => by omega, by omega⟩⟩
    show HIv nd n node x.1.W x.2.1 _ _
    rw [show x.1.W = h.ar.W by rw [hx'], show x.2.1 = h.D by rw [hx']]
    exact k.iv.s2 hi e hp
  · have hx' : x = (swapA h.ar (2 + (node i : Int)) 0, h.D, { sv h.S i with c := lc h.ar.W (node i), pc := 4 }) := by
      rw [hx]; unfold stepHp; rw [if_neg (by omega), if_neg (by omega), if_pos e, hl1]
    have hp : x.2.2.pc = 4 := by rw [hx']
    refine ⟨G, ⟨?_, by rw [hx']; exact hops (swapA_ops _ _ _), by rw [hx']; exact hdn, k.bset hi (by omega)⟩, ⟨fun h => by omega, fun _ _ => rfl, fun h => by omega, fun h => by omega, fun h => by omega, fun h => by omega, .inr (.inr (.inl e)), fun _ h => by omega, by omega⟩⟩
    show HIv nd n node x.1.W x.2.1 _ _
    rw [show x.1.W = h.ar.W.set (1 + node i) 0 by rw [hx']; show (swapA _ _ _).W = _; rw [swapA_W, hs1], show x.2.1 = h.D by rw [hx']]
    exact k.iv.s3 hi e hp (by rw [hx'])
  · have hx' : x = (swapA h.ar 1 (sv h.S i).c, h.D, { sv h.S i with a := tl h.ar.W, pc := if tl h.ar.W = 0 then 10 else 5 }) := by
      rw [hx]; unfold stepHp; rw [if_neg (by omega), if_neg (by omega), if_neg (by omega), if_pos e, ld_tl1 k.iv.wl]
    have hp : (tl h.ar.W = 0 ∧ x.2.2.pc = 10) ∨ (tl h.ar.W ≠ 0 ∧ x.2.2.pc = 5) := by
      rw [hx']
      by_cases c : tl h.ar.W = 0
      · exact .inl ⟨c, by show (if _ then (10 : Int) else 5) = 10; rw [if_pos c]⟩
      · exact .inr ⟨c, by show (if _ then (10 : Int) else 5) = 5; rw [if_neg c]⟩
    obtain ⟨⟨r, hr⟩, he, hiv⟩ := k.iv.s4 (p' := x.2.2) hi e hp (by rw [hx'])
    refine ⟨spl G i, ⟨?_, by rw [hx']; exact hops (swapA_ops _ _ _), by rw [hx']; exact hdn, k.bset hi (by omega)⟩, ⟨fun h => by omega, fun h => by omega, fun _ => ⟨⟨r, by rw [spl0, hr]⟩, he⟩, fun h => by omega, fun _ _ => .inl e, fun h => by omega, .inr (.inr (.inr (.inl e))), fun _ h => by omega, by omega⟩⟩
    show HIv nd n node x.1.W x.2.1 _ _
    rw [show x.1.W = h.ar.W.set 0 (sv h.S i).c by rw [hx']; show (swapA _ _ _).W = _; rw [swapA_W, st_tl1 k.iv.wl], show x.2.1 = h.D by rw [hx']]
    exact hiv
  · have hx' : x = (isA h.ar (2 + (nd : Int)) n (sv h.S i).a, h.D, { sv h.S i with pc := if isB h.ar.W (2 + (nd : Int)) n (sv h.S i).a then 10 else 5 }) := by
      rw [hx]; unfold stepHp; rw [if_neg (by omega), if_neg (by omega), if_neg (by omega), if_neg (by omega), if_pos e]
    have hW : x.1.W = h.ar.W := by rw [hx']; exact isA_W _ _ _ _
    have hD : x.2.1 = h.D := by rw [hx']
    cases c : isB h.ar.W (2 + (nd : Int)) n (sv h.S i).a
    · have hx2 : x.2.2 = sv h.S i := by
        rw [hx', c]
        exact sp_ext e.symm rfl rfl rfl
      have hnh : ¬ (G 0).head? = some i := fun hf => by rw [k.iv.s5n hf e] at c; cases c
      refine ⟨G, ⟨?_, by rw [hx']; exact hops (isA_ops _ _ _ _), by rw [hD]; exact hdn, k.bset hi (by rw [hx2]; omega)⟩, ⟨fun h => by omega, fun _ _ => rfl, fun h => by omega, fun h => by omega, fun h => by rw [hx2] at h; omega, fun _ hf => absurd hf hnh, .inr (.inr (.inr (.inr (.inl e)))), fun h => absurd e h, by rw [hx2]; exact .inl rfl⟩⟩
      show HIv nd n node x.1.W x.2.1 _ _
      rw [hW, hD]
      exact k.iv.same5 hi hx2
    · have hp : x.2.2.pc = 10 := by rw [hx', c]; rfl
      have hf := k.iv.s5 hi e c
      refine ⟨G, ⟨?_, by rw [hx']; exact hops (isA_ops _ _ _ _), by rw [hD]; exact hdn, k.bset hi (by omega)⟩, ⟨fun h => by omega, fun _ _ => rfl, fun h => by omega, fun h => by omega, fun _ _ => .inr ⟨e, hf⟩, fun _ _ => hp, .inr (.inr (.inr (.inr (.inl e)))), fun h => absurd e h, by omega⟩⟩
      show HIv nd n node x.1.W x.2.1 _ _
      rw [hW, hD]
      exact k.iv.atFrontP hi hf (.inl hp)
  · have hx' : x = (addA h.ar (2 + (nd : Int) + i) 1, h.D.set i (dv h.D i + 1), { sv h.S i with pc := 0 }) := by
      rw [hx]; unfold stepHp; rw [if_neg (by omega), if_neg (by omega), if_neg (by omega), if_neg (by omega), if_neg (by omega)]
    have hp : x.2.2.pc = 0 := by rw [hx']
    have hf := k.iv.atFront hi (.inr e)
    have hdl : i < h.D.length := by have := k.iv.dl; omega
    have hw : IntKind.i64.wrap (ldW h.ar.W (2 + (nd : Int) + i) + 1) = dv h.D i + 1 := by
      rw [ld_tw k.iv.wl hi, k.iv.tw i hi]
      have := k.iv.d0 i; have := k.dn i
      exact IntWalk.i64_in _ (by omega)
    refine ⟨upd G 0 (G 0).tail, ⟨?_, by rw [hx']; exact hops (addA_ops _ _ _), ?_, k.bset hi (by omega)⟩, ⟨fun h => by omega, fun _ h => by omega, fun h => by omega, fun _ => ⟨hf, upd_eq _ _ _⟩, fun h => by omega, fun h => by omega, .inr (.inr (.inr (.inr (.inr e)))), fun _ h => by omega, by omega⟩⟩
    · show HIv nd n node x.1.W x.2.1 _ _
      rw [show x.1.W = h.ar.W.set (1 + nd + i) (dv h.D i + 1) by rw [hx']; show (addA _ _ _).W = _; rw [addA_W, hw, st_tw k.iv.wl hi], show x.2.1 = h.D.set i (dv h.D i + 1) by rw [hx']]
      exact k.iv.s11 hi hf hp _ rfl
    · rw [hx']
      intro t
      show dv (h.D.set i (dv h.D i + 1)) t ≤ _
      rw [dv_set hdl]
      have := k.dn i
      split
      · omega
      · exact hdn t
end
end Go.Proofs.YtkdaiomjbkpedaaGreat
end
