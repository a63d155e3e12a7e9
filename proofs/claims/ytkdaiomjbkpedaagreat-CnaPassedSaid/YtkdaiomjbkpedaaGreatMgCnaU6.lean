/- Joined: Cn8, Cn9, Hc6. -/
import Derived.IntWalk
import Derived.Test.YtkdaiomjbkpedaaGreatMgCnaU5
section
/- Layer 31 (cna): any step of the first one, all in one. No program in sight. -/
namespace Go.Proofs.YtkdaiomjbkpedaaGreat
open Go

section
variable {n : Nat} {bud : Int} {node : Nat → Int} {s : Cn} {c : Cfg} {i h : Nat} {A R A' R' : List Nat} {p : Sp}
/-- the first one comes in, or is on its way to whom it hands on (5 to 18) -/
theorem CBs.head1 (b : CBs n s.ar.W s.S h A R) (k : CPh n bud node s.ar.W s.wk s.S h A R (sv s.S h)) (h10 : (sv s.S h).pc ≠ 10) (hlt : (sv s.S h).pc ≤ 16) : Out n bud node s (some (h, A, R)) h (stepCp n node bud s h (sv s.S h)) := by
  have hn := b.hn
  have g0 : ∀ x : Int, x ≠ 24 → x ≠ 28 → x ≠ 30 → givesC x = false := fun x h1 h2 h3 => by unfold givesC; simp [h1, h2, h3]
  have e : (sv s.S h).pc = 5 ∨ (sv s.S h).pc = 6 ∨ (sv s.S h).pc = 11 ∨ (sv s.S h).pc = 12 ∨ (sv s.S h).pc = 13 ∨ (sv s.S h).pc = 14 ∨ (sv s.S h).pc = 15 ∨ (sv s.S h).pc = 16 := by have := k.pcs; omega
  rcases e with e | e | e | e | e | e | e | e
  · have ho := k.own (.inl e)
    rw [stp5 e, ldc_sp b.wl hn]
    have hne : csp s.ar.W h ≠ 0 := by rw [ho]; exact vA_ne A
    rw [if_pos hne]
    exact enters b (by rw [loadA_W]; exact b.same) (by rw [loadA_W]; exact k.c5 b e rfl) (.inl e) rfl (by rw [loadA_W])
  · rw [stp6 e]
    have hW : (storeA s.ar (cS (num h)) (-1)).W = s.ar.W.set (3 * h + 3) (-1) := by rw [storeA_W, stc_sp b.wl hn]
    have ws := wsetS b.wl hn (-1)
    rw [← hW] at ws
    exact enters b (b.ctrl ws.len ws.nx (fun u hu => by rw [ws.sp, fset_ne _ _ hu]) ws.tl) (k.c6 b e rfl ws.nx (by rw [ws.sp, fset_eq]) ws.ct) (.inr e) rfl ws.ct
  · rw [stp11 e, ldc_sp b.wl hn]
    exact goOn b (by rw [loadA_W]; exact b.same) (by rw [loadA_W]; exact k.c11 b e rfl rfl) (by omega) (g0 _ (by omega) (by omega) (by omega)) rfl (by show (10 : Int) ≤ 12; decide) rfl (by rw [loadA_W]; exact Int.le_refl _)
  · rw [stp12 e, ldc_nx b.wl hn]
    by_cases c0 : cnx s.ar.W h = 0
    · by_cases c1 : 0 < (sv s.S h).b
      · simp only [c0, ne_eq, not_true, if_false, c1, if_true]
        exact goOn b (by rw [loadA_W]; exact b.same) (by rw [loadA_W]; exact k.c12a b e c1 rfl rfl) (by omega) (g0 _ (by omega) (by omega) (by omega)) rfl (by show (10 : Int) ≤ 14; decide) rfl (by rw [loadA_W]; exact Int.le_refl _)
      · simp only [c0, ne_eq, not_true, if_false, c1]
        exact goOn b (by rw [loadA_W]; exact b.same) (by rw [loadA_W]; exact k.c12b b e c1 rfl rfl) (by omega) (g0 _ (by omega) (by omega) (by omega)) rfl (by show (10 : Int) ≤ 13; decide) rfl (by rw [loadA_W]; exact Int.le_refl _)
    · rw [if_pos c0]
      exact goOn b (by rw [loadA_W]; exact b.same) (by rw [loadA_W]; exact k.c17 b (.inl e) c0 rfl rfl rfl) (by omega) (g0 _ (by omega) (by omega) (by omega)) rfl (by show (10 : Int) ≤ 17; decide) rfl (by rw [loadA_W]; exact Int.le_refl _)
  · rw [stp13 e]
    cases hc : casB s.ar 1 (num h)
    · have hR : R ≠ [] := fun e' => by rw [b.casTail.2 e'] at hc; cases hc
      simp only [Bool.false_eq_true, if_false]
      exact goOn b (by rw [casA_miss hc]; exact b.same) (by rw [casA_miss hc]; exact k.c16 b (.inl e) hR rfl rfl) (by omega) (g0 _ (by omega) (by omega) (by omega)) rfl (by show (10 : Int) ≤ 16; decide) rfl (by rw [casA_miss hc]; exact Int.le_refl _)
    · have hR := b.casTail.1 hc
      have hA := k.none_ (by rw [e]; decide)
      subst hR hA
      have hW : (casA s.ar 1 (num h) 0).W = s.ar.W.set 0 0 := by rw [casA_hit hc, stc_tl b.wl]
      have ws := wsetT b.wl 0
      rw [← hW] at ws
      rw [if_pos rfl]
      refine ⟨none, b.frees ws.len ws.nx ws.sp ws.tl (by rw [ws.ct]; exact k.ct0) (by rw [ws.ct]; exact k.ct) rfl, fun h3 => by omega, fun _ u hu => by simp [effL] at hu, fun hx => ?_, sameH⟩
      unfold entC at hx
      rw [decide_eq_false (by omega), Bool.false_and] at hx
      cases hx
  · have hA := k.some2 (by rw [e]; decide)
    obtain ⟨a, l, h1, h2, h3⟩ := k.headB (by rw [e]; decide) hA
    have han := b.lt a (List.mem_append_left _ (mem_of_head h1))
    rw [stp14 e, show ldW s.ar.W (cL (sv s.S h).b) = cla s.ar.W a by rw [h3]; exact ldc_la b.wl han]
    exact goOn b (by rw [loadA_W]; exact b.same) (by rw [loadA_W]; exact k.c14 b e a h3 rfl rfl rfl) (by omega) (g0 _ (by omega) (by omega) (by omega)) rfl (by show (10 : Int) ≤ 15; decide) rfl (by rw [loadA_W]; exact Int.le_refl _)
  · rw [stp15 e]
    cases hc : casB s.ar 1 (num h)
    · have hR : R ≠ [] := fun e' => by rw [b.casTail.2 e'] at hc; cases hc
      simp only [Bool.false_eq_true, if_false]
      exact goOn b (by rw [casA_miss hc]; exact b.same) (by rw [casA_miss hc]; exact k.c16 b (.inr e) hR rfl rfl) (by omega) (g0 _ (by omega) (by omega) (by omega)) rfl (by show (10 : Int) ≤ 16; decide) rfl (by rw [casA_miss hc]; exact Int.le_refl _)
    · have hR := b.casTail.1 hc
      have hA := k.some2 (by rw [e]; decide)
      subst hR
      obtain ⟨a, l, h1, h2, h3⟩ := k.headB (by rw [e]; decide) hA
      have hcc := k.c (.inl e) l h2
      have hW : (casA s.ar 1 (num h) (sv s.S h).c).W = s.ar.W.set 0 (num l) := by rw [casA_hit hc, stc_tl b.wl, hcc]
      have ws := wsetT b.wl (num l)
      rw [← hW] at ws
      rw [if_pos rfl]
      have hb := b.all15 (p' := { sv s.S h with pc := 28 }) (k.asd (by rw [e]; decide)) h2 ws.len ws.nx ws.sp ws.tl
      have k' := CPh.c28 (bud := bud) (node := node) (w := s.wk) hb hA rfl (fun a' ha' => by
        rw [h1] at ha'; injection ha' with ha'; subst ha'; exact h3) (fun a' ha' => b.a5 a' (mem_of_head ha')) (by rw [ws.ct]; exact k.ct0) (by rw [ws.ct]; exact k.ct)
      exact gives b hb k' (by omega) (g0 _ (by omega) (by omega) (by omega)) rfl (by simp) (by rw [ws.ct]; exact k.ct0) k.ct
  · rw [stp16 e, ldc_nx b.wl hn]
    by_cases c0 : cnx s.ar.W h = 0
    · simp only [c0, ne_eq, not_true, if_false]
      exact goOn b (by rw [loadA_W]; exact b.same) (by rw [loadA_W]; exact k.c16s b e rfl rfl) (by omega) (g0 _ (by omega) (by omega) (by omega)) rfl (by show (10 : Int) ≤ 16; decide) rfl (by rw [loadA_W]; exact Int.le_refl _)
    · rw [if_pos c0]
      exact goOn b (by rw [loadA_W]; exact b.same) (by rw [loadA_W]; exact k.c17 b (.inr e) c0 rfl rfl rfl) (by omega) (g0 _ (by omega) (by omega) (by omega)) rfl (by show (10 : Int) ≤ 17; decide) rfl (by rw [loadA_W]; exact Int.le_refl _)
/-- the first one looks for one of its node, puts others aside, hands on (17 to 30) -/
theorem CBs.head2 (b : CBs n s.ar.W s.S h A R) (k : CPh n bud node s.ar.W s.wk s.S h A R (sv s.S h)) (hbud : 0 ≤ bud) (hb3 : bud ≤ 1000) (hlt : 17 ≤ (sv s.S h).pc) : Out n bud node s (some (h, A, R)) h (stepCp n node bud s h (sv s.S h)) := by
  have g0 : ∀ x : Int, x ≠ 24 → x ≠ 28 → x ≠ 30 → givesC x = false := fun x h1 h2 h3 => by unfold givesC; simp [h1, h2, h3]
  have e : (sv s.S h).pc = 17 ∨ (sv s.S h).pc = 18 ∨ (sv s.S h).pc = 19 ∨ (sv s.S h).pc = 20 ∨ (sv s.S h).pc = 21 ∨ (sv s.S h).pc = 22 ∨ (sv s.S h).pc = 23 ∨ (sv s.S h).pc = 24 ∨ (sv s.S h).pc = 25 ∨ (sv s.S h).pc = 26 ∨ (sv s.S h).pc = 27 ∨ (sv s.S h).pc = 28 ∨ (sv s.S h).pc = 29 ∨ (sv s.S h).pc = 30 := by have := k.pcs; omega
  rcases e with e | e | e | e | e | e | e | e | e | e | e | e | e | e
  · rw [stp17 e, ldc_ct b.wl]
    by_cases c0 : bud ≤ cct s.ar.W
    · rw [if_pos c0]
      unfold frontC
      by_cases c1 : 0 < (sv s.S h).b
      · simp only [c1, if_true]
        exact goOn b (by rw [loadA_W]; exact b.same) (by rw [loadA_W]; exact k.cF25 b (.inl e) c1 rfl rfl rfl) (by omega) (g0 _ (by omega) (by omega) (by omega)) rfl (by show (10 : Int) ≤ 25; decide) rfl (by rw [loadA_W]; exact Int.le_refl _)
      · simp only [c1, if_false]
        exact goOn b (by rw [loadA_W]; exact b.same) (by rw [loadA_W]; exact k.cF29 b (.inl e) c1 rfl rfl) (by omega) (g0 _ (by omega) (by omega) (by omega)) rfl (by show (10 : Int) ≤ 29; decide) rfl (by rw [loadA_W]; exact Int.le_refl _)
    · rw [if_neg c0]
      have hp : ∀ x : Bool, (10 : Int) ≤ (if x = true then 18 else 23) ∧ givesC (if x = true then 18 else 23) = false := fun x => by cases x <;> simp [givesC]
      exact goOn b (by rw [loadA_W]; exact b.same) (by rw [loadA_W]; exact k.c17w b e (by omega) rfl rfl rfl rfl) (by omega) (g0 _ (by omega) (by omega) (by omega)) (hp _).2 (hp _).1 rfl (by rw [loadA_W]; exact Int.le_refl _)
  · obtain ⟨l, hln, hlast, hcase⟩ := k.walkAt b e
    rw [stp18 e (k.walk e).1, show ldW s.ar.W (cN s.wk.last) = cnx s.ar.W l by rw [hlast]; exact ldc_nx b.wl hln]
    obtain ⟨w', hw'⟩ : ∃ w', w' = takeW n node s.wk (cnx s.ar.W l) := ⟨_, rfl⟩
    rw [← hw']
    rcases hcase w' hw' with ⟨h1, h2⟩ | ⟨h1, h2⟩ | ⟨h1, h2, h3⟩
    · rw [if_pos h1]
      exact goOn b (by rw [loadA_W]; exact b.same) (by rw [loadA_W]; exact h2 _ rfl rfl rfl) (by omega) (g0 _ (by omega) (by omega) (by omega)) rfl (by show (10 : Int) ≤ 18; decide) rfl (by rw [loadA_W]; exact Int.le_refl _)
    · rw [if_neg (by rw [h1]; decide), if_neg (fun h => h h2)]
      unfold frontC
      by_cases c1 : 0 < (sv s.S h).b
      · simp only [c1, if_true]
        exact goOn b (by rw [loadA_W]; exact b.same) (by rw [loadA_W]; exact k.cF25 b (.inr e) c1 rfl rfl rfl) (by omega) (g0 _ (by omega) (by omega) (by omega)) rfl (by show (10 : Int) ≤ 25; decide) rfl (by rw [loadA_W]; exact Int.le_refl _)
      · simp only [c1, if_false]
        exact goOn b (by rw [loadA_W]; exact b.same) (by rw [loadA_W]; exact k.cF29 b (.inr e) c1 rfl rfl) (by omega) (g0 _ (by omega) (by omega) (by omega)) rfl (by show (10 : Int) ≤ 29; decide) rfl (by rw [loadA_W]; exact Int.le_refl _)
    · rw [if_neg (by rw [h1]; decide), if_pos h2]
      exact goOn b (by rw [loadA_W]; exact b.same) (by rw [loadA_W]; exact h3 _ rfl rfl rfl) (by omega) (g0 _ (by omega) (by omega) (by omega)) rfl (by show (10 : Int) ≤ 19; decide) rfl (by rw [loadA_W]; exact Int.le_refl _)
  · obtain ⟨l, P, f, R', hR, hln, hlast, hgo⟩ := k.c19 b e
    rw [stp19 e]
    have hW : (storeA s.ar (cN s.wk.last) 0).W = s.ar.W.set (3 * l + 2) 0 := by rw [storeA_W, hlast, stc_nx b.wl hln]
    have ws := wsetN b.wl hln 0
    rw [← hW] at ws
    by_cases c1 : 0 < (sv s.S h).b
    · rw [if_pos c1]
      obtain ⟨t1, t2⟩ := hgo _ { sv s.S h with pc := 20 } ws.len (by rw [ws.nx, fset_eq]) (fun u hu => by rw [ws.nx, fset_ne _ _ hu]) ws.sp ws.la ws.tl ws.ct (by rw [if_pos c1]; exact ⟨rfl, rfl, rfl⟩)
      exact goOn b t1 t2 (by omega) (g0 _ (by omega) (by omega) (by omega)) rfl (by show (10 : Int) ≤ 20; decide) (by rw [hR]; simp) (by rw [ws.ct]; exact Int.le_refl _)
    · rw [if_neg c1]
      obtain ⟨t1, t2⟩ := hgo _ { sv s.S h with b := (sv s.S h).a, pc := 22 } ws.len (by rw [ws.nx, fset_eq]) (fun u hu => by rw [ws.nx, fset_ne _ _ hu]) ws.sp ws.la ws.tl ws.ct (by rw [if_neg c1]; exact ⟨rfl, rfl⟩)
      exact goOn b t1 t2 (by omega) (g0 _ (by omega) (by omega) (by omega)) rfl (by show (10 : Int) ≤ 22; decide) (by rw [hR]; simp) (by rw [ws.ct]; exact Int.le_refl _)
  · obtain ⟨a, han, hba, hgo⟩ := k.c20 b e
    rw [stp20 e, show ldW s.ar.W (cL (sv s.S h).b) = cla s.ar.W a by rw [hba]; exact ldc_la b.wl han]
    exact goOn b (by rw [loadA_W]; exact b.same) (by rw [loadA_W]; exact hgo _ rfl rfl rfl rfl) (by omega) (g0 _ (by omega) (by omega) (by omega)) rfl (by show (10 : Int) ≤ 21; decide) rfl (by rw [loadA_W]; exact Int.le_refl _)
  · obtain ⟨l, hlA, hc, hgo⟩ := k.c21 b e
    have hln := b.lt l (List.mem_append_left _ hlA)
    rw [stp21 e]
    have hW : (storeA s.ar (cN (sv s.S h).c) (sv s.S h).a).W = s.ar.W.set (3 * l + 2) (sv s.S h).a := by rw [storeA_W, hc, stc_nx b.wl hln]
    have ws := wsetN b.wl hln (sv s.S h).a
    rw [← hW] at ws
    obtain ⟨t1, t2⟩ := hgo _ { sv s.S h with pc := 22 } ws.len (by rw [ws.nx, fset_eq]) (fun u hu => by rw [ws.nx, fset_ne _ _ hu]) ws.sp ws.tl ws.ct rfl rfl
    exact goOn b t1 t2 (by omega) (g0 _ (by omega) (by omega) (by omega)) rfl (by show (10 : Int) ≤ 22; decide) rfl (by rw [ws.ct]; exact Int.le_refl _)
  · obtain ⟨a, han, hba, hgo⟩ := k.c22 b e
    rw [stp22 e]
    have hW : (storeA s.ar (cL (sv s.S h).b) s.wk.last).W = s.ar.W.set (3 * a + 4) s.wk.last := by rw [storeA_W, hba, stc_la b.wl han]
    have ws := wsetL b.wl han s.wk.last
    rw [← hW] at ws
    obtain ⟨t1, t2⟩ := hgo _ { sv s.S h with a := s.wk.found, pc := 23 } ws.len (by rw [ws.la, fset_eq]) ws.nx ws.sp ws.tl ws.ct rfl rfl rfl
    exact goOn b t1 t2 (by omega) (g0 _ (by omega) (by omega) (by omega)) rfl (by show (10 : Int) ≤ 23; decide) rfl (by rw [ws.ct]; exact Int.le_refl _)
  · rw [stp23 e]
    have hc0 := k.ct0
    have hc1 := k.ct
    have hW : (addA s.ar 2 1).W = s.ar.W.set 1 (cct s.ar.W + 1) := by
      rw [addA_W, ldc_ct b.wl, stc_ct b.wl, IntWalk.i64_in _ (by omega)]
    have ws := wsetC b.wl (cct s.ar.W + 1)
    rw [← hW] at ws
    have hb := b.ctrl (p' := { sv s.S h with pc := 24 }) ws.len ws.nx (fun u _ => ws.sp u) ws.tl
    have k' := k.c23 (p' := { sv s.S h with pc := 24 }) b e ws.nx ws.la ws.ct rfl rfl rfl
    have hh : sv (s.S.set h { sv s.S h with pc := 24 }) h = { sv s.S h with pc := 24 } := sv_eq (by rw [b.sl]; exact b.hn)
    have hg : givesC (sv s.S h).pc = false := g0 _ (by omega) (by omega) (by omega)
    have hL : effL s.S (some (h, A, R)) = A ++ R := by simp only [effL, hg, Bool.false_eq_true, if_false]
    have hL' : effL (s.S.set h { sv s.S h with pc := 24 }) (some (h, A, R)) = A ++ R.tail := by rw [effL_h hh]; rfl
    have hE : effE s.S (some (h, A, R)) = 0 := by
      simp only [effE]
      rw [if_neg]
      rintro (h1 | h1 | h1)
      · rw [hg] at h1; cases h1
      · omega
      · omega
    have hE' : effE (s.S.set h { sv s.S h with pc := 24 }) (some (h, A, R)) = 1 := by rw [effE_h hh]; rfl
    refine ⟨some (h, A, R), ⟨hb, by rw [hh]; exact k'⟩, fun h3 => by omega, fun _ u hu => ?_, fun hx => ?_, sameH⟩
    · have hu' : u ∈ A ++ R.tail := by rw [← hL']; exact hu
      have hidx : (A ++ R.tail).idxOf u ≤ (A ++ R).idxOf u ∧ u ∈ A ++ R := by
        have hnd := List.nodup_append.1 b.nd
        cases R with
        | nil => exact ⟨Nat.le_refl _, hu'⟩
        | cons f l =>
          have hu2 : u ∈ A ++ l := hu'
          have h1 : u ≠ f := by
            rcases List.mem_append.1 hu2 with h2 | h2
            · exact fun e => hnd.2.2 u h2 f (by simp) e
            · exact nei (List.nodup_cons.1 hnd.2.1).1 h2
          refine ⟨(idx_mid h1).1, ?_⟩
          rcases List.mem_append.1 hu2 with h2 | h2
          · exact List.mem_append_left _ h2
          · exact List.mem_append_right _ (List.mem_cons_of_mem _ h2)
      refine ⟨by rw [hL]; exact hidx.2, ?_⟩
      have hent : entC (sv s.S h) ({ sv s.S h with pc := 24 } : Sp) = false := by unfold entC; rw [decide_eq_false (by omega), Bool.false_and]
      rw [hent, hL, hL', hE, hE', ws.ct]
      simp only [Bool.false_eq_true, if_false]
      have := psi_le (ct := cct s.ar.W) (ct' := cct s.ar.W + 1) (e := 0) (e' := 1) hbud hidx.1 (by omega)
      omega
    · unfold entC at hx
      rw [decide_eq_false (by omega), Bool.false_and] at hx
      cases hx
  · obtain ⟨f, h1, h2, h3⟩ := k.leadA (by rw [e]; decide)
    obtain ⟨R1, hR⟩ : ∃ R1, R = f :: R1 := by
      cases R with
      | nil => simp at h1
      | cons a l => simp at h1; subst h1; exact ⟨l, rfl⟩
    have hfn := b.lt f (List.mem_append_right _ (mem_of_head h1))
    rw [stp24 e]
    have hW : (storeA s.ar (cS (sv s.S h).a) (sv s.S h).b).W = s.ar.W.set (3 * f + 3) (vA A) := by rw [storeA_W, h3, stc_sp b.wl hfn, k.b (by rw [e]; decide)]
    have ws := wsetS b.wl hfn (vA A)
    rw [← hW] at ws
    obtain ⟨t1, t2⟩ := b.hand (bud := bud) (node := node) (w := s.wk) (p' := { sv s.S h with pc := 0 }) hR h2 (k.asd (by rw [e]; decide)) (k.asl (by rw [e]; decide)) k.ct0 k.ct ws.len ws.nx (by rw [ws.sp, fset_eq]) (fun u hu => by rw [ws.sp, fset_ne _ _ hu]) ws.la ws.tl ws.ct rfl
    exact gave b hR h2 t1 t2 (by rw [e]; rfl) rfl ws.ct
  · have hA := k.some2 (by rw [e]; decide)
    obtain ⟨a, l, h1, h2, h3⟩ := k.headB (by rw [e]; decide) hA
    have han := b.lt a (List.mem_append_left _ (mem_of_head h1))
    rw [stp25 e, show ldW s.ar.W (cL (sv s.S h).b) = cla s.ar.W a by rw [h3]; exact ldc_la b.wl han]
    exact goOn b (by rw [loadA_W]; exact b.same) (by rw [loadA_W]; exact k.c25 b e a h3 rfl rfl rfl rfl) (by omega) (g0 _ (by omega) (by omega) (by omega)) rfl (by show (10 : Int) ≤ 26; decide) rfl (by rw [loadA_W]; exact Int.le_refl _)
  · obtain ⟨l, hln, hc, hgo⟩ := k.c26 b e
    rw [stp26 e]
    have hW : (storeA s.ar (cN (sv s.S h).c) (sv s.S h).a).W = s.ar.W.set (3 * l + 2) (sv s.S h).a := by rw [storeA_W, hc, stc_nx b.wl hln]
    have ws := wsetN b.wl hln (sv s.S h).a
    rw [← hW] at ws
    obtain ⟨t1, t2⟩ := hgo _ { sv s.S h with pc := 27 } ws.len (by rw [ws.nx, fset_eq]) (fun u hu => by rw [ws.nx, fset_ne _ _ hu]) ws.sp ws.tl ws.ct rfl rfl
    exact goOn b t1 t2 (by omega) (g0 _ (by omega) (by omega) (by omega)) rfl (by show (10 : Int) ≤ 27; decide) rfl (by rw [ws.ct]; exact Int.le_refl _)
  · have hA := k.none_ (by rw [e]; decide)
    subst hA
    rw [stp27 e]
    have hW : (storeA s.ar 2 0).W = s.ar.W.set 1 0 := by rw [storeA_W, stc_ct b.wl]
    have ws := wsetC b.wl 0
    rw [← hW] at ws
    exact gives b (b.ctrl ws.len ws.nx (fun u _ => ws.sp u) ws.tl) (k.c27 b e hbud ws.ct rfl rfl) (by omega) (g0 _ (by omega) (by omega) (by omega)) rfl (by simp) (by rw [ws.ct]; exact Int.le_refl _) k.ct
  · have hA := k.none_ (by rw [e]; decide)
    subst hA
    obtain ⟨f, h1, h2, h3⟩ := k.leadB (.inr e)
    obtain ⟨R1, hR⟩ : ∃ R1, R = f :: R1 := by
      cases R with
      | nil => simp at h1
      | cons a l => simp at h1; subst h1; exact ⟨l, rfl⟩
    have hfn := b.lt f (List.mem_append_right _ (mem_of_head h1))
    rw [stp28 e]
    have hW : (storeA s.ar (cS (sv s.S h).b) (-1)).W = s.ar.W.set (3 * f + 3) (-1) := by rw [storeA_W, h3, stc_sp b.wl hfn]
    have ws := wsetS b.wl hfn (-1)
    rw [← hW] at ws
    obtain ⟨t1, t2⟩ := b.hand (bud := bud) (node := node) (w := s.wk) (p' := { sv s.S h with pc := 0 }) hR h2 (k.asd (by rw [e]; decide)) (k.asl (by rw [e]; decide)) k.ct0 k.ct ws.len ws.nx (by rw [ws.sp, fset_eq]; rfl) (fun u hu => by rw [ws.sp, fset_ne _ _ hu]) ws.la ws.tl ws.ct rfl
    exact gave b hR h2 t1 t2 (by rw [e]; rfl) rfl ws.ct
  · have hA := k.none_ (by rw [e]; decide)
    subst hA
    rw [stp29 e]
    have hW : (storeA s.ar 2 0).W = s.ar.W.set 1 0 := by rw [storeA_W, stc_ct b.wl]
    have ws := wsetC b.wl 0
    rw [← hW] at ws
    exact gives b (b.ctrl ws.len ws.nx (fun u _ => ws.sp u) ws.tl) (k.c29 b e hbud ws.ct rfl rfl) (by omega) (g0 _ (by omega) (by omega) (by omega)) rfl (by simp) (by rw [ws.ct]; exact Int.le_refl _) k.ct
  · have hA := k.none_ (by rw [e]; decide)
    subst hA
    obtain ⟨f, h1, h2, h3⟩ := k.leadA (by rw [e]; decide)
    obtain ⟨R1, hR⟩ : ∃ R1, R = f :: R1 := by
      cases R with
      | nil => simp at h1
      | cons a l => simp at h1; subst h1; exact ⟨l, rfl⟩
    have hfn := b.lt f (List.mem_append_right _ (mem_of_head h1))
    rw [stp30 e]
    have hW : (storeA s.ar (cS (sv s.S h).a) (-1)).W = s.ar.W.set (3 * f + 3) (-1) := by rw [storeA_W, h3, stc_sp b.wl hfn]
    have ws := wsetS b.wl hfn (-1)
    rw [← hW] at ws
    obtain ⟨t1, t2⟩ := b.hand (bud := bud) (node := node) (w := s.wk) (p' := { sv s.S h with pc := 0 }) hR h2 (k.asd (by rw [e]; decide)) (k.asl (by rw [e]; decide)) k.ct0 k.ct ws.len ws.nx (by rw [ws.sp, fset_eq]; rfl) (fun u hu => by rw [ws.sp, fset_ne _ _ hu]) ws.la ws.tl ws.ct rfl
    exact gave b hR h2 t1 t2 (by rw [e]; rfl) rfl ws.ct
/-- any step -/
theorem CIv.step (k : CIv n bud node s.ar.W s.wk s.S c) (hbud : 0 ≤ bud) (hb3 : bud ≤ 1000) (hi : i < n) (h0 : (sv s.S i).pc ≠ 0) (h10 : (sv s.S i).pc ≠ 10) : Out n bud node s c i (stepCp n node bud s i (sv s.S i)) := by
  cases c with
  | none => exact CFr.step k hi h0
  | some x =>
    obtain ⟨h, A, R⟩ := x
    obtain ⟨b, k⟩ := k
    by_cases e : i = h
    · subst e
      by_cases hlt : (sv s.S i).pc ≤ 16
      · exact b.head1 k h10 hlt
      · exact b.head2 k hbud hb3 (by omega)
    · by_cases hm : i ∈ A ++ R
      · exact b.stepWait k hm
      · exact b.stepOut k hbud hi e hm h0
end
end Go.Proofs.YtkdaiomjbkpedaaGreat
end
section
/- Layer 31 (cna): any act; one holder; who is passed. No program in sight. -/
namespace Go.Proofs.YtkdaiomjbkpedaaGreat
open Go

/-- all words and numbers are small -/
structure CBd (n : Nat) (s : Cn) : Prop where
  w : ∀ k, -1 ≤ s.ar.W.getD k 0 ∧ s.ar.W.getD k 0 ≤ 2000
  p : ∀ t, (-1 ≤ (sv s.S t).a ∧ (sv s.S t).a ≤ 2000) ∧ (-1 ≤ (sv s.S t).b ∧ (sv s.S t).b ≤ 2000) ∧ (-1 ≤ (sv s.S t).c ∧ (sv s.S t).c ≤ 2000)
  k : (0 ≤ s.wk.passed ∧ s.wk.passed ≤ n) ∧ (-1 ≤ s.wk.last ∧ s.wk.last ≤ 2000) ∧ (-1 ≤ s.wk.found ∧ s.wk.found ≤ 2000)
structure COk (n : Nat) (bud : Int) (node : Nat → Int) (s : Cn) (N : Nat) (c : Cfg) : Prop where
  iv : CIv n bud node s.ar.W s.wk s.S c
  bd : CBd n s
  ops : s.ar.ops ≤ N
section
variable {n N i : Nat} {bud : Int} {node : Nat → Int} {s : Cn} {c : Cfg}
theorem CIv.sl {W : List Int} {w : Wk} {S : List Sp} (k : CIv n bud node W w S c) : S.length = n := by
  cases c with
  | none => exact CFr.sl k
  | some x => exact k.1.sl
theorem CIv.wl {W : List Int} {w : Wk} {S : List Sp} (k : CIv n bud node W w S c) : W.length = 2 + 3 * n := by
  cases c with
  | none => exact CFr.wl k
  | some x => exact k.1.wl
theorem CIv.ct {W : List Int} {w : Wk} {S : List Sp} (k : CIv n bud node W w S c) : 0 ≤ cct W ∧ cct W ≤ bud := by
  cases c with
  | none => exact ⟨CFr.ct0 k, CFr.ct k⟩
  | some x => exact ⟨k.2.ct0, k.2.ct⟩
/-- where anybody may be -/
theorem CIv.pcs {W : List Int} {w : Wk} {S : List Sp} (k : CIv n bud node W w S c) (hi : i < n) : (0 ≤ (sv S i).pc ∧ (sv S i).pc ≤ 6) ∨ (10 ≤ (sv S i).pc ∧ (sv S i).pc ≤ 30) := by
  cases c with
  | none => have := (CFr.out k i hi).1; omega
  | some x =>
    obtain ⟨h, A, R⟩ := x
    by_cases e : i = h
    · subst e; have := k.2.pcs; omega
    · by_cases hm : i ∈ A ++ R
      · have := (k.1.wait i hm).2; omega
      · have := (k.1.out i hi e hm).1; omega
/-- who is further than 6 is the first one -/
theorem CIv.isHead {W : List Int} {w : Wk} {S : List Sp} (k : CIv n bud node W w S c) (hi : i < n) (h6 : 6 ≤ (sv S i).pc) : ∃ A R, c = some (i, A, R) := by
  cases c with
  | none => have := (CFr.out k i hi).1; omega
  | some x =>
    obtain ⟨h, A, R⟩ := x
    by_cases e : i = h
    · subst e; exact ⟨A, R, rfl⟩
    · by_cases hm : i ∈ A ++ R
      · have := (k.1.wait i hm).2; omega
      · have := (k.1.out i hi e hm).1; omega
theorem ldW_bd {W : List Int} {l u : Int} (h : ∀ k, l ≤ W.getD k 0 ∧ W.getD k 0 ≤ u) (hl : l ≤ 0) (hu : 0 ≤ u) (x : Int) : l ≤ ldW W x ∧ ldW W x ≤ u := by
  unfold ldW; split
  · exact h _
  · exact ⟨hl, hu⟩
theorem stW_bd {W : List Int} {l u : Int} (h : ∀ k, l ≤ W.getD k 0 ∧ W.getD k 0 ≤ u) {v : Int} (hv : l ≤ v ∧ v ≤ u) (x : Int) : ∀ k, l ≤ (stW W x v).getD k 0 ∧ (stW W x v).getD k 0 ≤ u := fun k => by
  unfold stW; split
  · rw [getD_set]; split
    · exact hv
    · exact h k
  · exact h k
theorem takeW_bd {w : Wk} {x : Int} (h : (0 ≤ w.passed ∧ w.passed ≤ n) ∧ (-1 ≤ w.last ∧ w.last ≤ 2000) ∧ (-1 ≤ w.found ∧ w.found ≤ 2000)) (hx : -1 ≤ x ∧ x ≤ 2000) : (0 ≤ (takeW n node w x).passed ∧ (takeW n node w x).passed ≤ n) ∧ (-1 ≤ (takeW n node w x).last ∧ (takeW n node w x).last ≤ 2000) ∧ (-1 ≤ (takeW n node w x).found ∧ (takeW n node w x).found ≤ 2000) := by
  unfold takeW
  split
  · exact h
  · rename_i hc
    split
    · exact ⟨h.1, h.2.1, hx⟩
    · exact ⟨by dsimp only; omega, hx, h.2.2⟩
set_option maxHeartbeats 800000 in
theorem CBd.step (b : CBd n s) (k : CIv n bud node s.ar.W s.wk s.S c) (hb3 : bud ≤ 1000) (hn : n ≤ 1000) (hi : i < n) (h0 : (sv s.S i).pc ≠ 0) (h10 : (sv s.S i).pc ≠ 10) : CBd n ⟨(stepCp n node bud s i (sv s.S i)).1, (stepCp n node bud s i (sv s.S i)).2.1, s.S.set i (stepCp n node bud s i (sv s.S i)).2.2⟩ := by
  have hl := ldW_bd b.w (by omega) (by omega)
  have hp := b.p i
  have hnum : -1 ≤ (i : Int) + 1 ∧ (i : Int) + 1 ≤ 2000 := by omega
  have hct := k.ct
  have hwl := k.wl
  have fin : ∀ (ar' : Ar) (w' : Wk) (p' : Sp), (∀ j, -1 ≤ ar'.W.getD j 0 ∧ ar'.W.getD j 0 ≤ 2000) → ((0 ≤ w'.passed ∧ w'.passed ≤ n) ∧ (-1 ≤ w'.last ∧ w'.last ≤ 2000) ∧ (-1 ≤ w'.found ∧ w'.found ≤ 2000)) →
      ((-1 ≤ p'.a ∧ p'.a ≤ 2000) ∧ (-1 ≤ p'.b ∧ p'.b ≤ 2000) ∧ (-1 ≤ p'.c ∧ p'.c ≤ 2000)) → CBd n ⟨ar', w', s.S.set i p'⟩ := fun ar' w' p' h1 h2 h3 => by
    refine ⟨h1, fun t => ?_, h2⟩
    show (-1 ≤ (sv (s.S.set i p') t).a ∧ _) ∧ _
    by_cases e : t = i
    · subst e; rw [sv_eq (by rw [k.sl]; exact hi)]; exact h3
    · rw [sv_ne e]; exact b.p t
  have add1 : ∀ j, -1 ≤ (addA s.ar 2 1).W.getD j 0 ∧ (addA s.ar 2 1).W.getD j 0 ≤ 2000 := by
    rw [addA_W, ldc_ct hwl]
    refine stW_bd b.w ?_ _
    rw [IntWalk.i64_in _ (by omega)]
    omega
  have W0 := b.w
  have K0 := b.k
  have hld : ∀ x, ∀ j, -1 ≤ (loadA s.ar x).W.getD j 0 ∧ (loadA s.ar x).W.getD j 0 ≤ 2000 := fun x => by rw [loadA_W]; exact W0
  have hst : ∀ x v, (-1 ≤ v ∧ v ≤ 2000) → ∀ j, -1 ≤ (storeA s.ar x v).W.getD j 0 ∧ (storeA s.ar x v).W.getD j 0 ≤ 2000 := fun x v hv => by rw [storeA_W]; exact stW_bd W0 hv x
  have hsw : ∀ x v, (-1 ≤ v ∧ v ≤ 2000) → ∀ j, -1 ≤ (swapA s.ar x v).W.getD j 0 ∧ (swapA s.ar x v).W.getD j 0 ≤ 2000 := fun x v hv => by rw [swapA_W]; exact stW_bd W0 hv x
  have hca : ∀ x o v, (-1 ≤ v ∧ v ≤ 2000) → ∀ j, -1 ≤ (casA s.ar x o v).W.getD j 0 ∧ (casA s.ar x o v).W.getD j 0 ≤ 2000 := fun x o v hv => by
    rw [casA_W]; split
    · exact stW_bd W0 hv x
    · exact W0
  have e : (sv s.S i).pc = 1 ∨ (sv s.S i).pc = 2 ∨ (sv s.S i).pc = 3 ∨ (sv s.S i).pc = 4 ∨ (sv s.S i).pc = 5 ∨ (sv s.S i).pc = 6 ∨ (sv s.S i).pc = 11 ∨ (sv s.S i).pc = 12 ∨ (sv s.S i).pc = 13 ∨ (sv s.S i).pc = 14 ∨ (sv s.S i).pc = 15 ∨ (sv s.S i).pc = 16 ∨ (sv s.S i).pc = 17 ∨ (sv s.S i).pc = 18 ∨ (sv s.S i).pc = 19 ∨ (sv s.S i).pc = 20 ∨ (sv s.S i).pc = 21 ∨ (sv s.S i).pc = 22 ∨ (sv s.S i).pc = 23 ∨ (sv s.S i).pc = 24 ∨ (sv s.S i).pc = 25 ∨ (sv s.S i).pc = 26 ∨ (sv s.S i).pc = 27 ∨ (sv s.S i).pc = 28 ∨ (sv s.S i).pc = 29 ∨ (sv s.S i).pc = 30 := by have := k.pcs hi; omega
  have hnum' : -1 ≤ num i ∧ num i ≤ 2000 := hnum
  rcases e with e | e | e | e | e | e | e | e | e | e | e | e | e | e | e | e | e | e | e | e | e | e | e | e | e | e
  · rw [stp1 e]; exact fin _ _ _ (hst _ _ (by omega)) K0 hp
  · rw [stp2 e]; exact fin _ _ _ (hst _ _ (by omega)) K0 hp
  · rw [stp3 e]; exact fin _ _ _ (hsw _ _ hnum') K0 ⟨hl _, hp.2⟩
  · rw [stp4 e]; exact fin _ _ _ (hst _ _ hnum') K0 hp
  · rw [stp5 e]; exact fin _ _ _ (hld _) K0 ⟨hl _, hp.2⟩
  · rw [stp6 e]; exact fin _ _ _ (hst _ _ (by omega)) K0 hp
  · rw [stp11 e]; exact fin _ _ _ (hld _) K0 ⟨hp.1, hl _, hp.2.2⟩
  · rw [stp12 e]; exact fin _ _ _ (hld _) K0 ⟨hl _, hp.2⟩
  · rw [stp13 e]; exact fin _ _ _ (hca _ _ _ (by omega)) K0 hp
  · rw [stp14 e]; exact fin _ _ _ (hld _) K0 ⟨hp.1, hp.2.1, hl _⟩
  · rw [stp15 e]; exact fin _ _ _ (hca _ _ _ hp.2.2) K0 hp
  · rw [stp16 e]; exact fin _ _ _ (hld _) K0 ⟨hl _, hp.2⟩
  · rw [stp17 e]
    split
    · exact fin _ _ _ (hld _) K0 ⟨hp.1, hp.2.1, hl _⟩
    · refine fin _ _ _ (hld _) (takeW_bd ?_ hp.1) ⟨hp.1, hp.2.1, hl _⟩
      dsimp only
      omega
  · obtain ⟨A, R, rfl⟩ := k.isHead hi (by omega)
    rw [stp18 e (k.2.walk e).1]
    refine fin _ _ _ (hld _) (takeW_bd K0 (hl _)) ?_
    unfold frontC
    split
    · exact hp
    · split
      · exact hp
      · exact hp
  · rw [stp19 e]
    refine fin _ _ _ (hst _ _ (by omega)) K0 ?_
    split
    · exact hp
    · exact ⟨hp.1, hp.1, hp.2.2⟩
  · rw [stp20 e]; exact fin _ _ _ (hld _) K0 ⟨hp.1, hp.2.1, hl _⟩
  · rw [stp21 e]; exact fin _ _ _ (hst _ _ hp.1) K0 hp
  · rw [stp22 e]; exact fin _ _ _ (hst _ _ K0.2.1) K0 ⟨K0.2.2, hp.2⟩
  · rw [stp23 e]; exact fin _ _ _ add1 K0 hp
  · rw [stp24 e]; exact fin _ _ _ (hst _ _ hp.2.1) K0 hp
  · rw [stp25 e]; exact fin _ _ _ (hld _) K0 ⟨hp.1, hp.2.1, hl _⟩
  · rw [stp26 e]; exact fin _ _ _ (hst _ _ hp.1) K0 hp
  · rw [stp27 e]; exact fin _ _ _ (hst _ _ (by omega)) K0 hp
  · rw [stp28 e]; exact fin _ _ _ (hst _ _ (by omega)) K0 hp
  · rw [stp29 e]; exact fin _ _ _ (hst _ _ (by omega)) K0 hp
  · rw [stp30 e]; exact fin _ _ _ (hst _ _ (by omega)) K0 hp
theorem ite_ops {α : Type} {K : Nat} {q : Prop} [Decidable q] {a b : Ar × α} (h1 : a.1.ops ≤ K) (h2 : b.1.ops ≤ K) : (if q then a else b).1.ops ≤ K := by split <;> assumption
theorem inC_ops (s : Ar) (x : Int) (p : Sp) : (inC s x p).1.ops ≤ s.ops + 1 := by
  unfold inC
  repeat' apply ite_ops
  all_goals first
    | exact storeA_ops _ _ _
    | exact swapA_ops _ _ _
    | exact loadA_ops _ _
theorem endsC_ops (s : Ar) (x : Int) (p : Sp) : (endsC s x p).1.ops ≤ s.ops + 1 := by
  unfold endsC
  repeat' apply ite_ops
  all_goals first
    | exact loadA_ops _ _
    | exact casA_ops _ _ _ _
theorem looksC_ops (s : Ar) (w : Wk) (i : Nat) (p : Sp) : (looksC n node bud s w i p).1.ops ≤ s.ops + 1 := by
  unfold looksC
  repeat' apply ite_ops
  all_goals first
    | exact loadA_ops _ _
    | exact Nat.le_succ _
theorem asideC_ops (s : Ar) (w : Wk) (p : Sp) : (asideC s w p).1.ops ≤ s.ops + 1 := by
  unfold asideC
  repeat' apply ite_ops
  all_goals first
    | exact storeA_ops _ _ _
    | exact loadA_ops _ _
    | exact addA_ops _ _ _
theorem stepCp_ops (s : Cn) (i : Nat) (p : Sp) : (stepCp n node bud s i p).1.ops ≤ s.ar.ops + 1 := by
  unfold stepCp
  split
  · exact inC_ops _ _ _
  · split
    · exact endsC_ops _ _ _
    · split
      · exact looksC_ops _ _ _ _
      · exact asideC_ops _ _ _
theorem COk.le (k : COk n bud node s N c) {M : Nat} (hM : N ≤ M) : COk n bud node s M c := ⟨k.iv, k.bd, by have := k.ops; omega⟩
/-- any step, as the program takes it -/
theorem COk.stepI (k : COk n bud node s N c) (hbud : 0 ≤ bud) (hb3 : bud ≤ 1000) (hn : n ≤ 1000) (I : Int) : ∃ c', COk n bud node (stepC n node bud s I).1 (N + 1) c' ∧ (((stepC n node bud s I).1 = s ∧ c' = c ∧ ¬ (okI s.S I ∧ (getS s.S I).pc ≠ 0 ∧ (getS s.S I).pc ≠ 10)) ∨
    ∃ (j : Nat), j < n ∧ I = j ∧ (sv s.S j).pc ≠ 0 ∧ (sv s.S j).pc ≠ 10 ∧ (stepC n node bud s I).1 = ⟨(stepCp n node bud s j (sv s.S j)).1, (stepCp n node bud s j (sv s.S j)).2.1, s.S.set j (stepCp n node bud s j (sv s.S j)).2.2⟩ ∧
      StC n bud s.ar.W (stepC n node bud s I).1.ar.W s.S (stepC n node bud s I).1.S c c' j (sv s.S j) (stepCp n node bud s j (sv s.S j)).2.2) ∧ (stepC n node bud s I).1.ar.ops ≤ s.ar.ops + 1 := by
  unfold stepC
  by_cases hc : okI s.S I ∧ (getS s.S I).pc ≠ 0 ∧ (getS s.S I).pc ≠ 10
  · rw [if_pos hc]
    obtain ⟨⟨h0, h1⟩, hp0, hp10⟩ := hc
    obtain ⟨j, rfl⟩ := Int.eq_ofNat_of_zero_le h0
    have hj : j < s.S.length := by omega
    have hjn : j < n := by rw [← k.iv.sl]; exact hj
    rw [getS_nat hj] at hp0 hp10 ⊢
    simp only [Int.toNat_natCast]
    obtain ⟨c', h2, h3⟩ := k.iv.step hbud hb3 hjn hp0 hp10
    refine ⟨c', ⟨h2, k.bd.step k.iv hb3 hn hjn hp0 hp10, ?_⟩, .inr ⟨j, hjn, rfl, hp0, hp10, rfl, h3⟩, stepCp_ops s j _⟩
    have := stepCp_ops (n := n) (node := node) (bud := bud) s j (sv s.S j)
    have := k.ops
    show (stepCp n node bud s j (sv s.S j)).1.ops ≤ N + 1
    omega
  · rw [if_neg hc]
    exact ⟨c, k.le (by omega), .inl ⟨rfl, rfl, hc⟩, Nat.le_succ _⟩
theorem COk.bset (k : COk n bud node s N c) {u : Int} {j : Nat} (hj : j < n) : CBd n ⟨s.ar, s.wk, s.S.set j { sv s.S j with pc := u }⟩ := by
  refine ⟨k.bd.w, fun t => ?_, k.bd.k⟩
  show (-1 ≤ (sv (s.S.set j { sv s.S j with pc := u }) t).a ∧ _) ∧ _
  by_cases e : t = j
  · subst e; rw [sv_eq (by rw [k.iv.sl]; exact hj)]; exact k.bd.p t
  · rw [sv_ne e]; exact k.bd.p t
/-- it asks -/
theorem COk.ask (k : COk n bud node s N c) {j : Nat} (hj : j < n) (h0 : (sv s.S j).pc = 0) : COk n bud node ⟨s.ar, s.wk, s.S.set j { sv s.S j with pc := 1 }⟩ N c ∧ effL (s.S.set j { sv s.S j with pc := 1 }) c = effL s.S c ∧ effE (s.S.set j { sv s.S j with pc := 1 }) c = effE s.S c ∧ (∀ h A R, c = some (h, A, R) → j ≠ h) := by
  have hb := k.bset (u := 1) hj
  cases c with
  | none =>
    have b : CFr n bud s.ar.W s.S := k.iv
    exact ⟨⟨b.outs hj rfl (fun _ _ => rfl) (fun _ _ => rfl) rfl rfl ⟨⟨by show (0 : Int) ≤ 1; decide, by show (1 : Int) ≤ 3; decide⟩, fun h => absurd h (by show ¬ (2 : Int) ≤ 1; decide), fun h => absurd h (by show ¬ (1 : Int) = 3; decide)⟩, hb, k.ops⟩, rfl, rfl, fun _ _ _ h => by cases h⟩
  | some x =>
    obtain ⟨h, A, R⟩ := x
    obtain ⟨b, kk⟩ := k.iv
    have hne : j ≠ h := fun e => by have := kk.pcs; rw [← e] at this; omega
    have hni : j ∉ A ++ R := fun hm => by have := (b.wait j hm).2; omega
    have hh : sv (s.S.set j { sv s.S j with pc := 1 }) h = sv s.S h := sv_ne (Ne.symm hne)
    obtain ⟨q1, q2⟩ := effL_out (s := s) (A := A) (R := R) (p' := { sv s.S j with pc := 1 }) hne
    exact ⟨⟨⟨b.outs hj hne hni rfl (fun _ _ => rfl) (fun _ _ => rfl) rfl ⟨⟨by show (0 : Int) ≤ 1; decide, by show (1 : Int) ≤ 3; decide⟩, fun h => absurd h (by show ¬ (2 : Int) ≤ 1; decide), fun h => absurd h (by show ¬ (1 : Int) = 3; decide)⟩, by
      show CPh n bud node s.ar.W s.wk _ h A R (sv (s.S.set j { sv s.S j with pc := 1 }) h)
      rw [hh]; exact kk.outs hne hni (fun _ _ => rfl) (fun _ _ => rfl) (fun _ => rfl) rfl⟩, hb, k.ops⟩, q1, q2, fun h2 A2 R2 e => by injection e with e; injection e with e _; exact e ▸ hne⟩
/-- it leaves -/
theorem COk.leave (k : COk n bud node s N c) {j : Nat} (hj : j < n) (h0 : (sv s.S j).pc = 10) : COk n bud node ⟨s.ar, s.wk, s.S.set j { sv s.S j with pc := 11 }⟩ N c ∧ effL (s.S.set j { sv s.S j with pc := 11 }) c = effL s.S c ∧ effE (s.S.set j { sv s.S j with pc := 11 }) c = effE s.S c := by
  have hb := k.bset (u := 11) hj
  obtain ⟨A, R, rfl⟩ := k.iv.isHead hj (by omega)
  obtain ⟨b, kk⟩ := k.iv
  have hh : sv (s.S.set j { sv s.S j with pc := 11 }) j = { sv s.S j with pc := 11 } := sv_eq (by rw [b.sl]; exact hj)
  refine ⟨⟨⟨b.same, ?_⟩, hb, k.ops⟩, ?_, ?_⟩
  · show CPh n bud node s.ar.W s.wk _ j A R (sv (s.S.set j { sv s.S j with pc := 11 }) j)
    rw [hh]; exact kk.c10 b h0 rfl
  · rw [effL_h hh]
    simp only [effL, h0]
    rfl
  · rw [effE_h hh]
    simp only [effE, h0]
    rfl
theorem COk.hold1 (k : COk n bud node s N c) {a b : Nat} (ha : a < n) (hb : b < n) (h1 : (sv s.S a).pc = 10) (h2 : (sv s.S b).pc = 10) : a = b := by
  obtain ⟨A, R, e1⟩ := k.iv.isHead ha (by omega)
  obtain ⟨A', R', e2⟩ := k.iv.isHead hb (by omega)
  rw [e1] at e2
  injection e2 with e2
  injection e2
end
/- who is passed -/
def CPInv (n : Nat) (bud ct : Int) (L : List Nat) (e : Int) (P : Nat → Int) : Prop := ∀ k, k < n → 0 ≤ P k ∧ (k ∈ L → P k + Psi bud ct L e k ≤ n - 1 + n * bud)
def cP1 (P : Nat → Int) (was now : Int) (u : Nat) : Nat → Int := fun a => if (was = 3 ∧ now ≠ 3) ∧ a = u then 0 else P a
/-- behind an act of u; pcs are those of all behind it -/
def cP2 (P : Nat → Int) (was now : Int) (u : Nat) (pcs : Nat → Int) : Nat → Int := fun a => if (was < 10 ∧ now = 10) ∧ a ≠ u ∧ 3 < pcs a ∧ pcs a < 10 then cP1 P was now u a + 1 else cP1 P was now u a
section
variable {n N : Nat} {bud : Int} {node : Nat → Int} {W W' : List Int} {S S' : List Sp} {c c' : Cfg} {j : Nat} {p p' : Sp} {P : Nat → Int}
theorem Psi_top {ct e : Int} {L : List Nat} {k : Nat} (hb : 0 ≤ bud) (hct : 0 ≤ ct) (he : e ≤ 1) (hi : L.idxOf k + 2 ≤ n) : Psi bud ct L e k ≤ n - 1 + n * bud := by
  unfold Psi
  have h1 : (L.idxOf k : Int) * (bud + 1) ≤ ((n : Int) - 2) * (bud + 1) := Int.mul_le_mul_of_nonneg_right (by omega) (by omega)
  have h2 : ((n : Int) - 2) * (bud + 1) = n * bud + n - 2 * bud - 2 := by
    rw [Int.sub_mul, Int.mul_add, Int.mul_one]; omega
  omega
theorem effE_le (S : List Sp) (c : Cfg) : 0 ≤ effE S c ∧ effE S c ≤ 1 := by
  cases c with
  | none => exact ⟨Int.le_refl _, by show (0 : Int) ≤ 1; decide⟩
  | some x =>
    obtain ⟨h, A, R⟩ := x
    simp only [effE]
    split <;> omega
theorem Psi_ge {ct e : Int} {L : List Nat} {k : Nat} (hb : 0 ≤ bud) (hct : ct ≤ bud) (he : 0 ≤ e) : 0 ≤ Psi bud ct L e k := by
  unfold Psi
  have : 0 ≤ (L.idxOf k : Int) * (bud + 1) := Int.mul_nonneg (by omega) (by omega)
  omega
theorem CPInv.step (s : StC n bud W W' S S' c c' j p p') (hb : 0 ≤ bud) (hct : 0 ≤ cct W' ∧ cct W' ≤ bud) (h : CPInv n bud (cct W) (effL S c) (effE S c) P) :
    CPInv n bud (cct W') (effL S' c') (effE S' c') (cP2 P p.pc p'.pc j fun a => (sv S' a).pc) ∧ (p.pc < 10 → p'.pc = 10 → ∀ k, k < n → k ≠ j → 3 < (sv S' k).pc → (sv S' k).pc < 10 → cP2 P p.pc p'.pc j (fun a => (sv S' a).pc) k ≤ n - 1 + n * bud) := by
  have hE := effE_le S' c'
  have main : ∀ k, k < n → 0 ≤ cP2 P p.pc p'.pc j (fun a => (sv S' a).pc) k ∧ (k ∈ effL S' c' → cP2 P p.pc p'.pc j (fun a => (sv S' a).pc) k + Psi bud (cct W') (effL S' c') (effE S' c') k ≤ n - 1 + n * bud) := fun k hk => by
    obtain ⟨h0, h1⟩ := h k hk
    have e0 : 0 ≤ cP1 P p.pc p'.pc j k := by unfold cP1; split <;> omega
    refine ⟨by unfold cP2; split <;> omega, fun hm => ?_⟩
    by_cases c3 : p.pc = 3
    · obtain ⟨d1, d2, d3⟩ := s.door c3
      have e2 : cP2 P p.pc p'.pc j (fun a => (sv S' a).pc) k = if k = j then 0 else P k := by
        unfold cP2 cP1
        rw [if_neg (by omega)]
        by_cases e : k = j
        · rw [if_pos ⟨⟨c3, by omega⟩, e⟩, if_pos e]
        · rw [if_neg (fun h => e h.2), if_neg e]
      rw [e2]
      by_cases e : k = j
      · rw [if_pos e]
        subst e
        rcases d2 with d2 | d2
        · have := Psi_top hb hct.1 hE.2 d2
          omega
        · exact absurd hm d2
      · rw [if_neg e]
        rcases d3 k hm with d4 | ⟨d4, d5⟩
        · exact absurd d4 e
        · have := h1 d4
          omega
    · have e1 : cP1 P p.pc p'.pc j k = P k := by unfold cP1; rw [if_neg (fun h => c3 h.1.1)]
      obtain ⟨d1, d2⟩ := s.line c3 k hm
      have d3 := h1 d1
      by_cases ce : p.pc < 10 ∧ p'.pc = 10
      · have he : entC p p' = true := by unfold entC; rw [decide_eq_true ce.1, decide_eq_true ce.2]; rfl
        rw [he] at d2
        simp only [if_true] at d2
        have : cP2 P p.pc p'.pc j (fun a => (sv S' a).pc) k ≤ P k + 1 := by unfold cP2; rw [e1]; split <;> omega
        omega
      · have : cP2 P p.pc p'.pc j (fun a => (sv S' a).pc) k = P k := by unfold cP2; rw [if_neg (fun h => ce h.1), e1]
        split at d2 <;> omega
  refine ⟨main, fun h1 h2 k hk hne h3 h4 => ?_⟩
  have he : entC p p' = true := by unfold entC; rw [decide_eq_true h1, decide_eq_true h2]; rfl
  have hm := s.all_ he k hk hne h3 h4
  have := (main k hk).2 hm
  have := Psi_ge (L := effL S' c') (k := k) hb hct.2 hE.1
  omega
theorem CPInv.start (n : Nat) (bud ct e : Int) : CPInv n bud ct [] e fun _ => 0 := fun k _ => ⟨Int.le_refl _, fun h => by simp at h⟩
end
end Go.Proofs.YtkdaiomjbkpedaaGreat
end
section
/- Layer 29 (hclh): in turn, all come to rest. No program in sight. -/
namespace Go.Proofs.YtkdaiomjbkpedaaGreat
open Go

def wgt (p : Sp) : Nat := if p.pc = 1 then 9 else if p.pc = 2 then 5 + p.b.toNat else if p.pc = 3 then 5 else if p.pc = 4 then 4 else if p.pc = 5 then 3 else if p.pc = 10 then 2 else if p.pc = 11 then 1 else 0
def wsum (f : Sp → Nat) (S : List Sp) : Nat := (S.map f).sum
section
variable {f : Sp → Nat} {S : List Sp} {i : Nat} {p' : Sp}
theorem wsum_set (hi : i < S.length) : wsum f (S.set i p') + f (sv S i) = wsum f S + f p' := by
  induction S generalizing i with
  | nil => simp at hi
  | cons a S ih =>
    cases i with
    | zero => simp [wsum, sv]; omega
    | succ i =>
      have := ih (i := i) (by simpa using hi)
      have e : sv (a :: S) (i + 1) = sv S i := rfl
      rw [e]
      simp only [wsum, List.set_cons_succ, List.map_cons, List.sum_cons] at this ⊢
      omega
theorem wsum_le (B : Nat) (h : ∀ j, j < S.length → f (sv S j) ≤ B) : wsum f S ≤ S.length * B := by
  induction S with
  | nil => simp [wsum]
  | cons a S ih =>
    have h0 : f a ≤ B := h 0 (by simp)
    have := ih fun j hj => h (j + 1) (by simpa using hj)
    simp only [wsum, List.map_cons, List.sum_cons, List.length_cons] at this ⊢
    rw [Nat.succ_mul]; omega
theorem wsum_mem (hi : i < S.length) : f (sv S i) ≤ wsum f S := by
  induction S generalizing i with
  | nil => simp at hi
  | cons a S ih =>
    cases i with
    | zero => simp [wsum, sv]
    | succ i =>
      have := ih (i := i) (by simpa using hi)
      have e : sv (a :: S) (i + 1) = sv S i := rfl
      rw [e]
      simp only [wsum, List.map_cons, List.sum_cons] at this ⊢
      omega
end
/-- one that moves when it is its turn to step -/
def Mov (S : List Sp) (Q : List Nat) (u : Nat) : Prop := (sv S u).pc = 1 ∨ (sv S u).pc = 2 ∨ (sv S u).pc = 3 ∨ (sv S u).pc = 4 ∨ (sv S u).pc = 10 ∨ (sv S u).pc = 11 ∨ ((sv S u).pc = 5 ∧ Q.head? = some u)
section
variable {nd n N i : Nat} {dl : Int} {node : Nat → Nat} {h : Hc} {G : Nat → List Nat}
theorem HOk.wle (k : HOk nd n dl node h N G) (hd : dl ≤ 3) (hi : i < n) : wgt (sv h.S i) ≤ 9 := by
  unfold wgt
  have := k.bb i hi
  repeat' split
  all_goals omega
theorem HOk.wz (k : HOk nd n dl node h N G) (hi : i < n) (hz : wgt (sv h.S i) = 0) : (sv h.S i).pc = 0 := by
  unfold wgt at hz
  have := k.pcs hi
  repeat' split at hz
  all_goals omega
theorem HOk.someMov (k : HOk nd n dl node h N G) : (∀ t, t < n → (sv h.S t).pc = 0) ∨ ∃ u, u < n ∧ Mov h.S (G 0) u := by
  rcases Classical.em (∀ t, t < n → (sv h.S t).pc = 0) with e | e
  · exact .inl e
  · refine .inr ?_
    obtain ⟨t, ht⟩ := Classical.not_forall.1 e
    obtain ⟨htn, hp⟩ := Classical.not_imp.1 ht
    rcases k.pcs htn with h0 | h0 | h0 | h0 | h0 | h0 | h0 | h0
    · exact absurd h0 hp
    · exact ⟨t, htn, .inl h0⟩
    · exact ⟨t, htn, .inr (.inl h0)⟩
    · exact ⟨t, htn, .inr (.inr (.inl h0))⟩
    · exact ⟨t, htn, .inr (.inr (.inr (.inl h0)))⟩
    · rcases k.iv.at5 htn h0 with ⟨j, p, h1, h2, _⟩ | ⟨h1, _⟩
      · cases j with
        | zero =>
          cases hg : G 0 with
          | nil => rw [hg] at h2; simp at h2
          | cons a l =>
            have hh : (G 0).head? = some a := by rw [hg]; rfl
            have han := k.iv.lt 0 a (mem_of_head hh)
            refine ⟨a, han, ?_⟩
            rcases k.iv.front a hh with ⟨h3, _⟩ | h3 | h3
            · exact .inr (.inr (.inr (.inr (.inr (.inr ⟨h3, rfl⟩)))))
            · exact .inr (.inr (.inr (.inr (.inl h3))))
            · exact .inr (.inr (.inr (.inr (.inr (.inl h3)))))
        | succ m =>
          have hne : G (m + 1) ≠ [] := by intro e; rw [e] at h2; simp at h2
          have hmn := k.iv.lt _ m (mem_of_head (k.iv.first m hne))
          refine ⟨m, hmn, ?_⟩
          rcases k.iv.mast m hne with ⟨⟨h3, _⟩ | h3, _⟩ | ⟨h3, _⟩
          · exact .inr (.inl h3)
          · exact .inr (.inr (.inl h3))
          · exact .inr (.inr (.inr (.inl h3)))
      · exact ⟨t, htn, .inr (.inr (.inr (.inr (.inr (.inr ⟨h0, h1⟩)))))⟩
    · exact ⟨t, htn, .inr (.inr (.inr (.inr (.inl h0))))⟩
    · exact ⟨t, htn, .inr (.inr (.inr (.inr (.inr (.inl h0)))))⟩
/-- a step and a leave of i: no weight more, less if i moves; whoever else moves still does -/
theorem HOk.turn (k : HOk nd n dl node h N G) (hN : N < 1000000) (hd : dl ≤ 3) (hi : i < n) (h1 h2 : Hc) (e1 : h1 = (stepH nd n dl node h i).1) (e2 : h2 = (beginH h1 i 10 11).1) :
    ∃ G', HOk nd n dl node h2 (N + 1) G' ∧ wsum wgt h2.S ≤ wsum wgt h.S ∧ (Mov h.S (G 0) i → wsum wgt h2.S < wsum wgt h.S) ∧ (∀ u, u < n → u ≠ i → Mov h.S (G 0) u → Mov h2.S (G' 0) u) := by
  obtain ⟨G', k1, hs, _⟩ := k.stepI hN i
  rw [← e1] at k1 hs
  obtain ⟨k2, hb, _⟩ := k1.beginI i 10 11 (.inr ⟨rfl, rfl⟩)
  rw [← e2] at k2 hb
  have hl : i < h.S.length := by rw [k.iv.sl]; exact hi
  have hl1 : i < h1.S.length := by rw [k1.iv.sl]; exact hi
  have w2 : wsum wgt h2.S ≤ wsum wgt h1.S ∧ ((sv h1.S i).pc = 10 → wsum wgt h2.S < wsum wgt h1.S) ∧ (∀ u, u ≠ i → sv h2.S u = sv h1.S u) := by
    rcases hb with ⟨rfl, hb⟩ | ⟨j, hj, hij, h3, h4⟩
    · refine ⟨Nat.le_refl _, fun h3 => absurd ?_ hb, fun _ _ => rfl⟩
      refine ⟨⟨by omega, by omega⟩, ?_⟩
      rw [getS_nat hl1]; exact h3
    · obtain rfl : i = j := by omega
      have := wsum_set (f := wgt) (p' := { sv h1.S i with pc := 11 }) hl1
      have f1 : wgt (sv h1.S i) = 2 := by unfold wgt; simp [h3]
      have f2 : wgt ({ sv h1.S i with pc := 11 } : Sp) = 1 := rfl
      rw [h4]
      refine ⟨by omega, fun _ => by omega, fun u hu => sv_ne hu⟩
  rcases hs with ⟨rfl, rfl, hg⟩ | ⟨j, p', hj, hij, hS, s⟩
  · refine ⟨G', k2, w2.1, fun hm => ?_, fun u _ hu hm => ?_⟩
    · refine w2.2.1 ?_
      have hg' : ¬ goesH (sv h1.S i) = true := fun h3 => hg ⟨⟨by omega, by omega⟩, by rw [getS_nat hl]; exact h3⟩
      rw [goes_iff] at hg'
      unfold Mov at hm
      omega
    · unfold Mov; rw [w2.2.2 u hu]; exact hm
  · obtain rfl : i = j := by omega
    have hii : sv h1.S i = p' := by rw [hS]; exact sv_eq hl
    have hwle : wgt p' ≤ wgt (sv h.S i) ∧ (Mov h.S (G 0) i → wgt p' < wgt (sv h.S i)) := by
      have hb1 := k1.bb i hi
      rw [hii] at hb1
      by_cases h5 : (sv h.S i).pc = 5
      · have f1 : wgt (sv h.S i) = 3 := by unfold wgt; simp [h5]
        rw [f1]
        have hp : p'.pc = 5 ∨ p'.pc = 10 := by have := s.next; omega
        rcases hp with hp | hp
        · have f2 : wgt p' = 3 := by unfold wgt; simp [hp]
          refine ⟨by omega, fun hm => ?_⟩
          have hh : (G 0).head? = some i := by
            rcases hm with h3 | h3 | h3 | h3 | h3 | h3 | h3
            · omega
            · omega
            · omega
            · omega
            · omega
            · omega
            · exact h3.2
          have := s.look h5 hh
          omega
        · have f2 : wgt p' = 2 := by unfold wgt; simp [hp]
          exact ⟨by omega, fun _ => by omega⟩
      · have hlt : wgt p' < wgt (sv h.S i) := by
          rcases s.next with h3 | h3 | h3 | h3 | h3 | h3 | h3
          · obtain ⟨h4, h6, h7⟩ := s.less h5 h3
            have f1 : wgt p' = 5 + p'.b.toNat := by unfold wgt; simp [h4]
            have f2 : wgt (sv h.S i) = 5 + (sv h.S i).b.toNat := by unfold wgt; rw [if_neg (by omega), if_pos (by omega)]
            omega
          · have f1 : wgt (sv h.S i) = 9 := by unfold wgt; simp [h3.1]
            rw [f1]
            unfold wgt
            repeat' split
            all_goals omega
          · have f1 : wgt p' = 5 := by unfold wgt; simp [h3.2]
            have f2 : wgt (sv h.S i) = 5 + (sv h.S i).b.toNat := by unfold wgt; simp [h3.1]
            have := k.iv.mast i (ne_of_head (k.iv.at234 hi (.inl h3.1)))
            omega
          · have f1 : wgt p' = 4 := by unfold wgt; simp [h3.2]
            have f2 : wgt (sv h.S i) = 5 := by unfold wgt; simp [h3.1]
            omega
          · have f2 : wgt (sv h.S i) = 4 := by unfold wgt; simp [h3.1]
            rcases h3.2 with h4 | h4
            · have f1 : wgt p' = 3 := by unfold wgt; simp [h4]
              omega
            · have f1 : wgt p' = 2 := by unfold wgt; simp [h4]
              omega
          · omega
          · have f1 : wgt p' = 0 := by unfold wgt; simp [h3.2]
            have f2 : wgt (sv h.S i) = 1 := by unfold wgt; simp [h3.1]
            omega
        exact ⟨by omega, fun _ => hlt⟩
    have hw := wsum_set (f := wgt) (p' := p') hl
    rw [← hS] at hw
    refine ⟨G', k2, by omega, fun hm => by have := hwle.2 hm; omega, fun u hun hu hm => ?_⟩
    have hu1 : sv h1.S u = sv h.S u := by rw [hS]; exact sv_ne hu
    unfold Mov
    rw [w2.2.2 u hu, hu1]
    have hm' := hm
    rcases hm with h3 | h3 | h3 | h3 | h3 | h3 | ⟨h3, h4⟩
    · exact .inl h3
    · exact .inr (.inl h3)
    · exact .inr (.inr (.inl h3))
    · exact .inr (.inr (.inr (.inl h3)))
    · exact .inr (.inr (.inr (.inr (.inl h3))))
    · exact .inr (.inr (.inr (.inr (.inr (.inl h3)))))
    · refine .inr (.inr (.inr (.inr (.inr (.inr ⟨h3, ?_⟩)))))
      by_cases c4 : (sv h.S i).pc = 4
      · obtain ⟨⟨r, hr⟩, _⟩ := s.splice c4
        rw [hr]
        cases hg : G 0 with
        | nil => rw [hg] at h4; simp at h4
        | cons a l => rw [hg] at h4; simpa using h4
      · by_cases c11 : (sv h.S i).pc = 11
        · have := (s.gone c11).1
          rw [h4] at this
          injection this with this
          exact absurd this hu
        · rw [s.stay c4 c11]; exact h4
/-- within a round: less than ahead of it, or somebody who moves is still to step, or all are at rest -/
def RdI (n : Nat) (S : List Sp) (Q : List Nat) (M i : Nat) : Prop := (wsum wgt S = 0) ∨ wsum wgt S < M ∨ (wsum wgt S ≤ M ∧ ∃ u, i ≤ u ∧ u < n ∧ Mov S Q u)
theorem HOk.rd0 (k : HOk nd n dl node h N G) : RdI n h.S (G 0) (wsum wgt h.S) 0 := by
  rcases k.someMov with h0 | ⟨u, hu, hm⟩
  · refine .inl ?_
    have := wsum_le (f := wgt) (S := h.S) 0 fun j hj => by
      have := h0 j (by rw [← k.iv.sl]; exact hj)
      unfold wgt; simp [this]
    simpa using this
  · exact .inr (.inr ⟨Nat.le_refl _, u, Nat.zero_le _, hu, hm⟩)
theorem HOk.rdNext (k : HOk nd n dl node h N G) (hN : N < 1000000) (hd : dl ≤ 3) (hi : i < n) {M : Nat} (hr : RdI n h.S (G 0) M i) (h1 h2 : Hc) (e1 : h1 = (stepH nd n dl node h i).1) (e2 : h2 = (beginH h1 i 10 11).1) :
    ∃ G', HOk nd n dl node h2 (N + 1) G' ∧ RdI n h2.S (G' 0) M (i + 1) := by
  obtain ⟨G', k', w1, w2, w3⟩ := k.turn hN hd hi h1 h2 e1 e2
  refine ⟨G', k', ?_⟩
  rcases hr with h0 | h0 | ⟨h0, u, hu, hun, hm⟩
  · exact .inl (by omega)
  · exact .inr (.inl (by omega))
  · by_cases e : u = i
    · subst e
      have := w2 hm
      exact .inr (.inl (by omega))
    · exact .inr (.inr ⟨by omega, u, by omega, hun, w3 u hun e hm⟩)
theorem RdI.last {S : List Sp} {Q : List Nat} {M : Nat} (h : RdI n S Q M n) : wsum wgt S = 0 ∨ wsum wgt S < M := by
  rcases h with h0 | h0 | ⟨_, u, hu, hun, _⟩
  · exact .inl h0
  · exact .inr h0
  · omega
theorem HOk.rest (k : HOk nd n dl node h N G) (hz : wsum wgt h.S = 0) (hi : i < n) : (sv h.S i).pc = 0 := by
  refine k.wz hi ?_
  have := wsum_mem (f := wgt) (S := h.S) (i := i) (by rw [k.iv.sl]; exact hi)
  omega
theorem HOk.wtop (k : HOk nd n dl node h N G) (hd : dl ≤ 3) : wsum wgt h.S ≤ n * 9 := by
  have := wsum_le (f := wgt) (S := h.S) 9 fun j hj => k.wle hd (by rw [← k.iv.sl]; exact hj)
  rw [k.iv.sl] at this
  exact this
end
end Go.Proofs.YtkdaiomjbkpedaaGreat
end
