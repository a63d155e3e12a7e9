/- Layer 12: the walk of TallyAll. -/
import Derived.Test.YtfbiejkdeadheaaTal12
import Derived.Test.YtfbiejkdeadheaaTal15
namespace Go.Proofs.Ytfbiejkdeadheaa
open Go.RowKit Go.Maps

theorem own_below {w w' : World} {base : Nat} {e : TypeId} {sz : Nat} {v : Value} {n : Nat} {xs : List Value} (h : w.ownsRow base e sz v n xs) (hb : Below w.heap.size w w') : w'.ownsRow base e sz v n xs :=
  h.kept (grown_of_below hb none) (by cases hq : v.ownBlock <;> simp)
theorem ev_cells (w : World) (e : Ev) {g : Nat} (hg : g = w.heap.size) : ∀ j u, (encE e)[j]? = some u → (w.alloc (.cells #[.int .i64 e.kind, .int .i64 e.thread, .bool e.read, .int .i64 e.count] 57)).cell? ((⟨g, 0, none⟩ : Addr).add j) = some u := by
  intro j u hu
  subst hg
  have hadd : (⟨w.heap.size, 0, none⟩ : Addr).add j = ⟨w.heap.size, j, none⟩ := by unfold Addr.add; split <;> simp_all
  rw [hadd, cell_of_row (w.alloc _) w.heap.size j _ _ (0, 0) (heap_alloc_new w _)]
  simpa [encE] using hu
theorem Try.infoEv : (Try.prog.info? 57).map (fun i => (i.zero, i.size, i.bytes)) = some (some (.agg #[.int .i64 0, .int .i64 0, .bool false, .int .i64 0]), 4, 32) := by kernel_rfl

theorem longA (w : World) (A : Option Addr) (m c : Nat) (h1 : 60 < m) (h2 : m ≤ 9223372036854775807) :
    Calls Try.prog 13 #[.slice A m c] w fun e w' => e = .returned (.bool true) ∧ Below w.heap.size w w' := by
  go_enter Try.func13, Try.ntmps13
  go_wp2_with fail
  refine (awake12 _).mono ?_
  rintro en w1 ⟨rfl, hb⟩
  go_wp2
  go_ret
  exact ⟨rfl, hb⟩

set_option maxRecDepth 100000 in
set_option maxHeartbeats 4000000 in
theorem all12 (w : World) (v : Value) (l : List Ev) (h : RdL w v 4 encE l) (hwf : ∀ e ∈ l, wfE e) (hl60 : l.length ≤ 60) :
    Calls Try.prog 13 #[v] w fun e w' => e = .returned (.bool true) ∧ Below w.heap.size w w' := by
  obtain ⟨i0, hi, hz0, hz1, hz2⟩ := info_parts Try.infoEv
  obtain ⟨A, cap, rfl, l1, l2, hr⟩ := h
  have HR := Lib.hid hr
  have HW := Lib.hid hwf
  clear hr hwf
  go_enter Try.func13, Try.ntmps13
  go_wp2
  go_loopw [3, 4] (fun tk i wr => ∃ (k : Nat) (T : List Ev), i = .int .i64 k ∧ k ≤ l.length ∧ T.length ≤ k ∧ Good T ∧ (∀ e ∈ T, wfE e) ∧ wr.ownsRow w.heap.size 57 4 tk T.length (T.flatMap encE) ∧ Below w.heap.size w wr) (fun _ i _ => l.length - (intOf i).toNat)
  case atStart => exact ⟨0, [], rfl, by omega, by simp, good_nil, by simp, World.ownsRow_nil _ _ _ _, Below.refl _ _⟩
  case round =>
    obtain ⟨k, T, rfl, hk, hT, hg, hwT, hown, hbel⟩ := hrel
    have hle := hbel.size
    by_cases hlt : k < l.length
    · obtain ⟨bl, off, rfl, hbl, hc⟩ := HR.out (by omega)
      obtain ⟨e, he⟩ := getElem?_lt hlt
      have c0 := (hbel.cell (p := ⟨bl, off + k * 4 + 0, none⟩) hbl).trans (hc k e he 0 _ rfl)
      have c1 := (hbel.cell (p := ⟨bl, off + k * 4 + 1, none⟩) hbl).trans (hc k e he 1 _ rfl)
      have c2 := (hbel.cell (p := ⟨bl, off + k * 4 + 2, none⟩) hbl).trans (hc k e he 2 _ rfl)
      have c3 := (hbel.cell (p := ⟨bl, off + k * 4 + 3, none⟩) hbl).trans (hc k e he 3 _ rfl)
      simp only [Nat.add_zero] at c0
      have hwe := HW.out e (List.mem_of_getElem? he)
      have HE := Lib.hid (And.intro hg (And.intro hwT (And.intro hown (And.intro hbel hwe))))
      have HC : Hid (∀ W, Below w.heap.size w W → W.cell? ⟨bl, off + k * 4, none⟩ = some (.int .i64 e.kind) ∧ W.cell? ⟨bl, off + k * 4 + 1, none⟩ = some (.int .i64 e.thread) ∧ W.cell? ⟨bl, off + k * 4 + 2, none⟩ = some (.bool e.read) ∧ W.cell? ⟨bl, off + k * 4 + 3, none⟩ = some (.int .i64 e.count)) := Lib.hid fun W hW =>
        ⟨(hW.cell (p := ⟨bl, off + k * 4 + 0, none⟩) hbl).trans (hc k e he 0 _ rfl), (hW.cell (p := ⟨bl, off + k * 4 + 1, none⟩) hbl).trans (hc k e he 1 _ rfl), (hW.cell (p := ⟨bl, off + k * 4 + 2, none⟩) hbl).trans (hc k e he 2 _ rfl), (hW.cell (p := ⟨bl, off + k * 4 + 3, none⟩) hbl).trans (hc k e he 3 _ rfl)⟩
      clear hc he hg hwT hown hbel hwe
      by_cases h1 : 1 ≤ e.kind
      · by_cases h4 : e.kind ≤ 4
        · go_wp2_with fail
          refine (do11_any _ _ T e (RdL.of_own encE_len rfl (by omega) HE.out.2.2.1) (by omega) h1 h4).mono ?_
          rintro en w1 ⟨r, rfl, hr0, hb1⟩
          have hbw : Below w.heap.size w w1 := HE.out.2.2.2.1.trans (hb1.mono hle)
          have hs1 := hb1.size
          obtain ⟨d0, d1, d2, d3⟩ := HC.out _ hbw
          have hown1 := own_below HE.out.2.2.1 hb1
          have HB1 := Lib.hid hbw
          have HR0 := Lib.hid hr0
          clear hb1 hbw hr0 c0 c1 c2 c3
          cases hr1 : (r == 0)
          · have HO := Lib.hid hown1
            clear hown1
            go_wp2
            go_roundw
            case rel => exact ⟨k + 1, T, by go_num, by omega, by omega, HE.out.1, HE.out.2.1, HO.out, HB1.out⟩
            case measure => simp [intOf]; omega
          · have hge : goodE T e := ⟨h1, h4, HR0.out (by simpa using hr1)⟩
            have HG := Lib.hid (good_snoc HE.out.1 hge)
            clear hge
            obtain ⟨A', cp, rfl⟩ := own_form hown1
            go_wp2_with (at_builtin; refine wpList_append_own _ rfl _ _ 39 rfl w.heap.size 57 i0 (.agg #[.int .i64 0, .int .i64 0, .bool false, .int .i64 0]) 4 32 Try.underlying39 hi hz0 hz1 hz2 rfl (by decide) _ _ _ rfl (hown1.alloc _) ⟨w1.heap.size, 0, none⟩ 1 1 (encE e) rfl rfl (ev_cells w1 e rfl) (encE_one _) ?c3 ?c4 ?c5 ?_)
            case c3 => unfold maxLen; omega
            case c4 => omega
            case c5 => simp; omega
            intro v' w2 h2 hg2 _
            have hfin : w2.ownsRow w.heap.size 57 4 v' (T ++ [e]).length ((T ++ [e]).flatMap encE) ∧ Below w.heap.size w w2 :=
              ⟨by simpa [List.flatMap_append, List.flatMap_cons] using h2, (HB1.out.alloc (by omega) _).grown hg2 (by simp; omega) (fun j hj => (hown1.lt j hj).1)⟩
            have HF := Lib.hid hfin
            clear hfin h2 hg2 hown1
            go_wp2
            go_roundw
            case rel => exact ⟨k + 1, T ++ [e], by go_num, by omega, by simp; omega, HG.out, fun x hx => by
              rcases List.mem_append.1 hx with hx | hx
              · exact HE.out.2.1 x hx
              · rw [List.mem_singleton.1 hx]; exact HE.out.2.2.2.2, HF.out.1, HF.out.2⟩
            case measure => simp [intOf]; omega
        · go_wp2
          go_roundw
          case rel => exact ⟨k + 1, T, by go_num, by omega, by omega, HE.out.1, HE.out.2.1, HE.out.2.2.1, HE.out.2.2.2.1⟩
          case measure => simp [intOf]; omega
      · go_wp2
        go_roundw
        case rel => exact ⟨k + 1, T, by go_num, by omega, by omega, HE.out.1, HE.out.2.1, HE.out.2.2.1, HE.out.2.2.2.1⟩
        case measure => simp [intOf]; omega
    · obtain rfl : k = l.length := by omega
      obtain ⟨A', cp, rfl⟩ := own_form hown
      have HT : Hid (RdL wr (.slice A' T.length cp) 4 encE T) := Lib.hid (RdL.of_own encE_len rfl (by omega) hown)
      have hto := tot_good hg
      have hel := ent_len T
      obtain ⟨m0, hm0⟩ : ∃ m0, m0 = cntL Stay.ask (tallyL T) := ⟨_, rfl⟩
      obtain ⟨m1, hm1⟩ : ∃ m1, m1 = cntL Stay.enter (tallyL T) := ⟨_, rfl⟩
      obtain ⟨m2, hm2⟩ : ∃ m2, m2 = cntL Stay.exit (tallyL T) := ⟨_, rfl⟩
      obtain ⟨m3, hm3⟩ : ∃ m3, m3 = cntL Stay.rest (tallyL T) := ⟨_, rfl⟩
      unfold tot at hto
      rw [← hm0, ← hm1, ← hm2, ← hm3] at hto
      rw [← hm1] at hel
      have hb0 : 0 ≤ m0 := by rw [hm0]; unfold cntL; omega
      have hb1 : 0 ≤ m1 := by rw [hm1]; unfold cntL; omega
      have hb2 : 0 ≤ m2 := by rw [hm2]; unfold cntL; omega
      have hb3 : 0 ≤ m3 := by rw [hm3]; unfold cntL; omega
      have hm61 : m0 + m1 + m2 + m3 ≤ 60 := by omega
      have HM := Lib.hid (And.intro hm0 (And.intro hm1 (And.intro hm2 hm3)))
      have HWT := Lib.hid hwT
      have HB := Lib.hid hbel
      have tsum : (m0 + m1 + m2 + m3 == (T.length : Int)) = true := by rw [beq_iff_eq]; exact hto
      have tent : (((entTo (tallyL T) T.length).length : Int) == m1) = true := by rw [beq_iff_eq]; exact hel
      clear hto hel hm0 hm1 hm2 hm3 hwT hg hown hbel
      go_wp2_with fail
      refine (many_call _ _ T m0 m1 m2 m3 HM.out.1 HM.out.2.1 HM.out.2.2.1 HM.out.2.2.2 HT.out HWT.out (by omega)).mono ?_
      rintro en w1 ⟨rfl, hb1'⟩
      have hs1 := hb1'.size
      have k0 : Blk (w1.alloc (.cells #[.int .i64 m0, .int .i64 m1, .int .i64 m2, .int .i64 m3] 101)) w1.heap.size 101 #[.int .i64 m0, .int .i64 m1, .int .i64 m2, .int .i64 m3] := Blk.new _ _ _
      have hB1 : Below w.heap.size w (w1.alloc (.cells #[.int .i64 m0, .int .i64 m1, .int .i64 m2, .int .i64 m3] 101)) := (HB.out.trans (hb1'.mono hle)).alloc (by omega) _
      have hT1 : RdL (w1.alloc (.cells #[.int .i64 m0, .int .i64 m1, .int .i64 m2, .int .i64 m3] 101)) (.slice A' T.length cp) 4 encE T := (HT.out.below hb1' (Nat.le_refl _)).alloc _
      have HT1 := Lib.hid hT1
      have HB1 := Lib.hid hB1
      clear hb1' hB1 hT1
      go_wp2_with fail
      generalize (w1.alloc (.cells #[.int .i64 m0, .int .i64 m1, .int .i64 m2, .int .i64 m3] 101)) = V at k0 HT1 HB1 ⊢
      have S0 : Hid (∀ W, Below V.heap.size V W → (W.cell? ⟨w1.heap.size, 0, none⟩ = some (.int .i64 m0) ∧ W.cell? ⟨w1.heap.size, 1, none⟩ = some (.int .i64 m1) ∧ W.cell? ⟨w1.heap.size, 2, none⟩ = some (.int .i64 m2) ∧ W.cell? ⟨w1.heap.size, 3, none⟩ = some (.int .i64 m3))) := Lib.hid fun W hb => by
        have e1 := k0.below hb k0.lt
        exact ⟨e1.cell 0, e1.cell 1, e1.cell 2, e1.cell 3⟩
      have kv : Below V.heap.size V V := Below.refl _ _
      have x1 : IntKind.i64.wrap (m0 + m1) = m0 + m1 := IntWalk.i64_in _ (by omega)
      have x2 : IntKind.i64.wrap (m0 + m1 + m2) = m0 + m1 + m2 := IntWalk.i64_in _ (by omega)
      have x3 : IntKind.i64.wrap (m0 + m1 + m2 + m3) = m0 + m1 + m2 + m3 := IntWalk.i64_in _ (by omega)
      have hs2 := HB1.out.size
      clear k0
      go_region_held3 (fun W => W.cell? ⟨w1.heap.size, 0, none⟩ = some (.int .i64 m0) ∧ W.cell? ⟨w1.heap.size, 1, none⟩ = some (.int .i64 m1) ∧ W.cell? ⟨w1.heap.size, 2, none⟩ = some (.int .i64 m2) ∧ W.cell? ⟨w1.heap.size, 3, none⟩ = some (.int .i64 m3))
        (first | exact S0.out _ kv | exact S0.out _ kv.drew | exact S0.out _ k2 | exact S0.out _ k3)
        (first
          | (go_at_call 55; go_loud (refine (entries_any _ _ T (by exact HT1.out) HWT.out (by omega)).mono ?_); rintro en w2 ⟨v2, rfl, r2, b2⟩; obtain ⟨A2, c2, rfl, -, -, -⟩ := r2; have k2 : Below V.heap.size V w2 := by exact ⟨b2.os, b2.tape, b2.output, b2.size, b2.block⟩)
          | (go_at_call 52; go_loud (refine (awake12 _).mono ?_); rintro en w3 ⟨rfl, b3⟩; have k3 : Below V.heap.size V w3 := k2.trans (b3.mono k2.size)))
      all_goals
        go_wp2
        go_ret
        exact ⟨rfl, HB1.out.trans (k3.mono hs2)⟩
end Go.Proofs.Ytfbiejkdeadheaa
