/- slices.Clone of ints; path.New. -/
import Derived.Test.YtnlpghjlhnhkeaaPa3
namespace Go.Proofs.Ytnlpghjlhnhkeaa
open Go.RowKit

theorem int_cells (l : List Int) : ∀ u ∈ l.flatMap encI, u.oneCell' = true := by
  intro u hu
  rw [flatI] at hu
  obtain ⟨x, _, rfl⟩ := List.mem_map.1 hu
  rfl
theorem lit_zero (w : World) : (w.alloc (.cells #[] 3)).ownsRow w.heap.size 3 1 (.slice (some ⟨w.heap.size, 0, none⟩) 0 0) 0 [] := by
  exact ⟨rfl, .inr ⟨w.heap.size, 0, #[], rfl, Nat.le_refl _, heap_alloc_new w _, Nat.le_refl _, by simp [maxLen], rfl, rfl⟩⟩
set_option maxRecDepth 100000 in
set_option maxHeartbeats 1600000 in
theorem clone_any (w : World) (v : Value) (l : List Int) (h : RdL w v 1 encI l) (h1000 : l.length ≤ 1000) :
    Calls Try.prog 38 #[v] w fun e w' => ∃ v', e = .returned v' ∧ w'.ownsRow w.heap.size 3 1 v' l.length (l.flatMap encI) ∧ Below w.heap.size w w' := by
  obtain ⟨i0, hi, hz0, hz1, hz2⟩ := info_parts Try.infoIn
  have HI := Lib.hid (And.intro hi (And.intro hz0 (And.intro hz1 hz2)))
  clear hi hz0 hz1 hz2
  have HR := Lib.hid h
  obtain ⟨A, cap, rfl, l1, l2, hr⟩ := h
  cases A with
  | none =>
    have hl : l = [] := by
      rcases Nat.eq_zero_or_pos l.length with h0 | h0
      · exact List.eq_nil_of_length_eq_zero h0
      · obtain ⟨b, off, e, _⟩ := hr h0; cases e
    subst hl
    clear hr HR
    simp only [List.length_nil]
    have hn := Lib.run_eql_slice_nil w 22 3 none 0 cap 0 0 Try.underlying22
    simp only [Option.isNone] at hn
    go_enter Try.func38, Try.ntmps38
    go_wp2
    go_ret
    exact ⟨_, rfl, World.ownsRow_nil _ _ _ _, Below.refl _ _⟩
  | some ad =>
    have HN := Lib.hid (show ∀ (j : Nat) (u : Value), (l.flatMap encI)[j]? = some u → w.cell? (ad.add j) = some u from by
      intro j u hu
      have hj : j < l.length := by have := (List.getElem?_eq_some_iff.1 hu).1; rw [flatI] at this; simpa using this
      obtain ⟨b, off, e, _, hc⟩ := hr (by omega)
      injection e with e
      subst e
      obtain ⟨x, hx⟩ := getElem?_lt hj
      have h1 := hc j x hx 0 _ rfl
      rw [flatI] at hu
      simp [hx] at hu
      subst hu
      have e2 : (⟨b, off, none⟩ : Addr).add j = ⟨b, off + j, none⟩ := by unfold Addr.add; by_cases hj0 : j = 0 <;> simp [hj0]
      rw [e2]
      simpa using h1)
    have hll : (l.flatMap encI).length = l.length * 1 := by rw [flatI]; simp
    have hn := Lib.run_eql_slice_nil w 22 3 (some ad) l.length cap 0 0 Try.underlying22
    simp only [Option.isNone] at hn
    clear hr
    go_enter Try.func38, Try.ntmps38
    go_wp2_with (at_builtin; go_loud (refine wpList_append_own _ rfl _ _ 22 rfl w.heap.size 3 i0 (.int .i64 0) 1 8 Try.underlying22 HI.out.1 HI.out.2.1 HI.out.2.2.1 HI.out.2.2.2 rfl (by decide) _ 0 [] rfl (lit_zero w) ad l.length cap (l.flatMap encI) rfl hll ?c1 (int_cells l) ?c3 ?c4 ?c5 ?_))
    case c1 => exact fun j u hu => (World.cell?_alloc_lt _ _ _ (by have := block_lt_of_cell (HN.out j u hu); exact this)).trans (HN.out j u hu)
    case c3 => unfold maxLen; omega
    case c4 => omega
    case c5 => simp
    intro v' w' hown' hgrow hnil
    have HO := Lib.hid (And.intro hown' hgrow)
    clear hown' hgrow hnil
    go_wp2
    go_ret
    exact ⟨_, rfl, by have := HO.out.1; simpa using this, (((Below.refl _ _).alloc (Nat.le_refl _) _).grown HO.out.2 (by simp) (fun j hj => by simp [Value.ownBlock] at hj; omega))⟩
end Go.Proofs.Ytnlpghjlhnhkeaa
