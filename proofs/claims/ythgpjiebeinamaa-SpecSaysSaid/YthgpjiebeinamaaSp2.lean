/- Layer 44: the small functions. -/
import Derived.Test.YthgpjiebeinamaaRows
import Derived.Test.YthgpjiebeinamaaSp1
namespace Go.Proofs.Ythgpjiebeinamaa
open Go.RowKit

def encNat (l : List Nat) : List Int := l.map fun (j : Nat) => (j : Int)
theorem encNat_len (l : List Nat) : (encNat l).length = l.length := by simp [encNat]
theorem encNat_get {l : List Nat} {k x : Nat} (h : l[k]? = some x) : (encNat l)[k]? = some (x : Int) := by simp [encNat, h]
theorem sum_snoc {l : List Nat} {k x : Nat} (h : l[k]? = some x) : sumN (l.take (k + 1)) = addN (sumN (l.take k)) x := by
  rw [take_succ_of h]; unfold sumN; rw [List.foldl_append]; rfl
theorem sumN_le (l : List Nat) (k : Nat) (hk : k ≤ l.length) : sumN (l.take k) ≤ 1099511627776 := by
  cases k with
  | zero => simp [sumN]
  | succ k =>
    obtain ⟨x, hx⟩ := getElem?_lt (show k < l.length by omega)
    rw [sum_snoc hx]; exact addN_le _ _
theorem addN_true {a b : Nat} (h : a + b ≤ 1099511627776) : addN a b = a + b := if_pos h
theorem addN_false {a b : Nat} (h : ¬ a + b ≤ 1099511627776) : addN a b = 1099511627776 := if_neg h
theorem add_any (w : World) (a b : Nat) (ha : a ≤ 2199023255552) (hb : b ≤ 2199023255552) :
    Calls Try.prog 61 #[.int .i64 a, .int .i64 b] w fun e w' => e = .returned (.int .i64 (addN a b : Nat)) ∧ w = w' := by
  by_cases h : a + b ≤ 1099511627776
  · have HE := Lib.hid (addN_true h)
    go_enter Try.func61, Try.ntmps61
    go_wp2
    go_ret
    exact ⟨ret_int (by rw [HE.out]; omega), rfl⟩
  · have HE := Lib.hid (addN_false h)
    go_enter Try.func61, Try.ntmps61
    go_wp2
    go_ret
    exact ⟨ret_int (by rw [HE.out]; omega), rfl⟩
set_option maxHeartbeats 2000000 in
theorem times_any (w : World) (a b : Nat) (ha : a ≤ 2199023255552) (hb : b ≤ 1099511627776) :
    Calls Try.prog 58 #[.int .i64 a, .int .i64 b] w fun e w' => e = .returned (.int .i64 (mulN a b : Nat)) ∧ w = w' := by
  have hb0 := hb
  go_enter Try.func58, Try.ntmps58
  go_wp2
  go_loop [0, 1, 5, 6] (fun x y n i => ∃ k a' b' n' : Nat, i = .int .i64 k ∧ x = .int .i64 a' ∧ y = .int .i64 b' ∧ n = .int .i64 n' ∧ k ≤ 64 ∧ a' = a / 2 ^ k ∧ a' ≤ a ∧ b' ≤ 1099511627776 ∧ n' ≤ 1099511627776 ∧ addN n' (mulN a' b') = mulN a b) (fun _ _ _ i => 64 - (intOf i).toNat)
  case atStart => exact ⟨0, a, b, 0, rfl, rfl, rfl, rfl, by omega, by simp, by omega, hb0, by omega, by unfold addN; simp; have := mulN_le a b; omega⟩
  case round =>
    obtain ⟨k, a', b', n', rfl, rfl, rfl, rfl, hk, hak, hal, hbl, hnl, hm⟩ := hrel
    by_cases h0 : a' = 0
    · have HE := Lib.hid (show n' = mulN a b from by rw [← hm, h0, mul_done _ _ hnl])
      subst h0
      clear hm hak
      by_cases hlt : k < 64
      · go_wp2
        go_ret
        exact ⟨ret_int (by rw [HE.out]), rfl⟩
      · go_wp2
        go_ret
        exact ⟨ret_int (by rw [HE.out]), rfl⟩
    · have hlt : k < 64 := by
        rcases Nat.lt_or_ge k 64 with h | h
        · exact h
        · obtain rfl : k = 64 := by omega
          rw [Nat.div_eq_of_lt (by omega)] at hak
          exact absurd hak h0
      have hst := mul_step n' a' b' hbl (by omega)
      rw [hm] at hst
      have HD := Lib.hid (show a' / 2 = a / 2 ^ (k + 1) from by rw [hak, Nat.div_div_eq_div_mul, Nat.pow_succ])
      have HB := Lib.hid (addN_le b' b')
      have hpos : 0 < a' := by omega
      clear hm hak
      by_cases h2 : a' % 2 = 1
      · rw [if_pos h2] at hst
        have g2 : ((a' : Int) % 2 == 1) = true := by rw [beq_iff_eq]; omega
        have HS := Lib.hid hst
        have HN := Lib.hid (addN_le n' b')
        clear hst h2
        go_wp2_with (go_at_call 61; refine (add_any _ _ _ (by omega) (by omega)).mono ?_; rintro e w' ⟨rfl, rfl⟩)
        go_round
        case rel => exact ⟨k + 1, a' / 2, addN b' b', addN n' b', by go_num, by congr 1, rfl, rfl, by omega, HD.out, by omega, HB.out, HN.out, HS.out⟩
        case measure => simp [intOf]; omega
      · rw [if_neg h2] at hst
        have g2 : ((a' : Int) % 2 == 1) = false := by rw [beq_eq_false_iff_ne]; omega
        have HS := Lib.hid hst
        clear hst h2
        go_wp2_with (go_at_call 61; refine (add_any _ _ _ (by omega) (by omega)).mono ?_; rintro e w' ⟨rfl, rfl⟩)
        go_round
        case rel => exact ⟨k + 1, a' / 2, addN b' b', n', by go_num, by congr 1, rfl, rfl, by omega, HD.out, by omega, HB.out, by omega, HS.out⟩
        case measure => simp [intOf]; omega
set_option maxHeartbeats 1000000 in
theorem sum_any (w : World) (v : Value) (l : List Nat) (h : RdL w v 1 encI (encNat l)) (hl : ∀ x ∈ l, x ≤ 1099511627776) :
    Calls Try.prog 81 #[v] w fun e w' => e = .returned (.int .i64 (sumN l : Nat)) ∧ w = w' := by
  obtain ⟨A, cap, rfl, l1, l2, hr⟩ := h
  rw [encNat_len] at *
  have HR := Lib.hid hr
  have HL := Lib.hid hl
  clear hr hl
  go_enter Try.func81, Try.ntmps81
  go_wp2
  go_loop [3, 8] (fun n i => ∃ k : Nat, i = .int .i64 k ∧ k ≤ l.length ∧ n = .int .i64 (sumN (l.take k) : Nat)) (fun _ i => l.length - (intOf i).toNat)
  case atStart => exact ⟨0, rfl, by omega, rfl⟩
  case round =>
    obtain ⟨k, rfl, hk, rfl⟩ := hrel
    by_cases hlt : k < l.length
    · obtain ⟨bl, off, rfl, hbl, hc⟩ := HR.out (by omega)
      obtain ⟨x, hx⟩ := getElem?_lt hlt
      have c0 := hc k _ (encNat_get hx) 0 _ rfl
      simp only [Nat.add_zero, Nat.mul_one] at c0
      have hxl := HL.out x (List.mem_of_getElem? hx)
      have hsl := sumN_le l k hk
      have hsn := sum_snoc hx
      obtain ⟨s, hs⟩ : ∃ s, s = sumN (l.take k) := ⟨_, rfl⟩
      rw [← hs] at hsn hsl ⊢
      have HS := Lib.hid hsn
      clear hc hx hsn hs
      by_cases hh : s + x ≤ 1099511627776
      · have HA := Lib.hid (HS.out.trans (addN_true hh))
        go_wp2
        all_goals
          go_round
          case rel => exact ⟨k + 1, by go_num, by omega, by rw [HA.out]; first | rfl | (congr 1; omega) | (rw [if_neg (by omega)]; congr 1; omega)⟩
          case measure => simp [intOf]; omega
      · have HA := Lib.hid (HS.out.trans (addN_false hh))
        go_wp2
        all_goals
          go_round
          case rel => exact ⟨k + 1, by go_num, by omega, by rw [HA.out]; first | rfl | (rw [if_pos (by omega)]; rfl) | (congr 1; rw [if_pos (by omega)]; rfl)⟩
          case measure => simp [intOf]; omega
    · obtain rfl : k = l.length := by omega
      go_wp2
      go_ret
      exact ⟨ret_int (by simp), rfl⟩
set_option linter.unusedVariables false in
theorem prod_any (w : World) (a b : Nat) (ha : a ≤ 2199023255552) (hb : b ≤ 1099511627776) :
    Calls Try.prog 82 #[.int .i64 a, .int .i64 b] w fun e w' => e = .returned (.int .i64 (mulN a b : Nat)) ∧ w = w' := by
  by_cases h0 : a = 0
  · subst h0
    have HE := Lib.hid (show mulN 0 b = 0 from by simp [mulN])
    go_enter Try.func82, Try.ntmps82
    go_wp2
    all_goals
      go_ret
      exact ⟨ret_int (by rw [HE.out]; simp), rfl⟩
  · have e0 : ((a : Int) != 0) = true := by rw [bne_iff_ne]; omega
    have hpos : 0 < a := by omega
    by_cases h : a * b ≤ 1099511627776
    · have HE := Lib.hid (show mulN a b = a * b from if_pos h)
      have g1 : decide ((1099511627776 : Int) / (a : Int) < (b : Int)) = false := decide_eq_false (by
        have : (b : Int) ≤ (1099511627776 : Int) / (a : Int) := by
          rw [Int.le_ediv_iff_mul_le (by omega)]
          have : ((b * a : Nat) : Int) ≤ 1099511627776 := by rw [Nat.mul_comm]; omega
          simpa using this
        omega)
      have hp : (a : Int) * (b : Int) ≤ 1099511627776 := by
        rw [← Int.natCast_mul]
        exact Int.ofNat_le.2 h
      have hp0 : 0 ≤ (a : Int) * (b : Int) := by
        rw [← Int.natCast_mul]
        exact Int.natCast_nonneg _
      clear h0 h
      go_enter Try.func82, Try.ntmps82
      go_wp2
      all_goals
        go_ret
        exact ⟨ret_int (by rw [HE.out]; simp), rfl⟩
    · have HE := Lib.hid (show mulN a b = 1099511627776 from if_neg h)
      have g1 : decide ((1099511627776 : Int) / (a : Int) < (b : Int)) = true := decide_eq_true (by
        rw [Int.ediv_lt_iff_lt_mul (by omega)]
        have : (1099511627776 : Int) < ((b * a : Nat) : Int) := by rw [Nat.mul_comm]; omega
        simpa using this)
      clear h0 h
      go_enter Try.func82, Try.ntmps82
      go_wp2
      all_goals
        go_ret
        exact ⟨ret_int (by rw [HE.out]; simp), rfl⟩
theorem reckon_any (w : World) :
    Calls Try.prog 53 #[] w fun e w' => e = .returned (.tuple #[.func (.func 81) #[] #[], .func (.func 82) #[] #[]]) ∧ w = w' := by
  go_enter Try.func53, Try.ntmps53
  go_wp2
  go_ret2
  exact ⟨rfl, rfl⟩
theorem in_any (w : World) (n a b : Int) : Calls Try.prog 50 #[.int .i64 n, .int .i64 a, .int .i64 b] w fun e w' => e = .returned (.bool (inI n a b)) ∧ w = w' := by
  go_enter Try.func50, Try.ntmps50
  by_cases h1 : a ≤ n
  · go_wp2
    go_ret
    exact ⟨ret_bool (by unfold inI; first | (symm; exact decide_eq_false (by omega)) | (simp [h1]; done)), rfl⟩
  · go_wp2
    go_ret
    exact ⟨ret_bool (by unfold inI; first | (symm; exact decide_eq_false (by omega)) | (simp [h1]; done)), rfl⟩
theorem bin_any (w : World) (n a b : Int) : Calls Try.prog 78 #[.int .i64 n, .int .i64 a, .int .i64 b] w fun e w' => e = .returned (.bool (inI n a b)) ∧ w = w' := by
  go_enter Try.func78, Try.ntmps78
  by_cases h1 : a ≤ n
  · go_wp2
    go_ret
    exact ⟨ret_bool (by unfold inI; first | (symm; exact decide_eq_false (by omega)) | (simp [h1]; done)), rfl⟩
  · go_wp2
    go_ret
    exact ⟨ret_bool (by unfold inI; first | (symm; exact decide_eq_false (by omega)) | (simp [h1]; done)), rfl⟩
theorem right_any (w : World) (n : Int) : Calls Try.prog 49 #[.int .i64 n] w fun e w' => e = .returned (.bool (inI n 0 1000)) ∧ w = w' := by
  go_enter Try.func49, Try.ntmps49
  go_wp2_with (go_at_call 78; refine (bin_any _ _ _ _).mono ?_; rintro e w' ⟨rfl, rfl⟩)
  go_ret
  exact ⟨rfl, rfl⟩
theorem rright_any (w : World) (n : Int) : Calls Try.prog 56 #[.int .i64 n] w fun e w' => e = .returned (.bool (inI n 0 1000)) ∧ w = w' := by
  go_enter Try.func56, Try.ntmps56
  by_cases h1 : 0 ≤ n
  · go_wp2
    go_ret
    exact ⟨ret_bool (by unfold inI; first | (symm; exact decide_eq_false (by omega)) | (simp [h1]; done)), rfl⟩
  · go_wp2
    go_ret
    exact ⟨ret_bool (by unfold inI; first | (symm; exact decide_eq_false (by omega)) | (simp [h1]; done)), rfl⟩
theorem shares_any (w : World) (n : Int) : Calls Try.prog 51 #[.int .i64 n] w fun e w' => e = .returned (.bool (inI n 11 13)) ∧ w = w' := by
  go_enter Try.func51, Try.ntmps51
  by_cases h1 : 11 ≤ n
  · go_wp2
    go_ret
    exact ⟨ret_bool (by unfold inI; first | (symm; exact decide_eq_false (by omega)) | (simp [h1]; done)), rfl⟩
  · go_wp2
    go_ret
    exact ⟨ret_bool (by unfold inI; first | (symm; exact decide_eq_false (by omega)) | (simp [h1]; done)), rfl⟩
theorem kind_any (w : World) (n : Int) : Calls Try.prog 93 #[.int .i64 n] w fun e w' => e = .returned (.bool (inI n 1 5)) ∧ w = w' := by
  go_enter Try.func93, Try.ntmps93
  by_cases h1 : 1 ≤ n
  · go_wp2
    go_ret
    exact ⟨ret_bool (by unfold inI; first | (symm; exact decide_eq_false (by omega)) | (simp [h1]; done)), rfl⟩
  · go_wp2
    go_ret
    exact ⟨ret_bool (by unfold inI; first | (symm; exact decide_eq_false (by omega)) | (simp [h1]; done)), rfl⟩
theorem add_call (w : World) (x y : Int) (a b : Nat) (hx : x = a) (hy : y = b) (ha : a ≤ 2199023255552) (hb : b ≤ 2199023255552) :
    Calls Try.prog 61 #[.int .i64 x, .int .i64 y] w fun e w' => e = .returned (.int .i64 (addN a b : Nat)) ∧ w = w' := by subst hx hy; exact add_any w a b ha hb
theorem times_call (w : World) (x y : Int) (a b : Nat) (hx : x = a) (hy : y = b) (ha : a ≤ 2199023255552) (hb : b ≤ 1099511627776) :
    Calls Try.prog 58 #[.int .i64 x, .int .i64 y] w fun e w' => e = .returned (.int .i64 (mulN a b : Nat)) ∧ w = w' := by subst hx hy; exact times_any w a b ha hb
theorem prod_call (w : World) (x y : Int) (a b : Nat) (hx : x = a) (hy : y = b) (ha : a ≤ 2199023255552) (hb : b ≤ 1099511627776) :
    Calls Try.prog 82 #[.int .i64 x, .int .i64 y] w fun e w' => e = .returned (.int .i64 (mulN a b : Nat)) ∧ w = w' := by subst hx hy; exact prod_any w a b ha hb
theorem rdl_lit {α : Type} {enc : α → List Value} {sz : Nat} (hs : ∀ x, (enc x).length = sz) (w : World) (cs : Array Value) (t : TypeId) (l : List α) {g n : Nat} (hg : g = w.heap.size) (hn : n = l.length) (hcs : cs.toList = l.flatMap enc) (hl : l.length ≤ 140737488355328) :
    RdL (w.alloc (.cells cs t)) (.slice (some ⟨g, 0, none⟩) n n) sz enc l := by
  subst hg; subst hn
  refine ⟨_, _, rfl, Nat.le_refl _, hl, fun _ => ⟨w.heap.size, 0, rfl, by simp, fun i x hx j u hu => ?_⟩⟩
  rw [cell_of_row (w.alloc _) w.heap.size _ _ _ (0, 0) (heap_alloc_new w _)]
  have h := getElem?_flatMap enc sz hs l i x j u hx hu
  rw [← hcs] at h
  simpa using h
/-- a sum of two, of three, of four -/
theorem sum_call2 (w : World) (x y : Int) (a b : Nat) (t : TypeId) (hx : x = a) (hy : y = b) (ha : a ≤ 1099511627776) (hb : b ≤ 1099511627776) {g : Nat} (hg : g = w.heap.size) :
    Calls Try.prog 81 #[.slice (some ⟨g, 0, none⟩) 2 2] (w.alloc (.cells #[.int .i64 x, .int .i64 y] t)) fun e w' => e = .returned (.int .i64 (sumN [a, b] : Nat)) ∧ (w.alloc (.cells #[.int .i64 x, .int .i64 y] t)) = w' := by
  subst hx hy
  exact sum_any _ _ [a, b] (rdl_lit encI_len _ _ _ _ hg rfl rfl (by rw [encNat_len]; simp)) (by intro z hz; simp at hz; rcases hz with rfl | rfl <;> assumption)
theorem sum_call3 (w : World) (x y z : Int) (a b c : Nat) (t : TypeId) (hx : x = a) (hy : y = b) (hz : z = c) (ha : a ≤ 1099511627776) (hb : b ≤ 1099511627776) (hc : c ≤ 1099511627776) {g : Nat} (hg : g = w.heap.size) :
    Calls Try.prog 81 #[.slice (some ⟨g, 0, none⟩) 3 3] (w.alloc (.cells #[.int .i64 x, .int .i64 y, .int .i64 z] t)) fun e w' => e = .returned (.int .i64 (sumN [a, b, c] : Nat)) ∧ (w.alloc (.cells #[.int .i64 x, .int .i64 y, .int .i64 z] t)) = w' := by
  subst hx hy hz
  exact sum_any _ _ [a, b, c] (rdl_lit encI_len _ _ _ _ hg rfl rfl (by rw [encNat_len]; simp)) (by intro z hz; simp at hz; rcases hz with rfl | rfl | rfl <;> assumption)
theorem sum_call4 (w : World) (x y z u : Int) (a b c d : Nat) (t : TypeId) (hx : x = a) (hy : y = b) (hz : z = c) (hu : u = d) (ha : a ≤ 1099511627776) (hb : b ≤ 1099511627776) (hc : c ≤ 1099511627776) (hd : d ≤ 1099511627776) {g : Nat} (hg : g = w.heap.size) :
    Calls Try.prog 81 #[.slice (some ⟨g, 0, none⟩) 4 4] (w.alloc (.cells #[.int .i64 x, .int .i64 y, .int .i64 z, .int .i64 u] t)) fun e w' => e = .returned (.int .i64 (sumN [a, b, c, d] : Nat)) ∧ (w.alloc (.cells #[.int .i64 x, .int .i64 y, .int .i64 z, .int .i64 u] t)) = w' := by
  subst hx hy hz hu
  exact sum_any _ _ [a, b, c, d] (rdl_lit encI_len _ _ _ _ hg rfl rfl (by rw [encNat_len]; simp)) (by intro z hz; simp at hz; rcases hz with rfl | rfl | rfl | rfl <;> assumption)
theorem in_b (w : World) (n a c : Int) (b : Bool) (h : inI n a c = b) : Calls Try.prog 50 #[.int .i64 n, .int .i64 a, .int .i64 c] w fun e w' => e = .returned (.bool b) ∧ w = w' := by subst h; exact in_any w n a c
theorem right_b (w : World) (n : Int) (b : Bool) (h : inI n 0 1000 = b) : Calls Try.prog 49 #[.int .i64 n] w fun e w' => e = .returned (.bool b) ∧ w = w' := by subst h; exact right_any w n
theorem rright_b (w : World) (n : Int) (b : Bool) (h : inI n 0 1000 = b) : Calls Try.prog 56 #[.int .i64 n] w fun e w' => e = .returned (.bool b) ∧ w = w' := by subst h; exact rright_any w n
theorem shares_b (w : World) (n : Int) (b : Bool) (h : inI n 11 13 = b) : Calls Try.prog 51 #[.int .i64 n] w fun e w' => e = .returned (.bool b) ∧ w = w' := by subst h; exact shares_any w n
theorem kind_b (w : World) (n : Int) (b : Bool) (h : inI n 1 5 = b) : Calls Try.prog 93 #[.int .i64 n] w fun e w' => e = .returned (.bool b) ∧ w = w' := by subst h; exact kind_any w n
end Go.Proofs.Ythgpjiebeinamaa
