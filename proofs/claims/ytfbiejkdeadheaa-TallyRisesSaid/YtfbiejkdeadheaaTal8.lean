/- Layer 12: the document's Longest, Fifo and Entries. -/
import Derived.Test.YtfbiejkdeadheaaTal7
import Derived.Test.YtfbiejkdeadheaaRef3
namespace Go.Proofs.Ytfbiejkdeadheaa
open Go.RowKit Go.Maps

theorem Try.infoInt : (Try.prog.info? 3).map (fun i => (i.zero, i.size, i.bytes)) = some (some (.int .i64 0), 1, 8) := by kernel_rfl
theorem int_cells (w : World) (z : Int) {g : Nat} (hg : g = w.heap.size) : ∀ j u, (encI z)[j]? = some u → (w.alloc (.cells #[.int .i64 z] 3)).cell? ((⟨g, 0, none⟩ : Addr).add j) = some u := by
  intro j u hu
  subst hg
  have hadd : (⟨w.heap.size, 0, none⟩ : Addr).add j = ⟨w.heap.size, j, none⟩ := by unfold Addr.add; split <;> simp_all
  rw [hadd, cell_of_row (w.alloc _) w.heap.size j _ _ (0, 0) (heap_alloc_new w _)]
  simpa [encI] using hu
theorem encI_one (z : Int) : ∀ u ∈ encI z, u.oneCell' = true := by intro u hu; simp [encI] at hu; rw [hu]; rfl

set_option maxRecDepth 100000 in
set_option maxHeartbeats 4000000 in
theorem rlongest_any (w : World) (v : Value) (l : List Ev) (h : RdL w v 4 encE l) (hlen : l.length ≤ 60000) :
    Calls Try.prog 58 #[v] w fun e w' => e = .returned (.int .i64 (longL l (tallyL l))) ∧ Below w.heap.size w w' := by
  obtain ⟨A, cap, rfl, l1, l2, hr⟩ := h
  have HR : Hid (RdL w (.slice A l.length cap) 4 encE l) := Lib.hid ⟨A, cap, rfl, l1, l2, hr⟩
  clear hr
  go_enter Try.func58, Try.ntmps58
  go_wp2_with fail
  refine (refOf_any _ _ l HR.out hlen).mono ?_
  rintro en w1 ⟨v1, rfl, hown, hb⟩
  rw [← tally_eq_ref] at hown
  have htl := tallyL_len l
  have hri := (tally_rise l).1
  obtain ⟨s, hs⟩ : ∃ s, s = tallyL l := ⟨_, rfl⟩
  rw [← hs] at hown htl hri
  obtain ⟨A1, c1, rfl⟩ := own_form hown
  have HS : Hid (RdL w1 (.slice A1 s.length c1) 7 encS s) := Lib.hid (RdL.of_own encS_len rfl (by omega) hown)
  have HRI := Lib.hid hri
  have HL := Lib.hid hs
  have HB := Lib.hid hb
  clear hown hb hs hri
  go_wp2
  go_loopw [3, 5] (fun m i wr => ∃ k : Nat, i = .int .i64 k ∧ k ≤ s.length ∧ m = .int .i64 (longTo l s k) ∧ Qt w1 wr) (fun _ i _ => s.length - (intOf i).toNat)
  case atStart => exact ⟨0, rfl, by omega, rfl, Qt.refl _⟩
  case round =>
    obtain ⟨k, rfl, hk, rfl, n, rfl⟩ := hrel
    by_cases hlt : k < s.length
    · obtain ⟨A', c', e', p1, p2, p3⟩ := HS.out
      obtain ⟨bl, off, q1, q2, hc⟩ := p3 (by omega)
      injection e' with e' _ e''
      subst e' e'' q1
      obtain ⟨x, hx⟩ := getElem?_lt hlt
      have a2 := hc k x hx 2 _ rfl
      have a3 := hc k x hx 3 _ rfl
      have hsp := stay_span l x (HRI.out x (List.mem_of_getElem? hx))
      have hlo := longTo_le l s HRI.out k
      have hsu := longTo_succ l s k x hx
      have hen := (HRI.out x (List.mem_of_getElem? hx))
      have he0 := hen.e0
      have he1 := hen.e1
      obtain ⟨m, hm⟩ : ∃ m, m = longTo l s k := ⟨_, rfl⟩
      rw [← hm] at hlo hsu ⊢
      have HSU := Lib.hid hsu
      have w64 : IntKind.i64.wrap (x.enter - x.ask) = x.enter - x.ask := IntWalk.i64_in _ (by omega)
      clear hc hx p3 hm hsu hen
      by_cases hneg : x.enter < 0
      · have hq : endS l x = l.length := by unfold endS; rw [if_pos hneg]
        rw [hq] at hsp HSU
        have w65 : IntKind.i64.wrap ((l.length : Int) - x.ask) = (l.length : Int) - x.ask := IntWalk.i64_in _ (by omega)
        clear hq
        by_cases hgt : m < (l.length : Int) - x.ask
        · go_wp2
          go_quiet (fail)
          go_wp2
          go_roundw
          case rel => exact ⟨k + 1, by go_num, by omega, by rw [HSU.out]; congr 1; omega, n + nq, by first | rfl | rw [World.drewN_drewN]⟩
          case measure => first | (simp [intOf]; done) | (simp [intOf]; omega)
        · go_wp2
          go_quiet (fail)
          go_wp2
          go_roundw
          case rel => exact ⟨k + 1, by go_num, by omega, by rw [HSU.out]; congr 1; omega, n + nq, by first | rfl | rw [World.drewN_drewN]⟩
          case measure => first | (simp [intOf]; done) | (simp [intOf]; omega)
      · have hq : endS l x = x.enter := by unfold endS; rw [if_neg hneg]
        rw [hq] at hsp HSU
        clear hq
        by_cases hgt : m < x.enter - x.ask
        · go_wp2
          go_quiet (fail)
          go_wp2
          go_roundw
          case rel => exact ⟨k + 1, by go_num, by omega, by rw [HSU.out]; congr 1; omega, n + nq, by first | rfl | rw [World.drewN_drewN]⟩
          case measure => first | (simp [intOf]; done) | (simp [intOf]; omega)
        · go_wp2
          go_quiet (fail)
          go_wp2
          go_roundw
          case rel => exact ⟨k + 1, by go_num, by omega, by rw [HSU.out]; congr 1; omega, n + nq, by first | rfl | rw [World.drewN_drewN]⟩
          case measure => first | (simp [intOf]; done) | (simp [intOf]; omega)
    · obtain rfl : k = s.length := by omega
      go_wp2
      go_ret
      rw [← HL.out]
      exact ⟨rfl, below_drewN HB.out n⟩

theorem entTo_len (s : List Stay) (hp : s.Pairwise fun a b => 0 ≤ a.enter → a.enter ≠ b.enter) : ∀ n, (entTo s n).length ≤ n
  | 0 => by simp [entTo]
  | n + 1 => by
    have h1 := entTo_len s hp n
    have h2 := filter_one hp n
    unfold entTo
    rw [List.length_append]
    omega

set_option maxRecDepth 100000 in
set_option maxHeartbeats 4000000 in
theorem rentries_any (w : World) (v : Value) (l : List Ev) (h : RdL w v 4 encE l) (hlen : l.length ≤ 60000) :
    Calls Try.prog 56 #[v] w fun e w' => ∃ v', e = .returned v' ∧ RdL w' v' 1 encI ((entTo (tallyL l) l.length).map Stay.thread) ∧ Below w.heap.size w w' := by
  obtain ⟨i0, hi, hz0, hz1, hz2⟩ := info_parts Try.infoInt
  obtain ⟨A, cap, rfl, l1, l2, hr⟩ := h
  have HR : Hid (RdL w (.slice A l.length cap) 4 encE l) := Lib.hid ⟨A, cap, rfl, l1, l2, hr⟩
  clear hr
  go_enter Try.func56, Try.ntmps56
  go_wp2_with fail
  refine (refOf_any _ _ l HR.out hlen).mono ?_
  rintro en w1 ⟨v1, rfl, hown, hb⟩
  rw [← tally_eq_ref] at hown
  have htl := tallyL_len l
  have htp := tally_enter l
  obtain ⟨s, hs⟩ : ∃ s, s = tallyL l := ⟨_, rfl⟩
  rw [← hs] at hown htl htp
  obtain ⟨A1, c1, rfl⟩ := own_form hown
  have HS : Hid (RdL w1 (.slice A1 s.length c1) 7 encS s) := Lib.hid (RdL.of_own encS_len rfl (by omega) hown)
  have HL := Lib.hid hs
  have HB := Lib.hid hb
  have HT := Lib.hid htp
  clear hown hb hs htp
  go_wp2
  go_loopw [3, 5] (fun o i wr => ∃ k : Nat, i = .int .i64 k ∧ k ≤ l.length ∧ wr.ownsRow w1.heap.size 3 1 o ((entTo s k).map Stay.thread).length (((entTo s k).map Stay.thread).flatMap encI) ∧ Below w1.heap.size w1 wr) (fun _ i _ => l.length - (intOf i).toNat)
  case atStart => exact ⟨0, rfl, by omega, World.ownsRow_nil _ _ _ _, Below.refl _ _⟩
  case round =>
    obtain ⟨k, rfl, hk, hown, hbel⟩ := hrel
    by_cases hlt : k < l.length
    · go_wp2
      go_loopw [3, 6] (fun o i wr => ∃ q : Nat, i = .int .i64 q ∧ q ≤ s.length ∧ wr.ownsRow w1.heap.size 3 1 o ((entTo s k ++ (s.take q).filter fun x => x.enter == (k : Int)).map Stay.thread).length (((entTo s k ++ (s.take q).filter fun x => x.enter == (k : Int)).map Stay.thread).flatMap encI) ∧ Below w1.heap.size w1 wr) (fun _ i _ => s.length - (intOf i).toNat)
      case atStart => exact ⟨0, rfl, by omega, by simpa using hown, hbel⟩
      case round =>
        clear hown hbel
        obtain ⟨q, rfl, hq, hown, hbel⟩ := hrel
        have hle := hbel.size
        by_cases hql : q < s.length
        · obtain ⟨A', c', e', p1, p2, p3⟩ := HS.out.below hbel (Nat.le_refl _)
          obtain ⟨bl, off, q1, q2, hc⟩ := p3 (by omega)
          injection e' with e' _ e''
          subst e' e'' q1
          obtain ⟨x, hx⟩ := getElem?_lt hql
          have a0 := hc q x hx 0 _ rfl
          have a3 := hc q x hx 3 _ rfl
          simp only [Nat.add_zero] at a0
          have htk := take_succ_of hx
          obtain ⟨pre, hpre⟩ : ∃ pre, pre = (entTo s k ++ (s.take q).filter fun x => x.enter == (k : Int)).map Stay.thread := ⟨_, rfl⟩
          have hpl : pre.length ≤ 120000 := by
            rw [hpre, List.length_map, List.length_append]
            have z1 := entTo_len s HT.out k
            have z2 := List.length_filter_le (fun x : Stay => x.enter == (k : Int)) (s.take q)
            have z3 := List.length_take_le q s
            omega
          rw [← hpre] at hown
          by_cases he : x.enter = k
          · have be : (x.enter == (k : Int)) = true := by rw [beq_iff_eq]; exact he
            have hnx : (entTo s k ++ (s.take (q + 1)).filter fun x => x.enter == (k : Int)).map Stay.thread = pre ++ [x.thread] := by
              rw [htk, List.filter_append, hpre]; simp [be]
            have HN := Lib.hid hnx
            have HBE := Lib.hid hbel
            have hol := hown.lt
            clear hc hx p3 htk hpre he hnx
            go_wp2_with (at_builtin; refine wpList_append_own _ rfl _ _ 26 rfl w1.heap.size 3 i0 (.int .i64 0) 1 8 Try.underlying26 hi hz0 hz1 hz2 rfl (by decide) _ _ _ rfl (hown.alloc _) ⟨wr.heap.size, 0, none⟩ 1 1 (encI x.thread) rfl rfl (int_cells wr x.thread rfl) (encI_one _) ?c3 ?c4 ?c5 ?_)
            case c3 => unfold maxLen; omega
            case c4 => omega
            case c5 => first | (simp; omega) | omega
            intro v' w3 h3 hg3 _
            have hfin : w3.ownsRow w1.heap.size 3 1 v' (pre ++ [x.thread]).length ((pre ++ [x.thread]).flatMap encI) ∧ Below w1.heap.size w1 w3 :=
              ⟨by simpa [List.flatMap_append, List.flatMap_cons] using h3, (HBE.out.alloc hle _).grown hg3 (by simp; omega) (fun j hj => (hol j hj).1)⟩
            have HFF := Lib.hid hfin
            clear hfin h3 hg3 hown hbel
            go_wp2
            go_roundw
            case rel => exact ⟨q + 1, by go_num, by omega, by rw [HN.out]; exact HFF.out.1, HFF.out.2⟩
            case measure => first | (simp [intOf]; done) | (simp [intOf]; omega)
          · have be : (x.enter == (k : Int)) = false := by simpa using he
            have hnx : (entTo s k ++ (s.take (q + 1)).filter fun x => x.enter == (k : Int)).map Stay.thread = pre := by
              rw [htk, List.filter_append, hpre]; simp [be]
            have HN := Lib.hid hnx
            have HBE := Lib.hid (And.intro hown hbel)
            clear hc hx p3 htk hpre he hnx hown hbel
            go_wp2
            go_roundw
            case rel => exact ⟨q + 1, by go_num, by omega, by rw [HN.out]; exact HBE.out.1, HBE.out.2⟩
            case measure => first | (simp [intOf]; done) | (simp [intOf]; omega)
        · obtain rfl : q = s.length := by omega
          rw [List.take_length] at hown
          have HH := Lib.hid (And.intro hown hbel)
          clear hown hbel
          go_wp2
          go_roundw
          case rel => exact ⟨k + 1, by go_num, by omega, HH.out.1, HH.out.2⟩
          case measure => first | (simp [intOf]; done) | (simp [intOf]; omega)
    · obtain rfl : k = l.length := by omega
      have HH := Lib.hid (And.intro hown hbel)
      clear hown hbel
      go_wp2
      go_ret
      rw [← HL.out]
      exact ⟨_, rfl, RdL.of_own encI_len rfl (by rw [List.length_map]; have := entTo_len s HT.out l.length; omega) HH.out.1, HB.out.trans (HH.out.2.mono HB.out.size)⟩
end Go.Proofs.Ytfbiejkdeadheaa
