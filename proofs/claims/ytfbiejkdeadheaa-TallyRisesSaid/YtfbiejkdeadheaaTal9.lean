/- Layer 12: slices.SortFunc over stays, and tally.Entries. -/
import Derived.Test.YtfbiejkdeadheaaTal8
import Derived.Test.YtfbiejkdeadheaaLsort
namespace Go.Proofs.Ytfbiejkdeadheaa
open Go.RowKit Go.Maps

instance : Inhabited Stay := ⟨⟨0, false, 0, 0, 0, 0, 0⟩⟩

theorem sort_closure (x y : Stay) (W : World) : Calls Try.prog 89 #[.agg #[.int .i64 x.thread, .bool x.read, .int .i64 x.ask, .int .i64 x.enter, .int .i64 x.exit, .int .i64 x.rest, .int .i64 x.count], .agg #[.int .i64 y.thread, .bool y.read, .int .i64 y.ask, .int .i64 y.enter, .int .i64 y.exit, .int .i64 y.rest, .int .i64 y.count]] W fun e w' => e = .returned (.int .i64 (cmpI x.enter y.enter)) ∧ ∃ q os', w' = Go.Sort.grow (W.drewN q) os' := by
  have hcon := fun W' => cmp_any W' x.enter y.enter
  generalize cmpI x.enter y.enter = r at hcon ⊢
  go_enter Try.func89, Try.ntmps89
  go_wp2_with (go_at_call 70; refine (hcon _).mono ?_; rintro e w' ⟨rfl, rfl⟩)
  go_ret
  exact ⟨rfl, 0, _, by rw [Go.Sort.alloc_eq_grow, Go.Sort.alloc_eq_grow, Go.Sort.grow_grow]; rfl⟩

def cfS (x y : Stay) : Int := cmpI x.enter y.enter
theorem ltS (x y : Stay) : ltOf cfS x y = decide (x.enter < y.enter) := by
  unfold ltOf cfS cmpI
  by_cases h1 : x.enter < y.enter
  · simp [h1]
  · by_cases h2 : y.enter < x.enter <;> simp [h1, h2]
theorem swoS : Go.Sort.SWO (ltOf cfS) where
  irrefl x := by rw [ltS]; simp
  trans x y z h1 h2 := by rw [ltS] at *; simp at *; omega
  ntrans x y z h1 h2 := by rw [ltS] at *; simp at *; omega

theorem holds_own {w : World} {base : Nat} {e : TypeId} {g cap : Nat} {l : List Stay} (hown : w.ownsRow base e 7 (.slice (some ⟨g, 0, none⟩) l.length cap) l.length (l.flatMap encS)) : Go.Sort.HoldsK encS 7 w g 0 l.toArray := by
  intro j hj
  rw [Go.Sort.size_flatK] at hj
  have hj' : j < l.length * 7 := by simpa using hj
  have h7 : j / 7 < l.length := by omega
  obtain ⟨x, hx⟩ := getElem?_lt h7
  have hm : j % 7 < (encS x).length := by rw [encS_len]; omega
  refine ⟨?_, own_free hown _⟩
  rw [Go.Sort.get_flatK _ _ _ _ hj, Nat.zero_add, hown.cellAt j hj']
  have hd : (l.toArray)[j / 7]! = x := by
    rw [getElem!_pos l.toArray _ (by simpa using h7)]
    simpa using (List.getElem?_eq_some_iff.1 hx).2
  rw [hd]
  have := getElem?_flatMap encS 7 encS_len l (j / 7) x (j % 7) ((encS x)[j % 7]!) hx (by rw [getElem!_pos (encS x) _ hm]; exact List.getElem?_eq_getElem hm)
  rw [show j / 7 * 7 + j % 7 = j from by omega] at this
  exact this

theorem rdl_holds {w : World} {g cap : Nat} {d : Array Stay} (hb : g < w.heap.size) (hc : d.size ≤ cap) (hs : d.size ≤ 140737488355328) (h : Go.Sort.HoldsK encS 7 w g 0 d) : RdL w (.slice (some ⟨g, 0, none⟩) d.size cap) 7 encS d.toList := by
  refine ⟨some ⟨g, 0, none⟩, cap, by simp, by simpa using hc, by simpa using hs, fun _ => ⟨g, 0, rfl, hb, fun i x hx j u hu => ?_⟩⟩
  have hi : i < d.size := by have := (List.getElem?_eq_some_iff.1 hx).1; simpa using this
  have hj : j < 7 := by have := (List.getElem?_eq_some_iff.1 hu).1; rw [encS_len] at this; exact this
  have := (Go.Sort.HoldsK.cell h hi hj).1
  rw [this]
  have e1 : d[i]! = x := by
    rw [getElem!_pos d _ hi]
    simpa using (List.getElem?_eq_some_iff.1 hx).2
  rw [e1]
  have hjl : j < (encS x).length := by rw [encS_len]; exact hj
  rw [getElem!_pos (encS x) _ hjl]
  rw [List.getElem?_eq_getElem hjl] at hu
  exact hu

theorem grown_sort (w : World) (g n : Nat) (d : Array Stay) (os : Array Obj) : w.grownBy (sortWorldK encS 7 w g 0 n d os) (some g) := by
  refine ⟨rfl, rfl, rfl, size_sortWorldK_c encS 7 w g 0 n d os, fun k hk hne => ?_⟩
  have hkg : k ≠ g := fun h => hne (by rw [h])
  unfold sortWorldK
  rw [Go.Sort.heap_grow_old _ _ (by rw [Go.Sort.size_putRowK]; exact hk)]
  unfold Go.Sort.putRowK Go.Sort.putRow Go.Sort.mapBlock
  show (Array.modify w.heap g _)[k]? = _
  rw [Array.getElem?_modify, if_neg (Ne.symm hkg)]

set_option maxHeartbeats 1000000 in
theorem sort_any (w : World) (base g cap : Nat) (l : List Stay) (hown : w.ownsRow base 103 7 (.slice (some ⟨g, 0, none⟩) l.length cap) l.length (l.flatMap encS)) (hcap : l.length ≤ cap) (hlen : l.length ≤ 60000) :
    Calls Try.prog 88 #[.slice (some ⟨g, 0, none⟩) l.length cap, .func (.func 89) #[] #[]] w fun e w' =>
      e = .returned (.tuple #[]) ∧ ∃ d : List Stay, d.Perm l ∧ d.Pairwise (fun a b => a.enter ≤ b.enter) ∧ RdL w' (.slice (some ⟨g, 0, none⟩) l.length cap) 7 encS d ∧ w.grownBy w' (some g) := by
  have eg : ∀ args w, (callFunc 89 args).run Try.prog w = .ok (.enter 89 args) w := enters_of Try.func89 (by kernel_rfl) rfl
  have hg := (own_lt hown).2
  have hH := holds_own hown
  have hcon := AnyQ.slices_SortFunc Try.lsort 7 Try.isAgg103 Try.sizeOf103 encS encS_len encS_one cfS swoS 89 #[] g 0 cap l.toArray w eg (fun _ _ _ _ x y => sort_closure x y _) hH hg (by simp; omega)
  change Calls Try.prog 88 _ _ _ at hcon
  simp only [List.size_toArray] at hcon
  refine hcon.mono ?_
  rintro e w' ⟨rfl, d', n, os, hp, hs, rfl⟩
  have hsz : d'.size = l.length := by have := hp.1; simpa using this
  have hperm : d'.toList.Perm l := by
    have h2 := hp.2.2
    have e1 : d'.extract 0 l.length = d' := by rw [← hsz]; simp
    rw [e1] at h2
    simpa using h2
  refine ⟨rfl, d'.toList, hperm, ?_, ?_, grown_sort w g n d' os⟩
  · rw [List.pairwise_iff_getElem]
    intro i j hi hj hij
    have hj' : j < d'.size := by simpa using hj
    have hi' : i < d'.size := by simpa using hi
    have := hs i j (Nat.zero_le _) hij (by omega)
    rw [ltS, getElem!_pos d' _ hj', getElem!_pos d' _ hi'] at this
    simp at this
    simpa using this
  · rw [← hsz]
    exact rdl_holds (Nat.lt_of_lt_of_le hg (size_sortWorldK_c encS 7 w g 0 n d' os)) (by omega) (by omega) (holdsK_sortWorldK_c encS 7 w g 0 l.toArray d' n os hH hg (by simpa using hsz))

theorem sortNone_any (w : World) (p : Option Addr) (cap : Nat) : Calls Try.prog 88 #[.slice p 0 cap, .func (.func 89) #[] #[]] w fun e w' => e = .returned (.tuple #[]) ∧ w' = w := by
  have hcon := AnyF.slices_SortFunc_none Try.lsort p cap (.func (.func 89) #[] #[]) w
  exact hcon
theorem deleteNone_any (w : World) (v : Value) (hv : v = .slice none 0 0) : Calls Try.prog 86 #[v, .func (.func 87) #[] #[]] w fun e w' => e = .returned (.slice none 0 0) ∧ Below w.heap.size w w' := by
  subst hv
  go_enter Try.func86, Try.ntmps86
  go_wp2_with fail
  refine (indexOut_any _ _ [] RdL.nil).mono ?_
  rintro en w1 ⟨z, rfl, ho, b1⟩
  rcases ho with ⟨rfl, _⟩ | ⟨k, x, rfl, hx, _, _⟩
  · go_wp2
    go_ret
    exact ⟨rfl, b1⟩
  · simp at hx

/-- DeleteFunc and SortFunc, whatever the stays are -/
theorem delete_all (w : World) (base : Nat) (v : Value) (l : List Stay) (hown : w.ownsRow base 103 7 v l.length (l.flatMap encS)) (hlen : l.length ≤ 60000) :
    Calls Try.prog 86 #[v, .func (.func 87) #[] #[]] w fun e w' =>
      ∃ v', e = .returned v' ∧ w'.ownsRow base 103 7 v' (keepL l).length ((keepL l).flatMap encS) ∧ ∀ B, B ≤ base → B ≤ w.heap.size → Below B w w' := by
  have hb : ∀ g, v.ownBlock = some g → base ≤ g ∧ g < w.heap.size := hown.lt
  rcases hown.2 with ⟨hv, h0⟩ | ⟨g, cap, cur, rfl, hbg, hg, hnc, _⟩
  · have hl : l = [] := List.eq_nil_of_length_eq_zero h0
    refine (deleteNone_any w v hv).mono ?_
    rintro e w' ⟨rfl, b⟩
    subst hl
    exact ⟨_, rfl, World.ownsRow_nil _ _ _ _, fun B hB hh => b.mono hh⟩
  · refine (delete_any w base g cap l hown hlen hnc).mono ?_
    rintro e w' ⟨rfl, h1, h2⟩
    exact ⟨_, rfl, h1, fun B hB hh => (Below.refl B w).grown h2 hh (fun j hj => by cases hj; exact Nat.le_trans hB hbg)⟩
theorem sort_all (w : World) (base : Nat) (v : Value) (l : List Stay) (hown : w.ownsRow base 103 7 v l.length (l.flatMap encS)) (hlen : l.length ≤ 60000) :
    Calls Try.prog 88 #[v, .func (.func 89) #[] #[]] w fun e w' =>
      e = .returned (.tuple #[]) ∧ ∃ d : List Stay, d.Perm l ∧ d.Pairwise (fun a b => a.enter ≤ b.enter) ∧ RdL w' v 7 encS d ∧ ∀ B, B ≤ base → B ≤ w.heap.size → Below B w w' := by
  rcases hown.2 with ⟨hv, h0⟩ | ⟨g, cap, cur, rfl, hbg, hg, hnc, _⟩
  · have hl : l = [] := List.eq_nil_of_length_eq_zero h0
    subst hl hv
    refine (sortNone_any w none 0).mono ?_
    rintro e w' ⟨rfl, rfl⟩
    exact ⟨rfl, [], List.Perm.refl _, List.Pairwise.nil, RdL.nil, fun _ _ _ => Below.refl _ _⟩
  · refine (sort_any w base g cap l hown hnc hlen).mono ?_
    rintro e w' ⟨rfl, d, h1, h2, h3, h4⟩
    exact ⟨rfl, d, h1, h2, h3, fun B hB hh => (Below.refl B w).grown h4 hh (fun j hj => by cases hj; exact Nat.le_trans hB hbg)⟩

set_option maxRecDepth 100000 in
set_option maxHeartbeats 4000000 in
theorem entries_any (w : World) (v : Value) (l : List Ev) (h : RdL w v 4 encE l) (hwf : ∀ e ∈ l, wfE e) (hlen : l.length ≤ 60000) :
    Calls Try.prog 55 #[v] w fun e w' => ∃ v', e = .returned v' ∧ RdL w' v' 1 encI ((entTo (tallyL l) l.length).map Stay.thread) ∧ Below w.heap.size w w' := by
  obtain ⟨i0, hi, hz0, hz1, hz2⟩ := info_parts Try.infoInt
  obtain ⟨A, cap, rfl, l1, l2, hr⟩ := h
  have HR : Hid (RdL w (.slice A l.length cap) 4 encE l) := Lib.hid ⟨A, cap, rfl, l1, l2, hr⟩
  have HW := Lib.hid hwf
  clear hr hwf
  have hmf : ∀ (fn : Fn) (first cap : Array Value) (w : World), (Instr.makeFunc fn first cap).run Try.prog w = .ok (.func fn first cap) w := fun _ _ _ _ => rfl
  go_enter Try.func55, Try.ntmps55
  go_wp2_with fail
  refine (tallyOf_any _ _ l HR.out HW.out hlen).mono ?_
  rintro en w1 ⟨v1, rfl, hown, hb⟩
  have htl := tallyL_len l
  have hkl := keepL_len (tallyL l)
  have hb1 := hb.size
  go_wp2_with fail
  refine (delete_all w1 (w.heap.size + 1) v1 (tallyL l) hown (by omega)).mono ?_
  rintro en w2 ⟨v2, rfl, hown2, hb2⟩
  have hb2' : Below w.heap.size w1 w2 := hb2 w.heap.size (by omega) hb1
  have hb3 := hb2'.size
  go_wp2_with fail
  refine (sort_all w2 (w.heap.size + 1) v2 (keepL (tallyL l)) hown2 (by omega)).mono ?_
  rintro en w3 ⟨rfl, d, hp, hs, hrd, hb4⟩
  have hd := entries_sorted l d hp hs
  have hdl : d.length ≤ 60000 := by rw [hp.length_eq]; omega
  have HB : Hid (Below w.heap.size w w3) := Lib.hid (hb.trans (hb2'.trans (hb4 w.heap.size (by omega) (by omega))))
  obtain ⟨A3, c3, rfl, p1, p2, hr3⟩ := hrd
  have HR3 := Lib.hid hr3
  have HD := Lib.hid hd
  clear hown hb hown2 hb2 hb2' hp hs hb4 hr3 hd
  go_wp2
  go_loopw [4, 14] (fun o i wr => ∃ k : Nat, i = .int .i64 k ∧ k ≤ d.length ∧ wr.ownsRow w3.heap.size 3 1 o ((d.take k).map Stay.thread).length (((d.take k).map Stay.thread).flatMap encI) ∧ Below w3.heap.size w3 wr) (fun _ i _ => d.length - (intOf i).toNat)
  case atStart => exact ⟨0, rfl, by omega, World.ownsRow_nil _ _ _ _, Below.refl _ _⟩
  case round =>
    obtain ⟨k, rfl, hk, hown, hbel⟩ := hrel
    have hle := hbel.size
    by_cases hlt : k < d.length
    · obtain ⟨bl, off, rfl, hbl, hc⟩ := HR3.out (by omega)
      obtain ⟨x, hx⟩ := getElem?_lt hlt
      have a0 := (hbel.cell (p := ⟨bl, off + k * 7 + 0, none⟩) hbl).trans (hc k x hx 0 _ rfl)
      have a1 := (hbel.cell (p := ⟨bl, off + k * 7 + 1, none⟩) hbl).trans (hc k x hx 1 _ rfl)
      have a2 := (hbel.cell (p := ⟨bl, off + k * 7 + 2, none⟩) hbl).trans (hc k x hx 2 _ rfl)
      have a3 := (hbel.cell (p := ⟨bl, off + k * 7 + 3, none⟩) hbl).trans (hc k x hx 3 _ rfl)
      have a4 := (hbel.cell (p := ⟨bl, off + k * 7 + 4, none⟩) hbl).trans (hc k x hx 4 _ rfl)
      have a5 := (hbel.cell (p := ⟨bl, off + k * 7 + 5, none⟩) hbl).trans (hc k x hx 5 _ rfl)
      have a6 := (hbel.cell (p := ⟨bl, off + k * 7 + 6, none⟩) hbl).trans (hc k x hx 6 _ rfl)
      simp only [Nat.add_zero] at a0
      have htk := take_succ_of hx
      obtain ⟨pre, hpre⟩ : ∃ pre, pre = (d.take k).map Stay.thread := ⟨_, rfl⟩
      have hpl : pre.length ≤ 60000 := by rw [hpre, List.length_map, List.length_take]; omega
      rw [← hpre] at hown
      have hnx : (d.take (k + 1)).map Stay.thread = pre ++ [x.thread] := by rw [htk, hpre]; simp
      have HN := Lib.hid hnx
      have HBE := Lib.hid hbel
      have hol := hown.lt
      clear hc hx htk hpre hnx
      go_wp2_with (at_builtin; refine wpList_append_own _ rfl _ _ 26 rfl w3.heap.size 3 i0 (.int .i64 0) 1 8 Try.underlying26 hi hz0 hz1 hz2 rfl (by decide) _ _ _ rfl ((hown.alloc _).alloc _) ⟨wr.heap.size + 1, 0, none⟩ 1 1 (encI x.thread) rfl rfl (int_cells _ x.thread (by simp)) (encI_one _) ?c3 ?c4 ?c5 ?_)
      case c3 => unfold maxLen; omega
      case c4 => omega
      case c5 => first | (simp; omega) | omega
      intro v' w4 h3 hg3 _
      have hfin : w4.ownsRow w3.heap.size 3 1 v' (pre ++ [x.thread]).length ((pre ++ [x.thread]).flatMap encI) ∧ Below w3.heap.size w3 w4 :=
        ⟨by simpa [List.flatMap_append, List.flatMap_cons] using h3, ((HBE.out.alloc hle _).alloc (by simp; omega) _).grown hg3 (by simp; omega) (fun j hj => (hol j hj).1)⟩
      have HFF := Lib.hid hfin
      clear hfin h3 hg3 hown hbel
      go_wp2
      go_roundw
      case rel => exact ⟨k + 1, by go_num, by omega, by rw [HN.out]; exact HFF.out.1, HFF.out.2⟩
      case measure => first | (simp [intOf]; done) | (simp [intOf]; omega)
    · obtain rfl : k = d.length := by omega
      rw [List.take_length] at hown
      have HH := Lib.hid (And.intro hown hbel)
      clear hown hbel
      go_wp2
      go_ret
      rw [← HD.out]
      exact ⟨_, rfl, RdL.of_own encI_len rfl (by rw [List.length_map]; omega) HH.out.1, HB.out.trans (HH.out.2.mono HB.out.size)⟩
end Go.Proofs.Ytfbiejkdeadheaa
