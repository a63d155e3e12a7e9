/- Joined: Dt3, Dt1, Dt4, Dt5, Lf48, Dk3, Dk4. -/
import Derived.Test.YtgilghiegfgjeaaGreatDoorRows
import Derived.ScopeJumps
import Derived.WalkMore
import Derived.Laws.BytesString
import Derived.Laws.Strings
import Derived.Shelf.Strings.FieldsFuncGrows
import Derived.Lib.FieldsP
import Derived.Laws.RangeString
import Derived.Test.YtgilghiegfgjeaaGreatDoorMgDeskHeads3
section
set_option linter.unusedVariables false
set_option linter.unusedSimpArgs false
/- Layer 3: dec.Take, dec.Parse: a text's number. -/
namespace Go.Proofs.YtgilghiegfgjeaaGreatDoor
open Go.RowKit Go.Shelf Dk

theorem hasp_any (w : World) (s p : ByteArray) : Calls Tryz.prog 100 #[.string s, .string p] w fun e w' => e = .returned (.bool (Lib.hasPrefix s.data.toList p.data.toList)) ∧ w' = w :=
  Any.strings_HasPrefix Tryz.lhasp s p w
theorem hasp_one (l : List UInt8) : Lib.hasPrefix l [45] = true ∧ l = 45 :: l.drop 1 ∨ Lib.hasPrefix l [45] = false ∧ l.head? ≠ some 45 := by
  cases l with
  | nil => right; exact ⟨rfl, by simp⟩
  | cons b l =>
    by_cases h : b = 45
    · subst h; left; exact ⟨by simp [Lib.hasPrefix], by simp⟩
    · right; exact ⟨by simp [Lib.hasPrefix, List.isPrefixOf]; exact fun e => absurd e.symm h, by simpa using h⟩
theorem headGet (s : ByteArray) (a : Nat) (h : a < s.size) : (s.data.toList.drop a).head? = some (s[a]'h) := by
  rw [List.head?_eq_getElem?]
  exact dropGet s a 0 h
set_option maxHeartbeats 2000000 in
theorem take_true (w : World) (s : ByteArray) (hs : s.size ≤ 4294967296) (hp : Lib.hasPrefix s.data.toList [45] = true) (ds : List UInt8) (hds : s.data.toList.drop 1 = ds) (hl : lineOf true ds = s.data.toList) (ha : 1 ≤ s.size) :
    Calls Tryz.prog 60 #[.string s] w fun e w' => w' = w ∧ ∃ (n : Int) (many : Nat), inR n ∧ e = .returned (.tuple #[.int .i64 n, .int .i64 many]) ∧ TakeIs s.data.toList n many := by
  have i0 : inR 0 := by unfold inR; omega
  have Hl := Lib.hid (And.intro hl hds)
  have HB : Hid (true = false → ds.head? ≠ some 45) := Lib.hid (fun e => by cases e)
  have HBx : ∀ (x : Bool), x = true → Hid (x = false → ds.head? ≠ some 45) := fun x hx => hx ▸ HB
  clear HB
  clear hl hds
  go_enter Tryz.func60, Tryz.ntmps60
  go_wp2_with fail
  refine (hasp_any _ _ _).mono ?_
  rintro e w1 ⟨rfl, hw⟩
  obtain rfl := hw.symm
  rw [show (ByteArray.mk #[45]).data.toList = [45] from rfl, hp]
  go_wp2_with fail
  refine (digits_any _ s 1 ha hs).mono ?_
  rintro e w1 ⟨k, rfl, HL0, hw⟩
  obtain rfl := hw.symm
  rw [Hl.out.2] at HL0
  have hk : k ≤ s.size - 1 := by
    have := HL0.le
    rwa [← Hl.out.2, List.length_drop, lenData] at this
  have HL := Lib.hid HL0
  clear HL0
  by_cases k0 : k = 0
  · subst k0
    go_wp2
    go_ret2
    exact ⟨rfl, 0, 0, i0, rfl, Hl.out.1 ▸ take_zero (HBx _ rfl).out HL.out (.inl rfl) 0⟩
  · have hat : 1 < s.size := by omega
    have hhd := headGet s 1 hat
    rw [Hl.out.2] at hhd
    have HH := Lib.hid hhd
    clear hhd
    by_cases h48 : (s[1]'hat).toNat = 48
    · have e48 : s[1]'hat = 48 := UInt8.toNat_inj.1 h48
      have HE := Lib.hid (HH.out.trans (congrArg some e48))
      clear e48
      go_wp2
      go_ret2
      exact ⟨rfl, 0, 0, i0, rfl, Hl.out.1 ▸ take_zero (HBx _ rfl).out HL.out (.inr ⟨HE.out, rfl⟩) 0⟩
    · have n48 : ds.head? ≠ some 48 := by
        rw [HH.out]
        intro e
        injection e with e
        exact h48 (by rw [e]; rfl)
      have HN := Lib.hid n48
      clear n48
      go_wp2
      go_loopw [7, 34] (fun n7 j wr => ∃ i : Nat, j = .int .i64 i ∧ i ≤ k ∧ n7 = .int .i64 (num true (val (ds.take i))) ∧ inR (num true (val (ds.take i))) ∧ wr = w) (fun _ j _ => k - (intOf j).toNat)
      case atStart => exact ⟨0, rfl, by omega, by simp [num, val], by simp [num, val, inR], rfl⟩
      case round =>
        obtain ⟨i, rfl, hi, rfl, hr, rfl⟩ := hrel
        have HR := Lib.hid hr
        clear hr
        by_cases hik : i < k
        · have hlt : 1 + i < s.size := by omega
          have hget := dropGet s 1 i (by omega)
          rw [Hl.out.2] at hget

          have hD := HL.out.on i _ hik hget
          have hlen : i < ds.length := by have := HL.out.le; omega
          have hge : ds[i] = s[1 + i]'hlt := by
            have := List.getElem?_eq_getElem hlen
            rw [hget] at this
            injection this with this
            exact this.symm
          have ts := tstep (below := true) hlen (hge ▸ hD)
          rw [hge] at ts
          simp only [if_true] at ts
          have TS := Lib.hid ts
          have hD2 : 48 ≤ (s[1 + i]'hlt).toNat ∧ (s[1 + i]'hlt).toNat ≤ 57 := hD
          clear hge hget ts hD
          go_wp2_with fail
          refine (next_any _ (num true (val (ds.take i))) (((s[1 + i]'hlt).toNat : Int) - 48) true HR.out (by omega) (by simp [num])).mono ?_
          rintro e w1 ⟨hw, ⟨hin, rfl⟩ | ⟨hni, rfl⟩⟩
          · obtain rfl := hw.symm
            simp only [if_true] at hin ⊢
            rw [← TS.out] at hin ⊢
            have HI := Lib.hid hin
            clear hin
            go_wp2
            go_roundw
            case rel =>
              exact ⟨_, _, _, _, _, _, _, ⟨i + 1, rfl, by omega, rfl, HI.out⟩, rfl, rfl, rfl, rfl, rfl, rfl, by go_num⟩
            case measure => simp [intOf]; omega
          · obtain rfl := hw.symm
            simp only [if_true] at hni
            rw [← TS.out] at hni
            have HI := Lib.hid hni
            clear hni
            go_wp2
            go_ret2
            exact ⟨rfl, _, (if true = true then 1 else 0) + i, HR.out, by simp, Hl.out.1 ▸ take_over (HBx _ rfl).out HL.out hik HI.out _⟩
        · obtain rfl : i = k := by omega
          go_wp2
          go_ret2
          exact ⟨rfl, _, (if true = true then 1 else 0) + i, HR.out, by simp, Hl.out.1 ▸ take_done (HBx _ rfl).out HL.out k0 HN.out HR.out⟩
set_option maxHeartbeats 2000000 in
theorem take_false (w : World) (s : ByteArray) (hs : s.size ≤ 4294967296) (hp : Lib.hasPrefix s.data.toList [45] = false) (ds : List UInt8) (hds : s.data.toList.drop 0 = ds) (hl : lineOf false ds = s.data.toList) (ha : 0 ≤ s.size) (hbb : ds.head? ≠ some 45) :
    Calls Tryz.prog 60 #[.string s] w fun e w' => w' = w ∧ ∃ (n : Int) (many : Nat), inR n ∧ e = .returned (.tuple #[.int .i64 n, .int .i64 many]) ∧ TakeIs s.data.toList n many := by
  have i0 : inR 0 := by unfold inR; omega
  have Hl := Lib.hid (And.intro hl hds)
  have HB : Hid (false = false → ds.head? ≠ some 45) := Lib.hid (fun e => hbb)
  have HBx : ∀ (x : Bool), x = false → Hid (x = false → ds.head? ≠ some 45) := fun x hx => hx ▸ HB
  clear HB
  clear hl hds hbb
  go_enter Tryz.func60, Tryz.ntmps60
  go_wp2_with fail
  refine (hasp_any _ _ _).mono ?_
  rintro e w1 ⟨rfl, hw⟩
  obtain rfl := hw.symm
  rw [show (ByteArray.mk #[45]).data.toList = [45] from rfl, hp]
  go_wp2_with fail
  refine (digits_any _ s 0 ha hs).mono ?_
  rintro e w1 ⟨k, rfl, HL0, hw⟩
  obtain rfl := hw.symm
  rw [Hl.out.2] at HL0
  have hk : k ≤ s.size - 0 := by
    have := HL0.le
    rwa [← Hl.out.2, List.length_drop, lenData] at this
  have HL := Lib.hid HL0
  clear HL0
  by_cases k0 : k = 0
  · subst k0
    go_wp2
    go_ret2
    exact ⟨rfl, 0, 0, i0, rfl, Hl.out.1 ▸ take_zero (HBx _ rfl).out HL.out (.inl rfl) 0⟩
  · have hat : 0 < s.size := by omega
    have hhd := headGet s 0 hat
    rw [Hl.out.2] at hhd
    have HH := Lib.hid hhd
    clear hhd
    by_cases h48 : (s[0]'hat).toNat = 48
    · have e48 : s[0]'hat = 48 := UInt8.toNat_inj.1 h48
      have HE := Lib.hid (HH.out.trans (congrArg some e48))
      clear e48
      go_wp2
      go_ret2
      exact ⟨rfl, 0, 1, i0, rfl, Hl.out.1 ▸ take_nought (HBx _ rfl).out HL.out HE.out rfl⟩
    · have n48 : ds.head? ≠ some 48 := by
        rw [HH.out]
        intro e
        injection e with e
        exact h48 (by rw [e]; rfl)
      have HN := Lib.hid n48
      clear n48
      go_wp2
      go_loopw [7, 34] (fun n7 j wr => ∃ i : Nat, j = .int .i64 i ∧ i ≤ k ∧ n7 = .int .i64 (num false (val (ds.take i))) ∧ inR (num false (val (ds.take i))) ∧ wr = w) (fun _ j _ => k - (intOf j).toNat)
      case atStart => exact ⟨0, rfl, by omega, by simp [num, val], by simp [num, val, inR], rfl⟩
      case round =>
        obtain ⟨i, rfl, hi, rfl, hr, rfl⟩ := hrel
        have HR := Lib.hid hr
        clear hr
        by_cases hik : i < k
        · have hlt : i < s.size := by omega
          have hget := dropGet s 0 i (by omega)
          rw [Hl.out.2] at hget
          simp only [Nat.zero_add] at hget
          have hD := HL.out.on i _ hik hget
          have hlen : i < ds.length := by have := HL.out.le; omega
          have hge : ds[i] = s[i]'hlt := by
            have := List.getElem?_eq_getElem hlen
            rw [hget] at this
            injection this with this
            exact this.symm
          have ts := tstep (below := false) hlen (hge ▸ hD)
          rw [hge] at ts
          simp only [Bool.false_eq_true, if_false] at ts
          have TS := Lib.hid ts
          have hD2 : 48 ≤ (s[i]'hlt).toNat ∧ (s[i]'hlt).toNat ≤ 57 := hD
          clear hge hget ts hD
          go_wp2_with fail
          refine (next_any _ (num false (val (ds.take i))) (((s[i]'hlt).toNat : Int) - 48) false HR.out (by omega) (by simp [num])).mono ?_
          rintro e w1 ⟨hw, ⟨hin, rfl⟩ | ⟨hni, rfl⟩⟩
          · obtain rfl := hw.symm
            simp only [Bool.false_eq_true, if_false] at hin ⊢
            rw [← TS.out] at hin ⊢
            have HI := Lib.hid hin
            clear hin
            go_wp2
            go_roundw
            case rel =>
              exact ⟨i + 1, by go_num, by omega, rfl, HI.out, trivial⟩
            case measure => simp [intOf]; omega
          · obtain rfl := hw.symm
            simp only [Bool.false_eq_true, if_false] at hni
            rw [← TS.out] at hni
            have HI := Lib.hid hni
            clear hni
            go_wp2
            go_ret2
            exact ⟨rfl, _, (if false = true then 1 else 0) + i, HR.out, by simp, Hl.out.1 ▸ take_over (HBx _ rfl).out HL.out hik HI.out _⟩
        · obtain rfl : i = k := by omega
          go_wp2
          go_ret2
          exact ⟨rfl, _, (if false = true then 1 else 0) + i, HR.out, by simp, Hl.out.1 ▸ take_done (HBx _ rfl).out HL.out k0 HN.out HR.out⟩
theorem take_any (w : World) (s : ByteArray) (hs : s.size ≤ 4294967296) : Calls Tryz.prog 60 #[.string s] w fun e w' => w' = w ∧ ∃ (n : Int) (many : Nat), inR n ∧ e = .returned (.tuple #[.int .i64 n, .int .i64 many]) ∧ TakeIs s.data.toList n many := by
  rcases hasp_one s.data.toList with ⟨h1, h2⟩ | ⟨h1, h2⟩
  · refine take_true w s hs h1 (s.data.toList.drop 1) rfl ?_ ?_
    · rw [h2]; rfl
    · have := congrArg List.length h2
      rw [List.length_cons, lenData] at this
      omega
  · exact take_false w s hs h1 s.data.toList rfl rfl (Nat.zero_le _) h2
def parseV : Option Int → Value
  | some z => .tuple #[.int .i64 z, .int .i64 0]
  | none => .tuple #[.int .i64 0, .int .i64 2]
/-- dec.Parse: the number of a text, if it is one -/
theorem parse_any (w : World) (s : ByteArray) (hs : s.size ≤ 4294967296) : Calls Tryz.prog 35 #[.string s] w fun e w' => w' = w ∧
    e = .returned (parseV (parse s.data.toList)) := by
  go_enter Tryz.func35, Tryz.ntmps35
  go_wp2_with fail
  refine (take_any w s hs).mono ?_
  rintro e w1 ⟨hw, n, many, hin, rfl, ht1, ht2⟩
  obtain rfl := hw.symm
  clear hin
  cases hp : parse s.data.toList with
  | some z =>
    obtain ⟨rfl, e2, e3⟩ := ht1 z hp
    rw [lenData] at e2
    subst e2
    have HP := Lib.hid hp
    clear ht1 ht2 hp
    go_wp2
    go_ret2
    exact ⟨rfl, by rw [HP.out]; rfl⟩
  | none =>
    have h := ht2 hp
    rw [lenData] at h
    have HP := Lib.hid hp
    clear ht1 ht2 hp
    by_cases h0 : many = 0
    · subst h0
      clear h
      go_wp2
      go_ret2
      exact ⟨rfl, by rw [HP.out]; rfl⟩
    · have h1 : many ≠ s.size := by omega
      clear h
      go_wp2
      · go_ret2
        exact ⟨rfl, by rw [HP.out]; rfl⟩
      · rename_i hb
        exfalso
        simp at hb
        omega
end Go.Proofs.YtgilghiegfgjeaaGreatDoor
end
section
set_option linter.unusedVariables false
set_option linter.unusedSimpArgs false
/- Layer 3: dec.Text: a number's text. -/
namespace Go.Proofs.YtgilghiegfgjeaaGreatDoor
open Go.RowKit Dk

def byteV (b : UInt8) : Value := .int .u8 (b.toNat : Int)
theorem strOfBytes (L : List UInt8) : ∀ (s : ByteArray), ((L.map fun b => (b.toNat : Int)).foldl (fun r n => r.push (UInt8.ofNat n.toNat)) s) = ⟨s.data ++ L.toArray⟩ := by
  induction L with
  | nil => intro s; cases s; simp
  | cons b L ih =>
    intro s
    rw [List.map_cons, List.foldl_cons, ih]
    cases s
    simp [ByteArray.push]
theorem addr_add (b o j : Nat) : (⟨b, o, none⟩ : Addr).add j = ⟨b, o + j, none⟩ := by
  unfold Addr.add
  by_cases h : j = 0
  · subst h; simp
  · simp [h]
/-- bytes that lie in a block, as a string -/
theorem conv_bytes {P : Program} (src dst e : TypeId) (hs : P.underlying src = some (.slice e)) (he : P.underlying e = some (.int .u8)) (hd : P.underlying dst = some .string) {w : World} {b o : Nat} (L : List UInt8) (c : Nat)
    (h : ∀ (j : Nat) x, L[j]? = some x → w.cell? ⟨b, o + j, none⟩ = some (byteV x)) : (convert src dst (.slice (some ⟨b, o, none⟩) L.length c)).run P w = .ok (.string ⟨L.toArray⟩) w := by
  rw [run_convert_bytes_string w src dst e _ _ _ hs he hd]
  have hl := run_loadCells_list (P := P) w ⟨b, o, none⟩ ((L.map fun b => (b.toNat : Int)).map (Value.int .u8)) (fun j v hv => by
    rw [List.getElem?_map, List.getElem?_map] at hv
    cases hx : L[j]? with
    | none => rw [hx] at hv; cases hv
    | some x => rw [hx] at hv; injection hv with hv; rw [← hv]; exact (show (⟨b, o, none⟩ : Addr).add j = ⟨b, o + j, none⟩ from addr_add _ _ _) ▸ h j x hx)
  rw [show ((L.map fun b => (b.toNat : Int)).map (Value.int .u8)).length = L.length by simp] at hl
  rw [run_bytesToString w _ _ _ _ hl, strOfBytes]
  simp
theorem tx_nums {left : Int} (hl : -9223372036854775808 ≤ left ∧ left ≤ 9223372036854775807) : wrap64 (left.tdiv 10) = left.tdiv 10 ∧ (left.tdiv 10).natAbs = left.natAbs / 10 ∧ (left.tmod 10).natAbs < 10 ∧ (left.tmod 10 < 0 → wrap64 (-left.tmod 10) = ((left.tmod 10).natAbs : Int)) ∧ (¬ left.tmod 10 < 0 → left.tmod 10 = ((left.tmod 10).natAbs : Int)) := by
  have q1 : (left.tdiv 10).natAbs = left.natAbs / 10 := by rw [Int.natAbs_tdiv]; rfl
  have q2 : (left.tmod 10).natAbs = left.natAbs % 10 := by rw [Int.natAbs_tmod]; rfl
  generalize left.tdiv 10 = a at *
  generalize left.tmod 10 = b at *
  unfold wrap64
  refine ⟨by omega, by omega, by omega, fun h => by omega, fun h => by omega⟩
theorem tx_at (k : Nat) (hk : k ≤ 20) : wrap64 (((k + 1 : Nat) : Int) - 1) = (k : Int) := by unfold wrap64; omega
structure TxD (w w' : World) (at_ : Nat) (cs : Array Value) (L : List UInt8) : Prop where
  bel : Below w.heap.size w w'
  blk : Blk w' w.heap.size 71 cs
  size : cs.size = 20
  len : at_ + L.length = 20
  on : ∀ (j : Nat) x, L[j]? = some x → cs[at_ + j]? = some (byteV x)
theorem TxD.put {w w' : World} {k : Nat} {cs : Array Value} {L : List UInt8} (h : TxD w w' (k + 1) cs L) (v : Value) (x : UInt8) (hv : v = byteV x) : TxD w (w'.setCell ⟨w.heap.size, k, none⟩ v) k (cs.setIfInBounds k v) (x :: L) := by
  have hk : k < cs.size := by have := h.size; have := h.len; omega
  refine ⟨h.bel.setCell (Nat.le_refl _) _, h.blk.set_ k v, by simp [h.size], by have := h.len; simp; omega, fun j y hy => ?_⟩
  cases j with
  | zero =>
    simp at hy
    subst hy
    rw [Nat.add_zero, Array.getElem?_setIfInBounds_self_of_lt hk, hv]
  | succ j =>
    rw [Array.getElem?_setIfInBounds_ne (by omega), show k + (j + 1) = k + 1 + j by omega]
    exact h.on j y (by simpa using hy)
theorem TxD.conv {w w' : World} {k : Nat} {cs : Array Value} {L : List UInt8} (h : TxD w w' k cs L) (m : Nat) (hm : m = 20 - k) : (convert 22 9 (.slice (some ⟨w.heap.size, k, none⟩) m m)).run Tryz.prog w' = .ok (.string ⟨L.toArray⟩) w' := by
  subst hm
  have := conv_bytes (P := Tryz.prog) 22 9 5 Tryz.underlying22 Tryz.underlying5 Tryz.underlying9 (w := w') (b := w.heap.size) (o := k) L (20 - k) fun j x hx => by rw [h.blk.cell]; exact h.on j x hx
  rwa [show L.length = 20 - k by have := h.len; omega] at this
structure TxJ (w w' : World) (n : Int) (at_ : Nat) (left : Int) (cs : Array Value) (L : List UInt8) : Prop extends TxD w w' at_ cs L where
  inl : inR left
  digs : Dk.digs n.natAbs = Dk.digs left.natAbs ++ L
set_option maxRecDepth 100000 in
theorem slice20 (w : World) (b m : Nat) (z : Int) (hz : z = m) (hm : m ≤ 19) : (Instr.sliceAt 71 (.pointer (some ⟨b, 0, none⟩)) (some (.int .i64 z)) none none).run Tryz.prog w = .ok (.slice (some ⟨b, m, none⟩) (20 - m) (20 - m)) w := by
  subst hz
  rw [run_sliceAt_array_l w 71 ⟨b, 0, none⟩ Tryz.underlying71 .i64 (m : Int) (by omega) (show (m : Int) ≤ 20 by omega)]
  rw [show (sizeOf (Tryz.prog.elem 71)).run Tryz.prog w = .ok 1 w from Tryz.sizeOf5 w]
  show Result.ok (slicedAt ⟨b, 0, none⟩ (m : Int).toNat 20 20 1) w = _
  rw [Int.toNat_natCast]
  unfold slicedAt
  rw [if_neg (by omega), Nat.mul_one, addr_add, Nat.zero_add]
/-- a digit more is written -/
theorem TxJ.put {w w' : World} {n : Int} {k : Nat} {left : Int} {cs : Array Value} {L : List UInt8} (h : TxJ w w' n (k + 1) left cs L) (v : Value) (hv : v = byteV (UInt8.ofNat (48 + (left.tmod 10).natAbs))) (hl : (left.tmod 10).natAbs < 10) :
    TxD w (w'.setCell ⟨w.heap.size, k, none⟩ v) k (cs.setIfInBounds k v) (UInt8.ofNat (48 + (left.tmod 10).natAbs) :: L) ∧ Dk.digs n.natAbs = (if left.tdiv 10 = 0 then [] else Dk.digs (left.tdiv 10).natAbs) ++ UInt8.ofNat (48 + (left.tmod 10).natAbs) :: L := by
  refine ⟨h.toTxD.put v _ hv, ?_⟩
  rw [h.digs, digs_step, List.append_assoc, List.singleton_append]
theorem wp_mono' {P : Program} {c : Code} {Q Q' : Exit → Act → World → Prop} {a : Act} {w : World} (h : c.wp P Q a w) (hq : ∀ e a w, Q e a w → Q' e a w) : c.wp P Q' a w :=
  fun b k cs => let ⟨e, a', w', q, r⟩ := h b k cs; ⟨e, a', w', hq _ _ _ q, r⟩
/-- a scope of one label, which is entered from ahead too: what holds there, a measure that a pass lowers -/
theorem wp_scope_jumps' {P : Program} {Q : Exit → Act → World → Prop} {a : Act} {w : World} {c rest : Code} (l : Nat) (J : Act → World → Prop) (μ : Act → World → Nat) (hf : findLabel c l = some (.seq .skip rest))
    (first : (∀ a w, J a w → rest.wp P (Exit.jump l J Q) a w) → c.wp P (Exit.jump l J Q) a w)
    (pass : ∀ a w (J' : Act → World → Prop), (∀ a' w', J a' w' → μ a' w' < μ a w → J' a' w') → J a w → rest.wp P (Exit.jump l J' Q) a w) : (Code.scope c).wp P Q a w := by
  refine wp_scope_jumps l J μ hf (first fun a w h => wp_mono' (pass a w (fun a' w' => J a' w' ∧ μ a' w' < μ a w) (fun a' w' h1 h2 => ⟨h1, h2⟩) h) fun e a' w' hq => ?_) fun a w h => wp_seq (wp_skip (pass a w (fun a' w' => J a' w' ∧ μ a' w' < μ a w) (fun a' w' h1 h2 => ⟨h1, h2⟩) h))
  cases e with
  | goto l' => exact ⟨hq.1, hq.2.1⟩
  | _ => exact hq
theorem TxJ.room {w w' : World} {n : Int} {at_ : Nat} {left : Int} {cs : Array Value} {L : List UInt8} (h : TxJ w w' n at_ left cs L) (hn : -9223372036854775808 ≤ n ∧ n ≤ 9223372036854775807) : 2 ≤ at_ ∧ at_ ≤ 20 := by
  have h1 := digs_len 18 n.natAbs (by omega)
  have h2 := congrArg List.length h.digs
  have h3 : 1 ≤ (Dk.digs left.natAbs).length := List.length_pos_iff.2 (digs_ne _)
  rw [List.length_append] at h2
  have := h.len
  omega
theorem TxJ.cell {w w' : World} {n : Int} {at_ : Nat} {left : Int} {cs : Array Value} {L : List UInt8} (h : TxJ w w' n at_ left cs L) (k : Nat) (hk : k < 20) : ∃ z, w'.cell? ⟨w.heap.size, k, none⟩ = some z := by
  rw [h.blk.cell]
  exact ⟨cs[k]'(by rw [h.size]; exact hk), Array.getElem?_eq_getElem _⟩
def intOf' : Value → Int | .int _ q => q | _ => 0
def TxI (w : World) (n : Int) (a' : Act) (w' : World) : Prop := ∃ (at_ : Nat) (left : Int) (cs : Array Value) (L : List UInt8) (u6 u7 u8 u9 u10 u11 u12 u13 u14 u15 u16 u17 u18 u19 u20 u21 u22 u23 u24 u25 u26 u27 u28 u29 u30 u31 u32 u33 : Value), a' = { tmps := #[.int .i64 n, undef, .string ⟨#[]⟩, .pointer (some ⟨w.heap.size, 0, none⟩), .int .i64 at_, .int .i64 left, u6, u7, u8, u9, u10, u11, u12, u13, u14, u15, u16, u17, u18, u19, u20, u21, u22, u23, u24, u25, u26, u27, u28, u29, u30, u31, u32, u33], defers := [] } ∧ TxJ w w' n at_ left cs L
def txMu (a' : Act) (_ : World) : Nat := (intOf' (a'.tmps.getD 5 undef)).natAbs
set_option maxRecDepth 100000 in
set_option maxHeartbeats 4000000 in
theorem text_any (n : Int) (hn : inR n) (w : World) : Calls Tryz.prog 22 #[.int .i64 n] w fun e w' => e = .returned (.string ⟨(txt n).toArray⟩) ∧ Below w.heap.size w w' := by
  have hn' : -9223372036854775808 ≤ n ∧ n ≤ 9223372036854775807 := hn
  go_enter Tryz.func22, Tryz.ntmps22
  go_wp2
  refine wp_scope_jumps' 0 (TxI w n) txMu rfl ?_ ?_
  · intro hpass
    go_wp2
    go_step3
    rename_i hK
    refine hK _ _ (hpass _ _ ⟨20, n, _, [], _, _, _, _, _, _, _, _, _, _, _, _, _, _, _, _, _, _, _, _, _, _, _, _, _, _, _, _, rfl, ⟨⟨(Below.refl _ _).alloc (Nat.le_refl _) _, Blk.new _ _ _, rfl, rfl, fun j x h => by simp at h⟩, hn, by simp⟩⟩)
  · intro a' w' J hJg hJ0
    obtain ⟨at_, left, cs, L, u6, u7, u8, u9, u10, u11, u12, u13, u14, u15, u16, u17, u18, u19, u20, u21, u22, u23, u24, u25, u26, u27, u28, u29, u30, u31, u32, u33, rfl, HJ⟩ := hJ0
    obtain ⟨k, rfl⟩ : ∃ k, at_ = k + 1 := ⟨at_ - 1, by have := HJ.room hn'; omega⟩
    have hk := HJ.room hn'
    have hl : -9223372036854775808 ≤ left ∧ left ≤ 9223372036854775807 := HJ.inl
    have e1 := tx_at k (by omega)
    obtain ⟨z, hc⟩ := HJ.cell k (by omega)
    have hf := HJ.blk.free k
    obtain ⟨e4, q1, q2, q3, q4⟩ := tx_nums hl
    have hgo : ∀ (w1 : World) (at1 : Nat) (cs1 : Array Value) (L1 : List UInt8) (v6 v7 v8 v9 v10 v11 v12 v13 v14 v15 v16 v17 v18 v19 v20 v21 v22 v23 v24 v25 v26 v27 v28 v29 v30 v31 v32 v33 : Value), left.tdiv 10 ≠ 0 → TxJ w w1 n at1 (left.tdiv 10) cs1 L1 →
        J { tmps := #[.int .i64 n, undef, .string ⟨#[]⟩, .pointer (some ⟨w.heap.size, 0, none⟩), .int .i64 (at1 : Int), .int .i64 (left.tdiv 10), v6, v7, v8, v9, v10, v11, v12, v13, v14, v15, v16, v17, v18, v19, v20, v21, v22, v23, v24, v25, v26, v27, v28, v29, v30, v31, v32, v33], defers := [] } w1 := by
      rintro w1 at1 cs1 L1 v6 v7 v8 v9 v10 v11 v12 v13 v14 v15 v16 v17 v18 v19 v20 v21 v22 v23 v24 v25 v26 v27 v28 v29 v30 v31 v32 v33 hne HJ1
      refine hJg _ _ ⟨at1, _, cs1, L1, v6, v7, v8, v9, v10, v11, v12, v13, v14, v15, v16, v17, v18, v19, v20, v21, v22, v23, v24, v25, v26, v27, v28, v29, v30, v31, v32, v33, rfl, HJ1⟩ ?_
      show (left.tdiv 10).natAbs < left.natAbs
      omega
    clear hJg
    obtain ⟨j, rfl⟩ : ∃ j, k = j + 1 := ⟨k - 1, by omega⟩
    obtain ⟨z2, hc2⟩ := HJ.cell j (by omega)
    have hf2 := HJ.blk.free j
    have q5 : inR (left.tdiv 10) := by unfold inR; omega
    clear q3 q4 e1
    by_cases hneg : left.tmod 10 < 0
    · obtain ⟨D1, D2⟩ := HJ.put (.int .u8 (48 + -left.tmod 10)) (by unfold byteV; rw [ofNat_toNat (by omega)]; congr 1; omega) q2
      have _q := q2
      generalize UInt8.ofNat (48 + (left.tmod 10).natAbs) = x at D1 D2
      by_cases hz : left.tdiv 10 = 0
      · rw [if_pos hz, List.nil_append] at D2
        by_cases hn0 : n < 0
        · have D3 := D1.put (.int .u8 45) 45 rfl
          have hT : txt n = 45 :: x :: L := by rw [txt, if_pos hn0, D2]
          clear D2
          go_wp2
          rw [slice20 _ _ j _ (by omega) (by omega)]
          go_wp2
          rw [D3.conv _ (by omega)]
          go_wp2
          simp only [Exit.jump]
          go_ret
          exact ⟨by rw [hT]; rfl, D3.bel⟩
        · have hT : txt n = x :: L := by rw [txt, if_neg hn0, D2]
          clear D2
          go_wp2
          rw [slice20 _ _ (j + 1) _ (by omega) (by omega)]
          go_wp2
          rw [D1.conv _ (by omega)]
          go_wp2
          simp only [Exit.jump]
          go_ret
          exact ⟨by rw [hT]; rfl, D1.bel⟩
      · rw [if_neg hz] at D2
        have HJ1 : TxJ w _ n (j + 1) (left.tdiv 10) _ _ := ⟨D1, q5, D2⟩
        clear D2
        go_wp2
        go_step3
        exact ⟨rfl, hgo _ (j + 1) _ _ _ _ _ _ _ _ _ _ _ _ _ _ _ _ _ _ _ _ _ _ _ _ _ _ _ _ _ _ hz HJ1⟩
    · obtain ⟨D1, D2⟩ := HJ.put (.int .u8 (48 + left.tmod 10)) (by unfold byteV; rw [ofNat_toNat (by omega)]; congr 1; omega) q2
      have _q := q2
      generalize UInt8.ofNat (48 + (left.tmod 10).natAbs) = x at D1 D2
      by_cases hz : left.tdiv 10 = 0
      · rw [if_pos hz, List.nil_append] at D2
        by_cases hn0 : n < 0
        · have D3 := D1.put (.int .u8 45) 45 rfl
          have hT : txt n = 45 :: x :: L := by rw [txt, if_pos hn0, D2]
          clear D2
          go_wp2
          rw [slice20 _ _ j _ (by omega) (by omega)]
          go_wp2
          rw [D3.conv _ (by omega)]
          go_wp2
          simp only [Exit.jump]
          go_ret
          exact ⟨by rw [hT]; rfl, D3.bel⟩
        · have hT : txt n = x :: L := by rw [txt, if_neg hn0, D2]
          clear D2
          go_wp2
          rw [slice20 _ _ (j + 1) _ (by omega) (by omega)]
          go_wp2
          rw [D1.conv _ (by omega)]
          go_wp2
          simp only [Exit.jump]
          go_ret
          exact ⟨by rw [hT]; rfl, D1.bel⟩
      · rw [if_neg hz] at D2
        have HJ1 : TxJ w _ n (j + 1) (left.tdiv 10) _ _ := ⟨D1, q5, D2⟩
        clear D2
        go_wp2
        go_step3
        exact ⟨rfl, hgo _ (j + 1) _ _ _ _ _ _ _ _ _ _ _ _ _ _ _ _ _ _ _ _ _ _ _ _ _ _ _ _ _ _ hz HJ1⟩
end Go.Proofs.YtgilghiegfgjeaaGreatDoor
end
section
set_option linter.unusedVariables false
set_option linter.unusedSimpArgs false
/- Layer 3: the document's Text and Parse. -/
namespace Go.Proofs.YtgilghiegfgjeaaGreatDoor
open Go.RowKit Dk

set_option maxRecDepth 100000 in
theorem rtext_digit (n : Int) (hn : 0 ≤ n ∧ n < 10) (w : World) : Calls Tryz.prog 25 #[.int .i64 n] w fun e w' => e = .returned (.string ⟨(txt n).toArray⟩) ∧ w' = w := by
  have e0 : txt n = [UInt8.ofNat (48 + n.natAbs)] := txt_digit hn
  have H0 := Lib.hid e0
  clear e0
  rcases (show n = 0 ∨ n = 1 ∨ n = 2 ∨ n = 3 ∨ n = 4 ∨ n = 5 ∨ n = 6 ∨ n = 7 ∨ n = 8 ∨ n = 9 by omega) with rfl | rfl | rfl | rfl | rfl | rfl | rfl | rfl | rfl | rfl
  all_goals
    go_enter Tryz.func25, Tryz.ntmps25
    go_wp2
    go_ret
    exact ⟨by rw [H0.out]; rfl, rfl⟩
theorem bytes_app (a b : List UInt8) : (⟨a.toArray⟩ : ByteArray) ++ ⟨b.toArray⟩ = ⟨(a ++ b).toArray⟩ := by
  apply ByteArray.ext
  simp
set_option maxRecDepth 100000 in
theorem rtext_neg (n : Int) (hn : -10 < n ∧ n < 0) (w : World) : Calls Tryz.prog 25 #[.int .i64 n] w fun e w' => e = .returned (.string ⟨(txt n).toArray⟩) ∧ w' = w := by
  have H0 := Lib.hid (txt_neg_digit hn)
  have hl : (txt (-n)).length ≤ 20 := txt_len (by unfold inR; omega)
  go_enter Tryz.func25, Tryz.ntmps25
  go_wp2_with fail
  refine (rtext_digit (-n) (by omega) w).mono ?_
  rintro e w1 ⟨rfl, hw⟩
  obtain rfl := hw.symm
  go_wp2
  go_ret
  exact ⟨by rw [H0.out]; exact congrArg (fun x => Ending.returned (.string x)) (bytes_app [45] (txt (-n))), rfl⟩
set_option maxRecDepth 100000 in
set_option maxHeartbeats 2000000 in
theorem rtext_any : ∀ (m : Nat) (n : Int), n.natAbs < m → inR n → ∀ (w : World), Calls Tryz.prog 25 #[.int .i64 n] w fun e w' => e = .returned (.string ⟨(txt n).toArray⟩) ∧ w' = w := by
  intro m
  induction m with
  | zero => intro n h; omega
  | succ m ih =>
    intro n hm hr w
    have hn' : -9223372036854775808 ≤ n ∧ n ≤ 9223372036854775807 := hr
    by_cases h1 : 0 ≤ n ∧ n < 10
    · exact rtext_digit n h1 w
    · by_cases h2 : -10 < n ∧ n < 0
      · exact rtext_neg n h2 w
      · have H0 := Lib.hid (txt_step (z := n) (by omega))
        obtain ⟨e4, q1, q2, q3, q4⟩ := tx_nums hn'
        have r1 : inR (n.tdiv 10) := by unfold inR; omega
        have c1 := ih (n.tdiv 10) (by omega) r1
        have l1 := txt_len r1
        have c2 := rtext_digit ((n.tmod 10).natAbs : Int) (by omega)
        have l2 : (txt ((n.tmod 10).natAbs : Int)).length ≤ 20 := txt_len (by unfold inR; omega)
        have C := Lib.hid (And.intro c1 c2)
        clear c1 c2 ih r1 l2
        by_cases h3 : 0 ≤ n
        · have e3 : ((n.tmod 10).natAbs : Int) = n % 10 := by
            rw [Int.tmod_eq_emod_of_nonneg h3]
            omega
          have l3 : (txt (n % 10)).length ≤ 20 := txt_len (by unfold inR; omega)
          have E3 := Lib.hid e3
          have dq := Int.tdiv_eq_ediv_of_nonneg (b := 10) h3
          have cA := C.out.1
          rw [dq] at cA l1
          have CA := Lib.hid cA
          have DQ := Lib.hid dq
          clear e3 q1 q2 q3 q4 e4 C cA dq
          · go_enter Tryz.func25, Tryz.ntmps25
            go_wp2_with fail
            refine (CA.out w).mono ?_
            rintro e w1 ⟨rfl, hw⟩
            obtain rfl := hw.symm
            go_wp2_with fail

            refine (rtext_digit (n % 10) (by omega) w).mono ?_
            rintro e w1 ⟨rfl, hw⟩
            obtain rfl := hw.symm
            go_wp2
            go_ret
            exact ⟨by rw [H0.out, DQ.out, E3.out]; exact congrArg (fun x => Ending.returned (.string x)) (bytes_app _ _), rfl⟩
        · by_cases hneg : n.tmod 10 < 0
          · have e3 : ((n.tmod 10).natAbs : Int) = -n.tmod 10 := by omega
            have l3 : (txt (-n.tmod 10)).length ≤ 20 := txt_len (by unfold inR; omega)
            have b3 : -9 ≤ n.tmod 10 := by omega
            have E3 := Lib.hid e3
            clear e3 q1 q2 q3 q4
            go_enter Tryz.func25, Tryz.ntmps25
            go_wp2_with fail
            refine (C.out.1 w).mono ?_
            rintro e w1 ⟨rfl, hw⟩
            obtain rfl := hw.symm
            go_wp2_with fail
            refine (rtext_digit (-n.tmod 10) (by omega) w).mono ?_
            rintro e w1 ⟨rfl, hw⟩
            obtain rfl := hw.symm
            go_wp2
            go_ret
            exact ⟨by rw [H0.out, E3.out]; exact congrArg (fun x => Ending.returned (.string x)) (bytes_app _ _), rfl⟩
          · have e3 : ((n.tmod 10).natAbs : Int) = n.tmod 10 := by omega
            have l3 : (txt (n.tmod 10)).length ≤ 20 := txt_len (by unfold inR; omega)
            have b3 : n.tmod 10 ≤ 9 := by omega
            have E3 := Lib.hid e3
            clear e3 q1 q2 q3 q4
            go_enter Tryz.func25, Tryz.ntmps25
            go_wp2_with fail
            refine (C.out.1 w).mono ?_
            rintro e w1 ⟨rfl, hw⟩
            obtain rfl := hw.symm
            go_wp2_with fail
            refine (rtext_digit (n.tmod 10) (by omega) w).mono ?_
            rintro e w1 ⟨rfl, hw⟩
            obtain rfl := hw.symm
            go_wp2
            go_ret
            exact ⟨by rw [H0.out, E3.out]; exact congrArg (fun x => Ending.returned (.string x)) (bytes_app _ _), rfl⟩
theorem rdigit_any (c : UInt8) (w : World) : Calls Tryz.prog 36 #[.int .u8 c.toNat] w fun e w' => w' = w ∧ (IsD c ∧ e = .returned (.int .i64 ((c.toNat : Int) - 48)) ∨ ¬ IsD c ∧ e = .returned (.int .i64 (-1))) := by
  have h256 : c.toNat < 256 := c.toNat_lt
  unfold IsD
  by_cases h1 : c.toNat < 48
  · go_enter Tryz.func36, Tryz.ntmps36
    go_wp2
    go_ret
    exact ⟨rfl, .inr ⟨by omega, rfl⟩⟩
  · by_cases h2 : 57 < c.toNat
    · go_enter Tryz.func36, Tryz.ntmps36
      go_wp2
      go_ret
      exact ⟨rfl, .inr ⟨by omega, rfl⟩⟩
    · go_enter Tryz.func36, Tryz.ntmps36
      go_wp2
      go_ret
      exact ⟨rfl, .inl ⟨by omega, by go_num⟩⟩
end Go.Proofs.YtgilghiegfgjeaaGreatDoor
end
section
set_option linter.unusedVariables false
set_option linter.unusedSimpArgs false
/- Layer 3: the document's Parse. -/
namespace Go.Proofs.YtgilghiegfgjeaaGreatDoor
open Go.RowKit Dk

theorem isD_byte {b : UInt8} (h : IsD b) : 48 ≤ b.toNat ∧ b.toNat ≤ 57 := h
set_option maxHeartbeats 4000000 in
set_option maxRecDepth 100000 in
set_option pp.deepTerms true in
set_option pp.maxSteps 1000000 in
theorem rparse_true (w : World) (s : ByteArray) (h0 : 0 < s.size) (h20 : s.size ≤ 20) (ds : List UInt8) (hds : s.data.toList.drop 1 = ds) (hl : lineOf true ds = s.data.toList) (hs0 : (s[0]).toNat = 45) :
    Calls Tryz.prog 19 #[.string s] w fun e w' => w' = w ∧ e = .returned (parseV (parse s.data.toList)) := by
  have hlen : ds.length + 1 = s.size := by
    rw [← hds, List.length_drop, lenData]
    omega
  have hhead : true = false → ds.head? ≠ some 45 := fun e => by
    cases e
  have HH := Lib.hid (p := ∀ x : Bool, x = true → x = false → ds.head? ≠ some 45) (fun x hx e => hhead (hx ▸ e))
  have Hl := Lib.hid (And.intro hl (And.intro hds hlen))
  clear hl hds hlen hhead
  have hne : ¬ s = ByteArray.empty := fun e => by rw [e] at h0; exact absurd h0 (by decide)
  have hz : ((s.size : Int) == 0) = false := beq_eq_false_iff_ne.2 (by omega)
  have hz2 : decide ((20 : Int) < (s.size : Int)) = false := decide_eq_false (by omega)
  go_enter Tryz.func19, Tryz.ntmps19
  go_wp2
  go_loopw [4, 5] (fun n4 j wr => ∃ i : Nat, j = .int .i64 i ∧ i ≤ s.size ∧ n4 = .int .i64 (wrap64 (num true (val (ds.take (i - 1))))) ∧ (∀ b ∈ ds.take (i - 1), IsD b) ∧ wr = w) (fun _ j _ => s.size - (intOf j).toNat)
  case atStart => exact ⟨0, rfl, by omega, by simp [num, val, wrap64], fun b hb => by simp at hb, rfl⟩
  case round =>
    obtain ⟨i, rfl, hi, rfl, hall, hwr⟩ := hrel
    obtain rfl := hwr.symm
    have HA := Lib.hid hall
    clear hall
    by_cases hi2 : i < s.size
    · by_cases i0 : i = 0
      · subst i0
        go_wp2
        go_roundw
        case rel => exact ⟨1, rfl, by omega, rfl, HA.out, trivial⟩
        case measure => simp [intOf]; omega
      · have hlt : i < s.size := by omega
        have hg := dropGet s 1 (i - 1) (by omega)
        rw [Hl.out.2.1] at hg
        have hix : s[1 + (i - 1)]'(by omega) = s[i]'hlt := by first | rfl | (congr 1; omega)
        rw [hix] at hg
        have hml : (i - 1) < ds.length := by have := Hl.out.2.2; omega
        have hge : ds[(i - 1)] = s[i]'hlt := by
          have := List.getElem?_eq_getElem hml
          rw [hg] at this
          injection this with this
          exact this.symm
        have HG := Lib.hid (And.intro hge hix)
        clear hg hix hge
        go_wp2_with fail
        refine (rdigit_any (s[i]'hlt) w).mono ?_
        rintro e w1 ⟨hw, ⟨hd, rfl⟩ | ⟨hd, rfl⟩⟩
        · obtain rfl := hw.symm
          have hd2 := isD_byte hd
          have HD := Lib.hid hd
          clear hd
          go_wp2_with fail
          refine (rdigit_any (s[i]'hlt) w).mono ?_
          rintro e w1 ⟨hw, ⟨hd, rfl⟩ | ⟨hd, rfl⟩⟩
          · obtain rfl := hw.symm
            clear hd
            have hs := rstep_down hml (HG.out.1 ▸ HD.out)
            rw [HG.out.1] at hs
            have HS := Lib.hid hs
            clear hs
            go_wp2
            go_roundw
            case rel =>
              have key : ∀ b ∈ ds.take (i + 1 - 1), IsD b := by
                intro b hb
                rw [show (i + 1 - 1) = (i - 1) + 1 by omega, take_succ_of (List.getElem?_eq_getElem hml)] at hb
                rcases List.mem_append.1 hb with hb | hb
                · exact HA.out b (by rwa [show i - 1 = (i - 1) by omega])
                · rw [List.mem_singleton] at hb
                  rw [hb, HG.out.1]
                  exact HD.out
              exact ⟨i + 1, by go_num, by omega, congrArg (Value.int .i64) (by rw [show (i + 1 - 1) = (i - 1) + 1 by omega]; exact HS.out), key, trivial⟩
            case measure => simp [intOf]; omega
          · exact absurd HD.out hd
        · obtain rfl := hw.symm
          have HD := Lib.hid hd
          clear hd
          go_wp2
          go_ret2
          refine ⟨rfl, ?_⟩
          rw [← Hl.out.1, rparse_digit (HH.out _ rfl) ⟨_, List.getElem_mem hml, by rw [HG.out.1]; exact HD.out⟩]
          rfl
    · obtain rfl : i = s.size := by omega
      have htk : ds.take (s.size - 1) = ds := List.take_of_length_le (by have := Hl.out.2.2; omega)
      rw [htk] at HA ⊢
      have hall : ∀ b ∈ ds, IsD b := HA.out
      have hz3 : inR (wrap64 (num true (val ds))) := by unfold inR wrap64; omega
      have hp := rparse_done (below := true) hall
      rw [Hl.out.1] at hp
      have HP := Lib.hid hp
      clear hp htk hall
      go_wp2_with fail
      refine (rtext_any _ _ (Nat.lt_succ_self _) hz3 w).mono ?_
      rintro e w1 ⟨rfl, hw⟩
      obtain rfl := hw.symm
      by_cases ht : txt (wrap64 (num true (val ds))) = s.data.toList
      · have he : (txt (wrap64 (num true (val ds))) == s.toList) = true := by rw [ByteArray.toList_eq, ht]; exact beq_self_eq_true _
        have HT := Lib.hid ht
        clear ht
        go_wp2
        go_ret2
        exact ⟨rfl, by rw [HP.out, if_pos HT.out]; rfl⟩
      · have he : (txt (wrap64 (num true (val ds))) == s.toList) = false := by rw [ByteArray.toList_eq]; exact beq_eq_false_iff_ne.2 ht
        have HT := Lib.hid ht
        clear ht
        go_wp2
        go_ret2
        exact ⟨rfl, by rw [HP.out, if_neg HT.out]; rfl⟩
set_option maxHeartbeats 4000000 in
set_option maxRecDepth 100000 in
set_option pp.deepTerms true in
set_option pp.maxSteps 1000000 in
theorem rparse_false (w : World) (s : ByteArray) (h0 : 0 < s.size) (h20 : s.size ≤ 20) (ds : List UInt8) (hds : s.data.toList.drop 0 = ds) (hl : lineOf false ds = s.data.toList) (hs0 : ¬ (s[0]).toNat = 45) :
    Calls Tryz.prog 19 #[.string s] w fun e w' => w' = w ∧ e = .returned (parseV (parse s.data.toList)) := by
  have hlen : ds.length + 0 = s.size := by
    rw [← hds, List.length_drop, lenData]
    omega
  have hhead : false = false → ds.head? ≠ some 45 := fun e => by
    rw [← hds, headGet s 0 h0]
    intro h
    injection h with h
    exact hs0 (by rw [h]; rfl)
  have HH := Lib.hid (p := ∀ x : Bool, x = false → x = false → ds.head? ≠ some 45) (fun x hx e => hhead (hx ▸ e))
  have Hl := Lib.hid (And.intro hl (And.intro hds hlen))
  clear hl hds hlen hhead
  have hne : ¬ s = ByteArray.empty := fun e => by rw [e] at h0; exact absurd h0 (by decide)
  have hz : ((s.size : Int) == 0) = false := beq_eq_false_iff_ne.2 (by omega)
  have hz2 : decide ((20 : Int) < (s.size : Int)) = false := decide_eq_false (by omega)
  go_enter Tryz.func19, Tryz.ntmps19
  go_wp2
  go_loopw [4, 5] (fun n4 j wr => ∃ i : Nat, j = .int .i64 i ∧ i ≤ s.size ∧ n4 = .int .i64 (wrap64 (num false (val (ds.take i)))) ∧ (∀ b ∈ ds.take i, IsD b) ∧ wr = w) (fun _ j _ => s.size - (intOf j).toNat)
  case atStart => exact ⟨0, rfl, by omega, by simp [num, val, wrap64], fun b hb => by simp at hb, rfl⟩
  case round =>
    obtain ⟨i, rfl, hi, rfl, hall, hwr⟩ := hrel
    obtain rfl := hwr.symm
    have HA := Lib.hid hall
    clear hall
    by_cases hi2 : i < s.size
    · by_cases i0 : i = 0
      · subst i0
        have hlt : 0 < s.size := by omega
        have hg := dropGet s 0 0 (by omega)
        rw [Hl.out.2.1] at hg
        have hix : s[0 + 0]'(by omega) = s[0]'hlt := by first | rfl | (congr 1; omega)
        rw [hix] at hg
        have hml : 0 < ds.length := by have := Hl.out.2.2; omega
        have hge : ds[0] = s[0]'hlt := by
          have := List.getElem?_eq_getElem hml
          rw [hg] at this
          injection this with this
          exact this.symm
        have HG := Lib.hid (And.intro hge hix)
        clear hg hix hge
        go_wp2_with fail
        refine (rdigit_any (s[0]'hlt) w).mono ?_
        rintro e w1 ⟨hw, ⟨hd, rfl⟩ | ⟨hd, rfl⟩⟩
        · obtain rfl := hw.symm
          have hd2 := isD_byte hd
          have HD := Lib.hid hd
          clear hd
          go_wp2_with fail
          refine (rdigit_any (s[0]'hlt) w).mono ?_
          rintro e w1 ⟨hw, ⟨hd, rfl⟩ | ⟨hd, rfl⟩⟩
          · obtain rfl := hw.symm
            clear hd
            have hs := rstep_up hml (HG.out.1 ▸ HD.out)
            rw [HG.out.1] at hs
            have HS := Lib.hid hs
            clear hs
            go_wp2
            go_roundw
            case rel =>
              have key : ∀ b ∈ ds.take (1), IsD b := by
                intro b hb
                rw [show (1) = 0 + 1 by omega, take_succ_of (List.getElem?_eq_getElem hml)] at hb
                rcases List.mem_append.1 hb with hb | hb
                · exact HA.out b (by exact hb)
                · rw [List.mem_singleton] at hb
                  rw [hb, HG.out.1]
                  exact HD.out
              exact ⟨1, by go_num, by omega, congrArg (Value.int .i64) (by rw [show (1) = 0 + 1 by omega]; exact HS.out), key, trivial⟩
            case measure => simp [intOf]; omega
          · exact absurd HD.out hd
        · obtain rfl := hw.symm
          have HD := Lib.hid hd
          clear hd
          go_wp2
          go_ret2
          refine ⟨rfl, ?_⟩
          rw [← Hl.out.1, rparse_digit (HH.out _ rfl) ⟨_, List.getElem_mem hml, by rw [HG.out.1]; exact HD.out⟩]
          rfl
      · have hlt : i < s.size := by omega
        have hg := dropGet s 0 i (by omega)
        rw [Hl.out.2.1] at hg
        have hix : s[0 + i]'(by omega) = s[i]'hlt := by first | rfl | (congr 1; omega)
        rw [hix] at hg
        have hml : i < ds.length := by have := Hl.out.2.2; omega
        have hge : ds[i] = s[i]'hlt := by
          have := List.getElem?_eq_getElem hml
          rw [hg] at this
          injection this with this
          exact this.symm
        have HG := Lib.hid (And.intro hge hix)
        clear hg hix hge
        go_wp2_with fail
        refine (rdigit_any (s[i]'hlt) w).mono ?_
        rintro e w1 ⟨hw, ⟨hd, rfl⟩ | ⟨hd, rfl⟩⟩
        · obtain rfl := hw.symm
          have hd2 := isD_byte hd
          have HD := Lib.hid hd
          clear hd
          go_wp2_with fail
          refine (rdigit_any (s[i]'hlt) w).mono ?_
          rintro e w1 ⟨hw, ⟨hd, rfl⟩ | ⟨hd, rfl⟩⟩
          · obtain rfl := hw.symm
            clear hd
            have hs := rstep_up hml (HG.out.1 ▸ HD.out)
            rw [HG.out.1] at hs
            have HS := Lib.hid hs
            clear hs
            go_wp2
            go_roundw
            case rel =>
              have key : ∀ b ∈ ds.take (i + 1), IsD b := by
                intro b hb
                rw [show (i + 1) = i + 1 by omega, take_succ_of (List.getElem?_eq_getElem hml)] at hb
                rcases List.mem_append.1 hb with hb | hb
                · exact HA.out b (by exact hb)
                · rw [List.mem_singleton] at hb
                  rw [hb, HG.out.1]
                  exact HD.out
              exact ⟨i + 1, by go_num, by omega, congrArg (Value.int .i64) (by rw [show (i + 1) = i + 1 by omega]; exact HS.out), key, trivial⟩
            case measure => simp [intOf]; omega
          · exact absurd HD.out hd
        · obtain rfl := hw.symm
          have HD := Lib.hid hd
          clear hd
          go_wp2
          go_ret2
          refine ⟨rfl, ?_⟩
          rw [← Hl.out.1, rparse_digit (HH.out _ rfl) ⟨_, List.getElem_mem hml, by rw [HG.out.1]; exact HD.out⟩]
          rfl
    · obtain rfl : i = s.size := by omega
      have htk : ds.take s.size = ds := List.take_of_length_le (by have := Hl.out.2.2; omega)
      rw [htk] at HA ⊢
      have hall : ∀ b ∈ ds, IsD b := HA.out
      have hz3 : inR (wrap64 (num false (val ds))) := by unfold inR wrap64; omega
      have hp := rparse_done (below := false) hall
      rw [Hl.out.1] at hp
      have HP := Lib.hid hp
      clear hp htk hall
      go_wp2_with fail
      refine (rtext_any _ _ (Nat.lt_succ_self _) hz3 w).mono ?_
      rintro e w1 ⟨rfl, hw⟩
      obtain rfl := hw.symm
      by_cases ht : txt (wrap64 (num false (val ds))) = s.data.toList
      · have he : (txt (wrap64 (num false (val ds))) == s.toList) = true := by rw [ByteArray.toList_eq, ht]; exact beq_self_eq_true _
        have HT := Lib.hid ht
        clear ht
        go_wp2
        go_ret2
        exact ⟨rfl, by rw [HP.out, if_pos HT.out]; rfl⟩
      · have he : (txt (wrap64 (num false (val ds))) == s.toList) = false := by rw [ByteArray.toList_eq]; exact beq_eq_false_iff_ne.2 ht
        have HT := Lib.hid ht
        clear ht
        go_wp2
        go_ret2
        exact ⟨rfl, by rw [HP.out, if_neg HT.out]; rfl⟩
/-- the document's Parse -/
theorem rparse_any (w : World) (s : ByteArray) : Calls Tryz.prog 19 #[.string s] w fun e w' => w' = w ∧ e = .returned (parseV (parse s.data.toList)) := by
  by_cases h0 : s.size = 0
  · have hs : s = ⟨#[]⟩ := ByteArray.ext (Array.eq_empty_of_size_eq_zero h0)
    subst hs
    have hp : parse (⟨#[]⟩ : ByteArray).data.toList = none := parse_nil
    rw [hp]
    clear hp h0
    go_enter Tryz.func19, Tryz.ntmps19
    go_wp2
    go_ret2
    exact ⟨rfl, rfl⟩
  · by_cases h20 : s.size ≤ 20
    · have hpos : 0 < s.size := by omega
      by_cases h45 : (s[0]).toNat = 45
      · refine rparse_true w s hpos h20 (s.data.toList.drop 1) rfl ?_ h45
        have e : s[0] = 45 := UInt8.toNat_inj.1 h45
        have := headGet s 0 hpos
        rw [e, List.drop_zero] at this
        cases hl : s.data.toList with
        | nil => rw [hl] at this; cases this
        | cons b l =>
          rw [hl] at this
          injection this with this
          rw [this]
          rfl
      · exact rparse_false w s hpos h20 s.data.toList rfl rfl h45
    · have hp := rparse_long (l := s.data.toList) (by rw [lenData]; omega)
      rw [hp]
      have hz : ((s.size : Int) == 0) = false := beq_eq_false_iff_ne.2 (by omega)
      have hne : ¬ s = ByteArray.empty := fun e => h0 (by rw [e]; rfl)
      clear hp
      go_enter Tryz.func19, Tryz.ntmps19
      go_wp2
      go_ret2
      exact ⟨rfl, rfl⟩
end Go.Proofs.YtgilghiegfgjeaaGreatDoor
end
section
set_option linter.unusedVariables false
set_option linter.unusedSimpArgs false
/- A contract of the library's shelf, laid at this program (written by the kit's lay-plain.mjs: wip/lay48.sh). -/
namespace Go.Proofs
open Go.Shelf
def Tryz.lfields_ren : Go.Shelf.Ren := ⟨fun | 229 => 26 | n => n, fun | 9 => 9 | 40 => 55 | 31 => 28 | 152 => 82 | 3 => 3 | 0 => 0 | 4 => 4 | 21 => 21 | 154 => 84 | n => n, fun | n => n⟩
theorem Tryz.lfields : Go.Proofs.Lays.n229 Tryz.prog Tryz.lfields_ren := {
  mixed := by kernel_rfl
  f229 := Tryz.func26.trans (congrArg some (by kernel_rfl))
  t0 := Tryz.underlying0
  a0 := Tryz.isAgg0
  z0 := Tryz.sizeOf0
  v0 := Tryz.zeroValue0
  t3 := Tryz.underlying3
  a3 := Tryz.isAgg3
  z3 := Tryz.sizeOf3
  v3 := Tryz.zeroValue3
  t4 := Tryz.underlying4
  a4 := Tryz.isAgg4
  z4 := Tryz.sizeOf4
  v4 := Tryz.zeroValue4
  t9 := Tryz.underlying9
  a9 := Tryz.isAgg9
  z9 := Tryz.sizeOf9
  v9 := Tryz.zeroValue9
  t21 := Tryz.underlying21
  a21 := Tryz.isAgg21
  z21 := Tryz.sizeOf21
  v21 := Tryz.zeroValue21
  t31 := Tryz.underlying28
  a31 := Tryz.isAgg28
  z31 := Tryz.sizeOf28
  v31 := Tryz.zeroValue28
  t40 := Tryz.underlying55
  a40 := Tryz.isAgg55
  z40 := Tryz.sizeOf55
  v40 := Tryz.zeroValue55
  t152 := Tryz.underlying82
  a152 := Tryz.isAgg82
  z152 := Tryz.sizeOf82
  v152 := Tryz.zeroValue82
  t154 := Tryz.underlying84
  a154 := Tryz.isAgg84
  z154 := Tryz.sizeOf84
  v154 := Tryz.zeroValue84 }
end Go.Proofs
end
section
set_option linter.unusedVariables false
set_option linter.unusedSimpArgs false
/- Words with a blank between are a text's words. -/
namespace Go.Proofs.YtgilghiegfgjeaaGreatDoor.Dk
open Go.Lib
set_option linter.unusedVariables false

def joinW : List (List UInt8) → List UInt8
  | [] => []
  | [w] => w
  | w :: v :: ws => w ++ 32 :: joinW (v :: ws)
def spansW : Nat → List (List UInt8) → List (Nat × Nat)
  | _, [] => []
  | q, [w] => [(q, q + w.length)]
  | q, w :: v :: ws => (q, q + w.length) :: spansW (q + w.length + 1) (v :: ws)
section
variable {p : Nat → Bool} {s : ByteArray}
theorem dec_at {q : Nat} {b : UInt8} (h : s.data.toList[q]? = some b) (ha : b.toNat < 128) : q < s.size ∧ Utf8.decode s q = (b.toNat, 1) := by
  have hq : q < s.size := by
    have := (List.getElem?_eq_some_iff.mp h).1
    simpa using this
  have e : s[q]'hq = b := by
    have : s.data[q]'hq = b := by simpa using (List.getElem?_eq_some_iff.mp h).2
    exact this
  refine ⟨hq, ?_⟩
  rw [decode_ascii s q hq (by rw [e]; exact ha), e]
theorem word_on : ∀ (w : List UInt8) (f q a : Nat) (acc : List (Nat × Nat)), (∀ i b, w[i]? = some b → s.data.toList[q + i]? = some b ∧ b.toNat < 128 ∧ p b.toNat = false) →
    spansFromP p s (w.length + f) q (some a) acc = spansFromP p s f (q + w.length) (some a) acc
  | [], f, q, a, acc, h => by simp
  | b :: w, f, q, a, acc, h => by
    obtain ⟨h1, h2, h3⟩ := h 0 b rfl
    obtain ⟨k1, k2⟩ := dec_at h1 h2
    rw [Nat.add_zero] at k1 k2
    rw [show (b :: w).length + f = (w.length + f) + 1 by simp; omega]
    rw [spansFromP]
    rw [if_pos k1, k2]
    simp only
    rw [h3]
    simp only [Bool.false_eq_true, if_false]
    rw [word_on w f (q + 1) a acc (fun i c hc => by
      have := h (i + 1) c (by simpa using hc)
      rwa [show q + 1 + i = q + (i + 1) by omega])]
    rw [show q + 1 + w.length = q + (b :: w).length by rw [List.length_cons]; omega]
theorem fields_join (hp : p 32 = true) : ∀ (ws : List (List UInt8)) (f q : Nat) (acc : List (Nat × Nat)), ws ≠ [] → (∀ w ∈ ws, w ≠ [] ∧ ∀ b ∈ w, b.toNat < 128 ∧ p b.toNat = false) →
    s.data.toList.drop q = joinW ws → (joinW ws).length ≤ f → closeSpans s (spansFromP p s f q none acc) = acc ++ spansW q ws
  | [], f, q, acc, hn, _, _, _ => absurd rfl hn
  | [w], f, q, acc, _, hw, hs, hf => by
    obtain ⟨h1, h2⟩ := hw w (by simp)
    cases w with
    | nil => exact absurd rfl h1
    | cons b w =>
      have hat : ∀ i c, (b :: w)[i]? = some c → s.data.toList[q + i]? = some c ∧ c.toNat < 128 ∧ p c.toNat = false := by
        intro i c hc
        refine ⟨?_, h2 c (List.mem_of_getElem? hc)⟩
        rw [← List.getElem?_drop, hs]; exact hc
      obtain ⟨k0, ka, kp⟩ := hat 0 b rfl
      obtain ⟨k1, k2⟩ := dec_at k0 ka
      rw [Nat.add_zero] at k1 k2
      have hl : s.size = q + (w.length + 1) := by
        have := congrArg List.length hs
        rw [List.length_drop] at this
        simp [joinW] at this
        omega
      simp [joinW] at hf
      obtain ⟨g, rfl⟩ : ∃ g, f = (w.length + g) + 1 := ⟨f - (w.length + 1), by omega⟩
      rw [spansFromP]
      rw [if_pos k1, k2]
      simp only
      rw [kp]
      simp only [Bool.false_eq_true, if_false]
      rw [word_on w g (q + 1) q acc (fun i c hc => by
        have := hat (i + 1) c (by simpa using hc)
        rwa [show q + 1 + i = q + (i + 1) by omega])]
      rw [spansFromP_end p s g _ _ _ (by omega)]
      simp only [closeSpans, spansW]
      rw [show s.size = q + (b :: w).length by simp; omega]
  | w :: v :: ws, f, q, acc, _, hw, hs, hf => by
    obtain ⟨h1, h2⟩ := hw w (by simp)
    cases w with
    | nil => exact absurd rfl h1
    | cons b w =>
      have hat : ∀ i c, (b :: w)[i]? = some c → s.data.toList[q + i]? = some c ∧ c.toNat < 128 ∧ p c.toNat = false := by
        intro i c hc
        refine ⟨?_, h2 c (List.mem_of_getElem? hc)⟩
        rw [← List.getElem?_drop, hs]
        unfold joinW
        rw [List.getElem?_append_left (List.getElem?_eq_some_iff.mp hc).1]; exact hc
      obtain ⟨k0, ka, kp⟩ := hat 0 b rfl
      obtain ⟨k1, k2⟩ := dec_at k0 ka
      rw [Nat.add_zero] at k1 k2
      have hb : s.data.toList[q + (w.length + 1)]? = some 32 := by
        rw [← List.getElem?_drop, hs]
        unfold joinW
        rw [List.getElem?_append_right (by simp)]
        simp
      obtain ⟨j1, j2⟩ := dec_at hb (by decide)
      have hrest : s.data.toList.drop (q + (w.length + 1) + 1) = joinW (v :: ws) := by
        rw [show q + (w.length + 1) + 1 = q + ((b :: w).length + 1) by simp; omega, ← List.drop_drop, hs]
        rw [joinW, ← List.drop_drop, List.drop_left]
        rfl
      rw [joinW] at hf
      simp at hf
      obtain ⟨g, rfl⟩ : ∃ g, f = (w.length + (g + 1)) + 1 := ⟨f - (w.length + 2), by omega⟩
      rw [spansFromP]
      rw [if_pos k1, k2]
      simp only
      rw [kp]
      simp only [Bool.false_eq_true, if_false]
      rw [word_on w (g + 1) (q + 1) q acc (fun i c hc => by
        have := hat (i + 1) c (by simpa using hc)
        rwa [show q + 1 + i = q + (i + 1) by omega])]
      rw [show q + 1 + w.length = q + (w.length + 1) by omega]
      rw [spansFromP]
      rw [if_pos j1, j2]
      simp only
      rw [show p (UInt8.toNat 32) = true from hp]
      simp only [if_true]
      rw [fields_join hp (v :: ws) g _ _ (by simp) (fun x hx => hw x (by simp at hx ⊢; exact .inr hx)) hrest (by omega)]
      rw [spansW, List.append_assoc]
      rfl
theorem spansW_extract : ∀ (ws : List (List UInt8)) (q : Nat), s.data.toList.drop q = joinW ws → (spansW q ws).map (fun x => s.extract x.1 x.2) = ws.map fun w => ⟨w.toArray⟩ := by
  have cut : ∀ (q : Nat) (w r : List UInt8), s.data.toList.drop q = w ++ r → s.extract q (q + w.length) = ⟨w.toArray⟩ := by
    intro q w r h
    apply ByteArray.ext
    apply Array.ext'
    rw [ByteArray.data_extract, Array.toList_extract, List.extract_eq_take_drop, h, Nat.add_sub_cancel_left, List.take_left]
  intro ws
  induction ws with
  | nil => intro q _; rfl
  | cons w ws ih =>
    intro q h
    cases ws with
    | nil =>
      simp only [spansW, List.map_cons, List.map_nil]
      rw [cut q w [] (by simpa [joinW] using h)]
    | cons v ws =>
      rw [spansW, List.map_cons, List.map_cons, cut q w _ h, ih (q + w.length + 1)]
      rw [Nat.add_assoc, ← List.drop_drop, h, joinW, ← List.drop_drop, List.drop_left]
      rfl
/-- THE WORDS OF WORDS WITH BLANKS BETWEEN -/
theorem words_join (hp : p 32 = true) {ws : List (List UInt8)} (hn : ws ≠ []) (hw : ∀ w ∈ ws, w ≠ [] ∧ ∀ b ∈ w, b.toNat < 128 ∧ p b.toNat = false) (hs : s = ⟨(joinW ws).toArray⟩) :
    goFieldsP p s = ws.map fun w => ⟨w.toArray⟩ := by
  have e : s.data.toList.drop 0 = joinW ws := by subst hs; rfl
  have hz : s.size = (joinW ws).length := by subst hs; rfl
  unfold goFieldsP spansOfP
  rw [fields_join hp ws s.size 0 [] hn hw e (by omega), List.nil_append]
  exact spansW_extract ws 0 e
end
end Go.Proofs.YtgilghiegfgjeaaGreatDoor.Dk
end
section
set_option linter.unusedVariables false
set_option linter.unusedSimpArgs false
/- A lock's line: its words, and what they say. -/
namespace Go.Proofs.YtgilghiegfgjeaaGreatDoor.Dk
open Go.RowKit Go.Lib
set_option linter.unusedVariables false

/-- line.blank -/
def blankN (r : Nat) : Bool := r == 32 || r == 9
def lockB : ByteArray := ⟨#[108, 111, 99, 107]⟩
def txtB (z : Int) : ByteArray := ⟨(txt z).toArray⟩
noncomputable def parseB (s : ByteArray) : Option Int := parse s.data.toList
/-- the numbers of a line's words behind the name -/
noncomputable def specOf (ws : List ByteArray) : Option (ByteArray × Int × Int × Int × Int) := match ws with
  | [a, n, x, y, z, u] => if a = lockB then match parseB x, parseB y, parseB z, parseB u with
    | some g, some l, some p, some b => some (n, g, l, p, b)
    | _, _, _, _ => none
    else none
  | _ => none
def lineL (n : ByteArray) (g l p b : Int) : List (List UInt8) := [lockB.data.toList, n.data.toList, txt g, txt l, txt p, txt b]
def lineB (n : ByteArray) (g l p b : Int) : ByteArray := ⟨(joinW (lineL n g l p b)).toArray⟩
def inky (w : List UInt8) : Prop := w ≠ [] ∧ ∀ b ∈ w, b.toNat < 128 ∧ blankN b.toNat = false
instance (w : List UInt8) : Decidable (inky w) := inferInstanceAs (Decidable (_ ∧ _))
theorem inky_txt (z : Int) : inky (txt z) := by
  refine ⟨txt_ne z, fun b hb => ?_⟩
  have key : ∀ c, IsD c → c.toNat < 128 ∧ blankN c.toNat = false := by
    intro c hc
    unfold IsD at hc
    unfold blankN
    refine ⟨by omega, ?_⟩
    simp only [Bool.or_eq_false_iff, beq_eq_false_iff_ne]
    omega
  unfold txt at hb
  split at hb
  · rw [List.mem_cons] at hb
    rcases hb with rfl | hb
    · decide
    · exact key b (digs_isD _ b hb)
  · exact key b (digs_isD _ b hb)
theorem inky_name : ∀ i, i < 14 → 1 ≤ i → inky (nmB i).data.toList := by decide
theorem inky_lock : inky lockB.data.toList := by decide
theorem parseB_txtB {z : Int} (h : inR z) : parseB (txtB z) = some z := parse_txt h
/-- A LOCK'S LINE IS READ AS IT WAS TOLD: its words -/
theorem line_words {k : Nat} (h1 : 1 ≤ k) (h2 : k ≤ 13) (g l p b : Int) : goFieldsP blankN (lineB (nmB k) g l p b) = [lockB, nmB k, txtB g, txtB l, txtB p, txtB b] := by
  unfold lineB
  rw [words_join (p := blankN) (ws := lineL (nmB k) g l p b) rfl (by simp [lineL]) ?_ rfl]
  · rfl
  · intro w hw
    simp only [lineL, List.mem_cons, List.not_mem_nil, or_false] at hw
    rcases hw with rfl | rfl | rfl | rfl | rfl | rfl
    · exact inky_lock
    · exact inky_name k (by omega) h1
    all_goals exact inky_txt _
theorem line_spec {n : ByteArray} {g l p b : Int} (hg : inR g) (hl : inR l) (hp : inR p) (hb : inR b) : specOf [lockB, n, txtB g, txtB l, txtB p, txtB b] = some (n, g, l, p, b) := by
  unfold specOf
  simp only [if_true]
  rw [parseB_txtB hg, parseB_txtB hl, parseB_txtB hp, parseB_txtB hb]
end Go.Proofs.YtgilghiegfgjeaaGreatDoor.Dk
end
