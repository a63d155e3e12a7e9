/- Joined: Ds1, Ds2, Ds3, Lj48, Dj, Ds5, Ds6, Ds4. -/
import Derived.Maps.AppendAt
import Derived.Laws.AppendOwn
import Derived.Laws.OwnMore
import Derived.Laws.MakeOwn
import Derived.Lib.OthersKept
import Derived.OwnWalk
import Derived.StillTailTactics
import Derived.Laws.Rows
import Derived.Laws.ResultCell
import Derived.Shelf.Strings.OnBuilder
import Derived.Test.YtgilghiegfgjeaaGreatDoorRows
import Derived.Deep.RegionHeld3
import Derived.Deep.DeepCutAuto
import Derived.Test.YtgilghiegfgjeaaGreatDoorMgDeskHeads4
section
set_option linter.unusedVariables false
set_option linter.unusedSimpArgs false
/- Layer 48: line.Words, desk.numbers. -/
namespace Go.Proofs.YtgilghiegfgjeaaGreatDoor
open Go.RowKit Go.Shelf Dk

def encS (s : ByteArray) : List Value := [.string s]
theorem encS_len (s : ByteArray) : (encS s).length = 1 := rfl
/-- a word of a list of words -/
theorem RdL.word {w : World} {A : Option Addr} {cap : Nat} {l : List ByteArray} {n : Nat} (h : RdL w (.slice A n cap) 1 encS l) (h0 : 0 < l.length) : n = l.length ∧ l.length ≤ cap ∧ ∃ b off, A = some ⟨b, off, none⟩ ∧ b < w.heap.size ∧ ∀ i x, l[i]? = some x → w.cell? ⟨b, off + i, none⟩ = some (.string x) := by
  obtain ⟨A', cap', e, h1, h2, h3⟩ := h
  injection e with e1 e2 e3
  subst e1 e2 e3
  obtain ⟨b, off, rfl, hb, hc⟩ := h3 h0
  refine ⟨rfl, h1, b, off, rfl, hb, fun i x hx => ?_⟩
  have := hc i x hx 0 (.string x) rfl
  simpa using this
theorem blank_any (W : World) (x : Nat) (hx : x ≤ 1114111) : Calls Tryz.prog 27 #[.int .i32 x] W fun e w' => e = .returned (.bool (blankN x)) ∧ Below W.heap.size W w' := by
  by_cases h1 : x = 32
  · subst h1
    go_enter Tryz.func27, Tryz.ntmps27
    go_wp2
    go_ret
    exact ⟨rfl, Below.refl _ _⟩
  · by_cases h2 : x = 9
    · subst h2
      go_enter Tryz.func27, Tryz.ntmps27
      go_wp2
      go_ret
      exact ⟨rfl, Below.refl _ _⟩
    · have hb : blankN x = false := by simp [blankN, h1, h2]
      have HB := Lib.hid hb
      have c1 : ((x : Int) == 32) = false := beq_eq_false_iff_ne.2 (by omega)
      have c2 : ((x : Int) == 9) = false := beq_eq_false_iff_ne.2 (by omega)
      clear hb
      go_enter Tryz.func27, Tryz.ntmps27
      go_wp2
      go_ret
      exact ⟨by rw [HB.out]; rfl, Below.refl _ _⟩
theorem words_any (w : World) (s : ByteArray) (hs : s.size ≤ 4294967296) (hl : (Lib.goFieldsP blankN s).length ≤ 140737488355328) : Calls Tryz.prog 11 #[.string s] w fun e w' => ∃ v, e = .returned v ∧ RdL w' v 1 encS (Lib.goFieldsP blankN s) ∧ Below w.heap.size w w' := by
  have hF := Any.strings_FieldsFunc_grows Tryz.lfields 27 #[] (enters_of Tryz.func27 (by kernel_rfl) rfl) blankN s w hs (fun W x hx _ => blank_any W x hx) (by kernel_rfl) (by kernel_rfl)
  have HF := Lib.hid hF
  clear hF
  go_enter Tryz.func11, Tryz.ntmps11
  go_wp2_with fail
  refine HF.out.mono ?_
  rintro e w' ⟨A, rfl, hA, hown, hb⟩
  have HO := Lib.hid (And.intro hown hb)
  clear hown hb
  go_wp2
  go_ret
  refine ⟨_, rfl, ?_, HO.out.2⟩
  have := HO.out.1
  rw [show (Lib.goFieldsP blankN s).map Value.string = (Lib.goFieldsP blankN s).flatMap encS from by
    generalize Lib.goFieldsP blankN s = l
    induction l with
    | nil => rfl
    | cons a l ih => rw [List.map_cons, List.flatMap_cons, ih]; rfl] at this
  exact RdL.of_own encS_len rfl hl this
end Go.Proofs.YtgilghiegfgjeaaGreatDoor
end
section
set_option linter.unusedVariables false
set_option linter.unusedSimpArgs false
/- Layer 48: desk.numbers. -/
namespace Go.Proofs.YtgilghiegfgjeaaGreatDoor
open Go.RowKit Go.Shelf Dk

theorem Tryz.infoDs : (Tryz.prog.info? 3).map (fun i => (i.zero, i.size, i.bytes)) = some (some (.int .i64 0), 1, 8) := by kernel_rfl
theorem one_encD (x : Int) : ∀ u ∈ encI x, u.oneCell' = true := by simp [encI, Value.oneCell']
theorem own_rdlD {w : World} {b : Nat} {v : Value} {l : List Int} (h : w.ownsRow b 3 1 v l.length (l.flatMap encI)) (hl : l.length ≤ 140737488355328) : RdL w v 1 encI l := RdL.of_own encI_len rfl hl h
set_option maxRecDepth 100000 in
set_option maxHeartbeats 2000000 in
theorem numbers_any (w : World) (v : Value) (l : List ByteArray) (hR : RdL w v 1 encS l) (h0 : 0 < l.length) (hl : l.length ≤ 1000) (hs : ∀ s ∈ l, s.size ≤ 4294967296) :
    Calls Tryz.prog 17 #[v] w fun e w' => Below w.heap.size w w' ∧
      ((∃ u zs, e = .returned (.tuple #[u, .bool true]) ∧ RdL w' u 1 encI zs ∧ zs.length = l.length ∧ ∀ (i : Nat) s, l[i]? = some s → parseB s = zs[i]?) ∨
       (e = .returned (.tuple #[.slice none 0 0, .bool false]) ∧ ∃ s ∈ l, parseB s = none)) := by
  obtain ⟨i0, hi, hz0, hz1, hz2⟩ := info_parts Tryz.infoDs
  have HI := Lib.hid (And.intro hi (And.intro hz0 (And.intro hz1 hz2)))
  clear hi hz0 hz1 hz2
  obtain ⟨A, cap, rfl⟩ : ∃ A cap, v = .slice A l.length cap := by
    obtain ⟨A, cap, e, _⟩ := hR
    exact ⟨A, cap, e⟩
  obtain ⟨_, hcap, b, off, rfl, hb, hcell⟩ := hR.word h0
  have HC := Lib.hid (And.intro hcell hs)
  clear hR hcell hs
  go_enter Tryz.func17, Tryz.ntmps17
  go_wp2
  go_loopw [4, 11] (fun o j wr => ∃ (k : Nat) (zs : List Int), j = .int .i64 k ∧ k ≤ l.length ∧ zs.length = k ∧ (∀ (i : Nat) s, i < k → l[i]? = some s → parseB s = zs[i]?) ∧ wr.ownsRow w.heap.size 3 1 o zs.length (zs.flatMap encI) ∧ Below w.heap.size w wr) (fun _ j _ => l.length - (intOf j).toNat)
  case atStart => exact ⟨0, [], rfl, by omega, rfl, fun i s hi => by omega, World.ownsRow_nil _ _ _ _, Below.refl _ _⟩
  case round =>
    obtain ⟨k, zs, rfl, hk, hzl, hall, hown, hbel⟩ := hrel
    obtain ⟨wo, rfl⟩ : ∃ wo : World, wo = wr := ⟨_, rfl⟩
    have hsz := hbel.size
    have HO := Lib.hid (And.intro hown (And.intro hbel (And.intro hall hzl)))
    obtain ⟨A9, c9, rfl⟩ := own_form hown
    by_cases hlt : k < l.length
    · obtain ⟨s, hsk⟩ := getElem?_lt hlt
      have hc : wo.cell? ⟨b, off + k, none⟩ = some (.string s) := (hbel.cell (by exact hb)).trans (HC.out.1 k s hsk)
      have HS := Lib.hid hsk
      clear hbel hown hall hzl hsk
      go_wp2_with fail
      refine (parse_any wo s (HC.out.2 s (List.mem_of_getElem? HS.out))).mono ?_
      rintro e w1 ⟨hw, rfl⟩
      obtain rfl := hw.symm
      cases hp : parse s.data.toList with
      | none =>
        have HP : Hid (parseB s = none) := Lib.hid hp
        clear hp
        simp only [parseV]
        go_wp2
        go_ret2
        exact ⟨HO.out.2.1, .inr ⟨rfl, s, List.mem_of_getElem? HS.out, HP.out⟩⟩
      | some z =>
        have HP : Hid (parseB s = some z) := Lib.hid hp
        clear hp
        simp only [parseV]
        go_wp2_with (at_builtin; refine wpList_append_own _ rfl _ _ 45 rfl w.heap.size 3 i0 (.int .i64 0) 1 8 Tryz.underlying45 HI.out.1 HI.out.2.1 HI.out.2.2.1 HI.out.2.2.2 rfl (by decide) _ _ _ rfl (HO.out.1.alloc _) ⟨wo.heap.size, 0, none⟩ 1 1 (encI z) rfl rfl (cell_one_new _ _ _) (one_encD _) ?c3 ?c4 ?c5 ?_)
        case c3 => have hll := HO.out.2.2.2; unfold maxLen; omega
        case c4 => have hll := HO.out.2.2.2; omega
        case c5 => first | omega | (simp; omega)
        intro v' w' hown' hgrow hnil
        have HN := Lib.hid (And.intro hown' hgrow)
        clear hown' hgrow hnil
        go_wp2
        go_roundw
        case rel =>
          refine ⟨k + 1, zs ++ [z], by go_num, by omega, by rw [List.length_append, HO.out.2.2.2]; rfl, fun i s' hi hs' => ?_, by rw [List.length_append, List.flatMap_append]; exact HN.out.1, (HO.out.2.1.alloc hsz _).grown HN.out.2 (by simp; omega) (fun j hj => (HO.out.1.lt j hj).1)⟩
          by_cases e : i = k
          · subst e
            rw [HS.out] at hs'
            injection hs' with hs'
            subst hs'
            rw [HP.out, List.getElem?_append_right (by rw [HO.out.2.2.2]; exact Nat.le_refl _), HO.out.2.2.2]
            simp
          · rw [List.getElem?_append_left (by rw [HO.out.2.2.2]; omega)]
            exact HO.out.2.2.1 i s' (by omega) hs'
        case measure => simp [intOf]; omega
    · obtain rfl : k = l.length := by omega
      clear hbel hown hall hzl
      go_wp2
      go_ret2
      exact ⟨HO.out.2.1, .inl ⟨_, zs, rfl, own_rdlD HO.out.1 (by rw [HO.out.2.2.2]; omega), HO.out.2.2.2, fun i s hs => HO.out.2.2.1 i s (List.getElem?_eq_some_iff.1 hs).1 hs⟩⟩
end Go.Proofs.YtgilghiegfgjeaaGreatDoor
end
section
set_option linter.unusedVariables false
set_option linter.unusedSimpArgs false
/- Layer 48: desk.Spec. -/
namespace Go.Proofs.YtgilghiegfgjeaaGreatDoor
open Go.RowKit Go.Shelf Dk

theorem results_cell_row2 {P : Program} {fn : Func} {p u : Tmp} {ty : TypeId} (h : fn.results = #[.cell p ty, .tmp u]) (tmps : Array Value) (w : World) (g : Nat) (t : TypeId) (cs : Array Value) (fr : Nat × Nat) (d : TypeDesc)
    (hp : tmps.getD p undef = .pointer (some ⟨g, 0, none⟩)) (hg : w.heap[g]? = some (.cells cs t fr))
    (hu : P.underlying ty = some d) (hd : (match d with | .struct _ | .array _ _ => true | _ => false) = true) (hi : (P.info? ty).map (·.size) = some cs.size) :
    (results fn tmps).run P w = .ok (.tuple #[.agg cs, tmps.getD u undef]) w := by
  rw [results_cell_tmp h, hp]
  simp only [asAddr, Sem.run_pure, Result.andThen_ok, run_loadVar_row w g t ty cs fr d hg hu hd hi]
def specV (k g l p b : Int) : Value := .agg #[.int .i64 k, .int .i64 g, .int .i64 l, .int .i64 p, .int .i64 b]
/-- what Spec comes to -/
def SpecRes (ws : List ByteArray) (v : Value) : Prop :=
  (specOf ws = none ∧ v = .tuple #[specV 0 0 0 0 0, .int .i64 2]) ∨
  ∃ n g l p b, specOf ws = some (n, g, l, p, b) ∧ ∃ k : Nat, KindIs n k ∧ v = (if k = 0 then .tuple #[specV 0 0 0 0 0, .int .i64 7] else .tuple #[specV k g l p b, .int .i64 0])
theorem SpecRes.uniq {ws : List ByteArray} {u v : Value} (h : SpecRes ws u) (k : SpecRes ws v) : u = v := by
  rcases h with ⟨h1, h2⟩ | ⟨n, g, l, p, b, h1, x, h2, h3⟩ <;> rcases k with ⟨k1, k2⟩ | ⟨n', g', l', p', b', k1, y, k2, k3⟩
  · rw [h2, k2]
  · rw [h1] at k1; cases k1
  · rw [h1] at k1; cases k1
  · rw [h1] at k1
    injection k1 with k1
    simp only [Prod.mk.injEq] at k1
    obtain ⟨rfl, rfl, rfl, rfl, rfl⟩ := k1
    rw [h3, k3, h2.uniq k2]
theorem RdL.drop2 {w : World} {b off n cap : Nat} {l : List ByteArray} (h : RdL w (.slice (some ⟨b, off, none⟩) n cap) 1 encS l) (h0 : 2 ≤ l.length) : RdL w (.slice (some ⟨b, off + 2, none⟩) (n - 2) (cap - 2)) 1 encS (l.drop 2) := by
  obtain ⟨A, cap', e, h1, h2, h3⟩ := h
  injection e with e1 e2 e3
  subst e1 e2 e3
  obtain ⟨b', off', e4, hb, hc⟩ := h3 (by omega)
  injection e4 with e4
  injection e4 with e5 e6
  subst e5 e6
  refine ⟨_, _, by rw [List.length_drop], by rw [List.length_drop]; omega, by rw [List.length_drop]; omega, fun _ => ⟨_, _, rfl, hb, fun i x hx j u hu => ?_⟩⟩
  rw [List.getElem?_drop] at hx
  have := hc (2 + i) x hx j u hu
  rwa [show off + (2 + i) * 1 + j = off + 2 + i * 1 + j by omega] at this
/-- fewer words, or another first one -/
theorem specOf_len {ws : List ByteArray} (h : ws.length ≠ 6) : specOf ws = none := by
  unfold specOf
  split
  · exact absurd rfl h
  · rfl
theorem specOf_head {ws : List ByteArray} {a : ByteArray} (h : ws[0]? = some a) (ha : a ≠ lockB) : specOf ws = none := by
  unfold specOf
  split
  · simp at h
    subst h
    rw [if_neg ha]
  · rfl
theorem specOf_num {ws : List ByteArray} (h : ∃ s ∈ ws.drop 2, parseB s = none) : specOf ws = none := by
  unfold specOf
  split
  · rename_i a n x y z u
    split
    · split
      · rename_i h1 h2 h3 h4
        obtain ⟨s, hs, hp⟩ := h
        simp at hs
        rcases hs with rfl | rfl | rfl | rfl
        · rw [h1] at hp; cases hp
        · rw [h2] at hp; cases hp
        · rw [h3] at hp; cases hp
        · rw [h4] at hp; cases hp
      · rfl
    · rfl
  · rfl
theorem specOf_some {ws : List ByteArray} {zs : List Int} (h6 : ws.length = 6) (h0 : ws[0]? = some lockB) (hz : zs.length = 4) (h : ∀ (i : Nat) s, (ws.drop 2)[i]? = some s → parseB s = zs[i]?) :
    ∃ n g l p b, ws[1]? = some n ∧ zs = [g, l, p, b] ∧ specOf ws = some (n, g, l, p, b) := by
  match ws, h6 with
  | [a, n, x, y, z, u], _ =>
    match zs, hz with
    | [g, l, p, b], _ =>
      simp at h0
      subst h0
      have h1 := h 0 x rfl
      have h2 := h 1 y rfl
      have h3 := h 2 z rfl
      have h4 := h 3 u rfl
      refine ⟨n, g, l, p, b, rfl, rfl, ?_⟩
      unfold specOf
      simp only [if_true]
      rw [h1, h2, h3, h4]
      rfl
end Go.Proofs.YtgilghiegfgjeaaGreatDoor
end
section
set_option linter.unusedVariables false
set_option linter.unusedSimpArgs false
/- A contract of the library's shelf, laid at this program (written by the kit's lay-plain.mjs: wip/lay48.sh). -/
namespace Go.Proofs
open Go.Shelf
def Tryz.ljoin_ren : Go.Shelf.Ren := ⟨fun | 156 => 23 | 165 => 37 | 166 => 38 | 169 => 39 | 240 => 61 | 241 => 62 | 276 => 103 | 277 => 104 | n => n, fun | 31 => 28 | 9 => 9 | 3 => 3 | 4 => 4 | 0 => 0 | 20 => 20 | 72 => 74 | 76 => 78 | 70 => 72 | 37 => 22 | 75 => 77 | 127 => 116 | 164 => 180 | 5 => 5 | 80 => 80 | n => n, fun | n => n⟩
theorem Tryz.ljoin : Go.Proofs.Lays.n156 Tryz.prog Tryz.ljoin_ren := {
  mixed := by kernel_rfl
  f156 := Tryz.func23.trans (congrArg some (by kernel_rfl))
  f165 := Tryz.func37.trans (congrArg some (by kernel_rfl))
  f166 := Tryz.func38.trans (congrArg some (by kernel_rfl))
  f169 := Tryz.func39.trans (congrArg some (by kernel_rfl))
  f240 := Tryz.func61.trans (congrArg some (by kernel_rfl))
  f241 := Tryz.func62.trans (congrArg some (by kernel_rfl))
  f276 := Tryz.func103.trans (congrArg some (by kernel_rfl))
  f277 := Tryz.func104.trans (congrArg some (by kernel_rfl))
  t0 := Tryz.underlying0
  a0 := Tryz.isAgg0
  z0 := Tryz.sizeOf0
  v0 := Tryz.zeroValue0
  t3 := Tryz.underlying3
  a3 := Tryz.isAgg3
  z3 := Tryz.sizeOf3
  v3 := Tryz.zeroValue3
  t4 := Tryz.underlying4
  a4 := Tryz.isAgg4
  z4 := Tryz.sizeOf4
  v4 := Tryz.zeroValue4
  t9 := Tryz.underlying9
  a9 := Tryz.isAgg9
  z9 := Tryz.sizeOf9
  v9 := Tryz.zeroValue9
  t20 := Tryz.underlying20
  a20 := Tryz.isAgg20
  z20 := Tryz.sizeOf20
  v20 := Tryz.zeroValue20
  t31 := Tryz.underlying28
  a31 := Tryz.isAgg28
  z31 := Tryz.sizeOf28
  v31 := Tryz.zeroValue28
  t37 := Tryz.underlying22
  a37 := Tryz.isAgg22
  z37 := Tryz.sizeOf22
  v37 := Tryz.zeroValue22
  t70 := Tryz.underlying72
  a70 := Tryz.isAgg72
  z70 := Tryz.sizeOf72
  v70 := Tryz.zeroValue72
  t72 := Tryz.underlying74
  a72 := Tryz.isAgg74
  z72 := Tryz.sizeOf74
  v72 := Tryz.zeroValue74
  t75 := Tryz.underlying77
  a75 := Tryz.isAgg77
  z75 := Tryz.sizeOf77
  v75 := Tryz.zeroValue77
  t76 := Tryz.underlying78
  a76 := Tryz.isAgg78
  z76 := Tryz.sizeOf78
  v76 := Tryz.zeroValue78
  t127 := Tryz.underlying116
  a127 := Tryz.isAgg116
  z127 := Tryz.sizeOf116
  v127 := Tryz.zeroValue116
  t164 := Tryz.underlying180
  a164 := Tryz.isAgg180
  z164 := Tryz.sizeOf180
  v164 := Tryz.zeroValue180 }
end Go.Proofs
end
section
set_option linter.unusedVariables false
set_option linter.unusedSimpArgs false
/- strings.Join at this program. -/
namespace Go.Proofs.YtgilghiegfgjeaaGreatDoor
open Go.RowKit Go.Shelf

theorem lextra : Builder.Extra Tryz.prog Tryz.ljoin_ren := {
  sizeBuilder := by kernel_rfl
  liesBuilder := by kernel_rfl
  t5 := Tryz.underlying5
  a5 := Tryz.isAgg5
  z5 := Tryz.sizeOf5
  v5 := Tryz.zeroValue5
  infoByte := by kernel_rfl
  cellsByte := by kernel_rfl
  sizeByte := by kernel_rfl
  neB5 := by decide }
theorem join_any (bk o c : Nat) (xs : List ByteArray) (sep : ByteArray) (w : World) (h1 : ∀ (j : Nat) x, xs[j]? = some x → w.cell? ⟨bk, o + j, none⟩ = some (.string x)) (h2 : bk < w.heap.size) (h3 : xs.length ≤ 140737488355328) (h4 : xs.length ≤ c)
    (h5 : (Lib.join (xs.map (·.data.toList)) sep.data.toList).length ≤ 140737488355328) : Calls Tryz.prog 23 #[.slice (some ⟨bk, o, none⟩) xs.length c, .string sep] w fun e w' => e = .returned (.string ⟨(Lib.join (xs.map (·.data.toList)) sep.data.toList).toArray⟩) ∧ Below w.heap.size w w' :=
  Any.strings_Join Tryz.ljoin lextra bk o c xs sep w h1 h2 h3 h4 h5
end Go.Proofs.YtgilghiegfgjeaaGreatDoor
end
section
set_option linter.unusedVariables false
set_option linter.unusedSimpArgs false
/- Layer 48: desk.Head. -/
namespace Go.Proofs.YtgilghiegfgjeaaGreatDoor
open Go.RowKit Go.Shelf Dk

theorem Tryz.infoDt : (Tryz.prog.info? 9).map (fun i => (i.zero, i.size, i.bytes)) = some (some (.string ⟨#[]⟩), 1, 16) := by kernel_rfl
theorem own_two {w : World} {base : Nat} {e : TypeId} (hb : base ≤ w.heap.size) (x y : Value) : (w.alloc (.cells #[x, y] e)).ownsRow base e 1 (.slice (some ⟨w.heap.size, 0, none⟩) 2 2) 2 [x, y] :=
  ⟨rfl, .inr ⟨w.heap.size, 2, #[x, y], rfl, hb, heap_alloc_new w _, Nat.le_refl _, by unfold maxLen; omega, rfl, rfl⟩⟩
theorem one_encS (x : ByteArray) : ∀ u ∈ encS x, u.oneCell' = true := by simp [encS, Value.oneCell']
theorem lineB_len {n : ByteArray} {g l p b : Int} (hn : n.size ≤ 7) (hg : inR g) (hl : inR l) (hp : inR p) (hb : inR b) : (lineB n g l p b).data.toList.length ≤ 140737488355328 := by
  have h1 := txt_len hg
  have h2 := txt_len hl
  have h3 := txt_len hp
  have h4 := txt_len hb
  have h5 : n.data.toList.length = n.size := lenData n
  unfold lineB
  simp only [joinW, lineL, List.length_append, List.length_cons]
  have h6 : lockB.data.toList.length = 4 := rfl
  omega
def headV (k g l p b : Int) : Value := if nameS k = ⟨#[]⟩ then .tuple #[.string ⟨#[]⟩, .int .i64 7] else .tuple #[.string (lineB (nameS k) g l p b), .int .i64 0]
/-- the words of a lock's line -/
def lineW (n : ByteArray) (g l p b : Int) : List ByteArray := [lockB, n, txtB g, txtB l, txtB p, txtB b]
theorem join_line (n : ByteArray) (g l p b : Int) : (⟨(Lib.join ((lineW n g l p b).map (·.data.toList)) [32]).toArray⟩ : ByteArray) = lineB n g l p b := by
  unfold lineB
  rw [lineW, List.map_cons, Lib.join_cons]
  simp only [List.map_cons, List.map_nil, Lib.joinTail, List.flatten_cons, List.flatten_nil, joinW, lineL]
  simp [txtB]
theorem nameS_cases (k : Int) : nameS k = ⟨#[]⟩ ∨ (1 ≤ k ∧ k ≤ 13) := by
  by_cases h : 1 ≤ k ∧ k ≤ 13
  · exact .inr h
  · left
    unfold nameS
    by_cases h0 : k.toNat = 0
    · rw [h0]; rfl
    · exact nmB_out (by omega)
theorem nameS_ne {k : Int} (h : 1 ≤ k ∧ k ≤ 13) : nameS k ≠ ⟨#[]⟩ := by
  intro e
  have := (nmB_ne k.toNat (by omega) (by omega)).1
  unfold nameS at e
  rw [e] at this
  exact this (by rw [ByteArray.toList_eq])
theorem txt_len20 {z : Int} (h : inR z) : (txtB z).size ≤ 20 := txt_len h
set_option maxRecDepth 100000 in
set_option maxHeartbeats 4000000 in
theorem head_any (w : World) (k g l p b : Int) (hk : inR k) (hg : inR g) (hl : inR l) (hp : inR p) (hb : inR b) :
    Calls Tryz.prog 9 #[specV k g l p b] w fun e w' => Below w.heap.size w w' ∧ e = .returned (headV k g l p b) := by
  obtain ⟨i0, hi, hz0, hz1, hz2⟩ := info_parts Tryz.infoDt
  have HI := Lib.hid (And.intro hi (And.intro hz0 (And.intro hz1 hz2)))
  clear hi hz0 hz1 hz2
  unfold specV
  rcases nameS_cases k with hn | hn
  · have HN := Lib.hid hn
    clear hn
    go_enter Tryz.func9, Tryz.ntmps9
    go_wp2_with fail
    refine (name_any _ k).mono ?_
    rintro e w1 ⟨rfl, hb1⟩
    rw [HN.out]
    have HB : Hid (Below w.heap.size w w1) := Lib.hid (((Below.refl _ w).alloc (Nat.le_refl _) _).trans (hb1.mono (by simp)))
    clear hb1
    go_wp2
    go_ret2
    exact ⟨HB.out, by unfold headV; rw [if_pos HN.out]; rfl⟩
  · obtain ⟨n, hnn⟩ : ∃ n, n = nameS k := ⟨_, rfl⟩
    have hne : ¬ n = ⟨#[]⟩ := by rw [hnn]; exact nameS_ne hn
    have hne2 : (n.toList == []) = false := by
      rw [ByteArray.toList_eq]
      exact beq_eq_false_iff_ne.2 fun e => hne (ByteArray.ext (Array.toList_inj.1 e))
    have HN := Lib.hid (And.intro hnn hne)
    have hsz0 : n.size ≤ 7 := by rw [hnn]; exact nmB_size _ (by omega)
    have HZ := Lib.hid hsz0
    have ix0 : ∀ W, (Instr.index 52 (.agg #[.int .i64 g, .int .i64 l, .int .i64 p, .int .i64 b]) (.int .i64 0)).run Tryz.prog W = .ok (.int .i64 g) W := fun _ => by kernel_rfl
    have ix1 : ∀ W, (Instr.index 52 (.agg #[.int .i64 g, .int .i64 l, .int .i64 p, .int .i64 b]) (.int .i64 1)).run Tryz.prog W = .ok (.int .i64 l) W := fun _ => by kernel_rfl
    have ix2 : ∀ W, (Instr.index 52 (.agg #[.int .i64 g, .int .i64 l, .int .i64 p, .int .i64 b]) (.int .i64 2)).run Tryz.prog W = .ok (.int .i64 p) W := fun _ => by kernel_rfl
    have ix3 : ∀ W, (Instr.index 52 (.agg #[.int .i64 g, .int .i64 l, .int .i64 p, .int .i64 b]) (.int .i64 3)).run Tryz.prog W = .ok (.int .i64 b) W := fun _ => by kernel_rfl
    go_enter Tryz.func9, Tryz.ntmps9
    go_wp2_with fail
    refine (name_any _ k).mono ?_
    rintro e w1 ⟨rfl, hb1⟩
    rw [← hnn]
    have hbx := Blk.below (Blk.new w 32 #[.int .i64 k, .int .i64 g, .int .i64 l, .int .i64 p, .int .i64 b]) hb1 (by simp)
    have c1 : w1.cell? ⟨w.heap.size, 1, none⟩ = some (.int .i64 g) := hbx.cell 1
    have c2 : w1.cell? ⟨w.heap.size, 2, none⟩ = some (.int .i64 l) := hbx.cell 2
    have c3 : w1.cell? ⟨w.heap.size, 3, none⟩ = some (.int .i64 p) := hbx.cell 3
    have c4 : w1.cell? ⟨w.heap.size, 4, none⟩ = some (.int .i64 b) := hbx.cell 4
    have HB : Hid (Below w.heap.size w w1) := Lib.hid (((Below.refl _ w).alloc (Nat.le_refl _) _).trans (hb1.mono (by simp)))
    have hsz := HB.out.size
    have hsl : w.heap.size < w1.heap.size := Nat.lt_of_lt_of_le (by simp) hb1.size
    have hsn : ¬ w.heap.size = w1.heap.size := by omega
    clear hb1 hbx hnn hne hsz0
    go_wp2
    go_loopw [5, 28] (fun o j wr => ∃ i : Nat, j = .int .i64 i ∧ i ≤ 4 ∧ wr.ownsRow w.heap.size 9 1 o (2 + i) (((lineW n g l p b).take (2 + i)).map Value.string) ∧ Below w.heap.size w wr) (fun _ j _ => 4 - (intOf j).toNat)
    case atStart => exact ⟨0, rfl, by omega, own_two hsz _ _, HB.out.alloc hsz _⟩
    case round =>
      obtain ⟨i, rfl, hi, hown, hbel⟩ := hrel
      obtain ⟨wo, rfl⟩ : ∃ wo : World, wo = wr := ⟨_, rfl⟩
      have HO := Lib.hid (And.intro hown hbel)
      have hszo := hbel.size
      obtain ⟨A9, c9, rfl⟩ := own_form hown
      clear hown hbel
      rcases (show i = 0 ∨ i = 1 ∨ i = 2 ∨ i = 3 ∨ i = 4 by omega) with rfl | rfl | rfl | rfl | rfl
      · go_wp2_with fail
        refine (text_any g hg _).mono ?_
        rintro e w1 ⟨rfl, hb1⟩
        have HO1 := Lib.hid (And.intro (own_below HO.out.1 hb1) (HO.out.2.trans (hb1.mono HO.out.2.size)))
        have hsz1 := HO1.out.2.size
        clear hb1
        go_wp2_with (at_builtin; refine wpList_append_own _ rfl _ _ 28 rfl w.heap.size 9 i0 (.string ⟨#[]⟩) 1 16 Tryz.underlying28 HI.out.1 HI.out.2.1 HI.out.2.2.1 HI.out.2.2.2 rfl (by decide) _ _ _ rfl (HO1.out.1.alloc _) ⟨w1.heap.size, 0, none⟩ 1 1 (encS (txtB g)) rfl rfl (cell_one_new _ _ _) (one_encS _) ?c3 ?c4 ?c5 ?_)
        case c3 => unfold maxLen; omega
        case c4 => omega
        case c5 => first | omega | (simp; omega)
        intro v' w' hown' hgrow hnil
        have HN := Lib.hid (And.intro hown' hgrow)
        clear hown' hgrow hnil
        go_wp2
        go_roundw
        case rel => exact ⟨1, rfl, by omega, HN.out.1, (HO1.out.2.alloc (by omega) _).grown HN.out.2 (by simp; omega) (fun j hj => (HO1.out.1.lt j hj).1)⟩
        case measure => simp [intOf]
      · go_wp2_with fail
        refine (text_any l hl _).mono ?_
        rintro e w1 ⟨rfl, hb1⟩
        have HO1 := Lib.hid (And.intro (own_below HO.out.1 hb1) (HO.out.2.trans (hb1.mono HO.out.2.size)))
        have hsz1 := HO1.out.2.size
        clear hb1
        go_wp2_with (at_builtin; refine wpList_append_own _ rfl _ _ 28 rfl w.heap.size 9 i0 (.string ⟨#[]⟩) 1 16 Tryz.underlying28 HI.out.1 HI.out.2.1 HI.out.2.2.1 HI.out.2.2.2 rfl (by decide) _ _ _ rfl (HO1.out.1.alloc _) ⟨w1.heap.size, 0, none⟩ 1 1 (encS (txtB l)) rfl rfl (cell_one_new _ _ _) (one_encS _) ?c3 ?c4 ?c5 ?_)
        case c3 => unfold maxLen; omega
        case c4 => omega
        case c5 => first | omega | (simp; omega)
        intro v' w' hown' hgrow hnil
        have HN := Lib.hid (And.intro hown' hgrow)
        clear hown' hgrow hnil
        go_wp2
        go_roundw
        case rel => exact ⟨2, rfl, by omega, HN.out.1, (HO1.out.2.alloc (by omega) _).grown HN.out.2 (by simp; omega) (fun j hj => (HO1.out.1.lt j hj).1)⟩
        case measure => simp [intOf]
      · go_wp2_with fail
        refine (text_any p hp _).mono ?_
        rintro e w1 ⟨rfl, hb1⟩
        have HO1 := Lib.hid (And.intro (own_below HO.out.1 hb1) (HO.out.2.trans (hb1.mono HO.out.2.size)))
        have hsz1 := HO1.out.2.size
        clear hb1
        go_wp2_with (at_builtin; refine wpList_append_own _ rfl _ _ 28 rfl w.heap.size 9 i0 (.string ⟨#[]⟩) 1 16 Tryz.underlying28 HI.out.1 HI.out.2.1 HI.out.2.2.1 HI.out.2.2.2 rfl (by decide) _ _ _ rfl (HO1.out.1.alloc _) ⟨w1.heap.size, 0, none⟩ 1 1 (encS (txtB p)) rfl rfl (cell_one_new _ _ _) (one_encS _) ?c3 ?c4 ?c5 ?_)
        case c3 => unfold maxLen; omega
        case c4 => omega
        case c5 => first | omega | (simp; omega)
        intro v' w' hown' hgrow hnil
        have HN := Lib.hid (And.intro hown' hgrow)
        clear hown' hgrow hnil
        go_wp2
        go_roundw
        case rel => exact ⟨3, rfl, by omega, HN.out.1, (HO1.out.2.alloc (by omega) _).grown HN.out.2 (by simp; omega) (fun j hj => (HO1.out.1.lt j hj).1)⟩
        case measure => simp [intOf]
      · go_wp2_with fail
        refine (text_any b hb _).mono ?_
        rintro e w1 ⟨rfl, hb1⟩
        have HO1 := Lib.hid (And.intro (own_below HO.out.1 hb1) (HO.out.2.trans (hb1.mono HO.out.2.size)))
        have hsz1 := HO1.out.2.size
        clear hb1
        go_wp2_with (at_builtin; refine wpList_append_own _ rfl _ _ 28 rfl w.heap.size 9 i0 (.string ⟨#[]⟩) 1 16 Tryz.underlying28 HI.out.1 HI.out.2.1 HI.out.2.2.1 HI.out.2.2.2 rfl (by decide) _ _ _ rfl (HO1.out.1.alloc _) ⟨w1.heap.size, 0, none⟩ 1 1 (encS (txtB b)) rfl rfl (cell_one_new _ _ _) (one_encS _) ?c3 ?c4 ?c5 ?_)
        case c3 => unfold maxLen; omega
        case c4 => omega
        case c5 => first | omega | (simp; omega)
        intro v' w' hown' hgrow hnil
        have HN := Lib.hid (And.intro hown' hgrow)
        clear hown' hgrow hnil
        go_wp2
        go_roundw
        case rel => exact ⟨4, rfl, by omega, HN.out.1, (HO1.out.2.alloc (by omega) _).grown HN.out.2 (by simp; omega) (fun j hj => (HO1.out.1.lt j hj).1)⟩
        case measure => simp [intOf]
      · have hR : RdL wo (.slice A9 (lineW n g l p b).length c9) 1 encS (lineW n g l p b) := by
          refine RdL.of_own (base := w.heap.size) (e := 9) encS_len rfl (show (6 : Nat) ≤ 140737488355328 by omega) ?_
          exact HO.out.1
        obtain ⟨_, hcap, b', off', rfl, hb', hcell⟩ := hR.word (show (0 : Nat) < 6 by omega)
        have o0 : off' = 0 := by
          obtain ⟨A, c, cur, e, _⟩ := (HO.out.1).2.resolve_left (fun h => by cases h.1)
          injection e with e1 e2 e3
          injection e1 with e1
          injection e1 with e1 e2
        subst o0
        have HC := Lib.hid (And.intro hcell hb')
        clear hcell hb' hR
        go_wp2_with fail
        refine (join_any b' 0 c9 (lineW n g l p b) ⟨#[32]⟩ wo HC.out.1 HC.out.2 (show (6 : Nat) ≤ 140737488355328 by omega) hcap ?_).mono ?_
        · have := congrArg (fun x : ByteArray => x.data.toList.length) (join_line n g l p b)
          simp only at this
          rw [show (⟨#[32]⟩ : ByteArray).data.toList = [32] from rfl, this]
          exact lineB_len HZ.out hg hl hp hb
        rintro e w2 ⟨rfl, hb2⟩
        have HJ := Lib.hid (HO.out.2.trans (hb2.mono HO.out.2.size))
        clear hb2
        go_wp2
        go_ret2
        refine ⟨HJ.out, ?_⟩
        unfold headV
        rw [if_neg (by rw [← HN.out.1]; exact HN.out.2), ← HN.out.1, ← join_line]
        rfl
end Go.Proofs.YtgilghiegfgjeaaGreatDoor
end
section
set_option linter.unusedVariables false
set_option linter.unusedSimpArgs false
/- Layer 48: the document's Head. -/
namespace Go.Proofs.YtgilghiegfgjeaaGreatDoor
open Go.RowKit Go.Shelf Dk

theorem rtext_call (z : Int) (hz : inR z) (w : World) : Calls Tryz.prog 25 #[.int .i64 z] w fun e w' => e = .returned (.string (txtB z)) ∧ w' = w := rtext_any _ z (Nat.lt_succ_self _) hz w
theorem line_app (n : ByteArray) (g l p b : Int) : (((((((((⟨#[108, 111, 99, 107, 32]⟩ : ByteArray) ++ n) ++ ⟨#[32]⟩) ++ txtB g) ++ ⟨#[32]⟩) ++ txtB l) ++ ⟨#[32]⟩) ++ txtB p) ++ ⟨#[32]⟩) ++ txtB b = lineB n g l p b := by
  apply ByteArray.ext
  unfold lineB
  simp [joinW, lineL, txtB, lockB]
set_option maxRecDepth 100000 in
set_option maxHeartbeats 8000000 in
theorem rhead_any (w : World) (k g l p b : Int) (hk : inR k) (hg : inR g) (hl : inR l) (hp : inR p) (hb : inR b) :
    Calls Tryz.prog 10 #[specV k g l p b] w fun e w' => Below w.heap.size w w' ∧ e = .returned (headV k g l p b) := by
  unfold specV
  rcases nameS_cases k with hn | hn
  · have HN := Lib.hid hn
    clear hn
    go_enter Tryz.func10, Tryz.ntmps10
    go_wp2_with fail
    refine (rname_any _ k).mono ?_
    rintro e w1 ⟨rfl, hb1⟩
    rw [HN.out]
    have HB : Hid (Below w.heap.size w w1) := Lib.hid (((Below.refl _ w).alloc (Nat.le_refl _) _).trans (hb1.mono (by simp)))
    clear hb1
    go_wp2
    go_ret2
    exact ⟨HB.out, by unfold headV; rw [if_pos HN.out]; rfl⟩
  · obtain ⟨n, hnn⟩ : ∃ n, n = nameS k := ⟨_, rfl⟩
    have hne : ¬ n = ⟨#[]⟩ := by rw [hnn]; exact nameS_ne hn
    have hne2 : (n.toList == []) = false := by
      rw [ByteArray.toList_eq]
      exact beq_eq_false_iff_ne.2 fun e => hne (ByteArray.ext (Array.toList_inj.1 e))
    have hne3 : n.toList.isEmpty = false := by rw [hnn]; exact (nmB_ne k.toNat (by omega) (by omega)).2
    have HN := Lib.hid (And.intro hnn hne)
    have hsz0 : n.size ≤ 7 := by rw [hnn]; exact nmB_size _ (by omega)
    have t1 := txt_len20 hg
    have t2 := txt_len20 hl
    have t3 := txt_len20 hp
    have t4 := txt_len20 hb
    go_enter Tryz.func10, Tryz.ntmps10
    go_wp2_with fail
    refine (rname_any _ k).mono ?_
    rintro e w1 ⟨rfl, hb1⟩
    rw [← hnn]
    have hbx := Blk.below (Blk.new w 32 #[.int .i64 k, .int .i64 g, .int .i64 l, .int .i64 p, .int .i64 b]) hb1 (by simp)
    have c0 : w1.cell? ⟨w.heap.size, 0, none⟩ = some (.int .i64 k) := hbx.cell 0
    have c1 : w1.cell? ⟨w.heap.size, 1, none⟩ = some (.int .i64 g) := hbx.cell 1
    have c2 : w1.cell? ⟨w.heap.size, 2, none⟩ = some (.int .i64 l) := hbx.cell 2
    have c3 : w1.cell? ⟨w.heap.size, 3, none⟩ = some (.int .i64 p) := hbx.cell 3
    have c4 : w1.cell? ⟨w.heap.size, 4, none⟩ = some (.int .i64 b) := hbx.cell 4
    have HB : Hid (Below w.heap.size w w1) := Lib.hid (((Below.refl _ w).alloc (Nat.le_refl _) _).trans (hb1.mono (by simp)))
    have hsz := HB.out.size
    have hsl : w.heap.size < w1.heap.size := Nat.lt_of_lt_of_le (by simp) hb1.size
    have hsn : ¬ w.heap.size = w1.heap.size := by omega
    have HBX := Lib.hid hbx
    clear hb1 hbx hne hnn
    have hszk : (nameS k).size ≤ 7 := by rw [← HN.out.1]; exact hsz0
    have hk5 : (⟨#[108, 111, 99, 107, 32]⟩ : ByteArray).size = 5 := rfl
    have hk1 : (⟨#[32]⟩ : ByteArray).size = 1 := rfl
    obtain ⟨A1, hA1⟩ : ∃ A1 : ByteArray, A1 = ⟨#[108, 111, 99, 107, 32]⟩ ++ nameS k := ⟨_, rfl⟩
    have z1 : A1.size = (⟨#[108, 111, 99, 107, 32]⟩ : ByteArray).size + (nameS k : ByteArray).size := by rw [hA1, ByteArray.size_append]
    have r1 : ∀ W : World, (Op.stringOp .add ⟨#[108, 111, 99, 107, 32]⟩ (nameS k)).run Tryz.prog W = .ok (.string A1) W := fun W => by rw [hA1]; exact run_string_add_sum W _ _ (by omega)
    obtain ⟨A2, hA2⟩ : ∃ A2 : ByteArray, A2 = A1 ++ ⟨#[32]⟩ := ⟨_, rfl⟩
    have z2 : A2.size = (A1 : ByteArray).size + (⟨#[32]⟩ : ByteArray).size := by rw [hA2, ByteArray.size_append]
    have r2 : ∀ W : World, (Op.stringOp .add A1 (⟨#[32]⟩)).run Tryz.prog W = .ok (.string A2) W := fun W => by rw [hA2]; exact run_string_add_sum W _ _ (by omega)
    obtain ⟨A3, hA3⟩ : ∃ A3 : ByteArray, A3 = A2 ++ txtB g := ⟨_, rfl⟩
    have z3 : A3.size = (A2 : ByteArray).size + (txtB g : ByteArray).size := by rw [hA3, ByteArray.size_append]
    have r3 : ∀ W : World, (Op.stringOp .add A2 (txtB g)).run Tryz.prog W = .ok (.string A3) W := fun W => by rw [hA3]; exact run_string_add_sum W _ _ (by omega)
    obtain ⟨A4, hA4⟩ : ∃ A4 : ByteArray, A4 = A3 ++ ⟨#[32]⟩ := ⟨_, rfl⟩
    have z4 : A4.size = (A3 : ByteArray).size + (⟨#[32]⟩ : ByteArray).size := by rw [hA4, ByteArray.size_append]
    have r4 : ∀ W : World, (Op.stringOp .add A3 (⟨#[32]⟩)).run Tryz.prog W = .ok (.string A4) W := fun W => by rw [hA4]; exact run_string_add_sum W _ _ (by omega)
    obtain ⟨A5, hA5⟩ : ∃ A5 : ByteArray, A5 = A4 ++ txtB l := ⟨_, rfl⟩
    have z5 : A5.size = (A4 : ByteArray).size + (txtB l : ByteArray).size := by rw [hA5, ByteArray.size_append]
    have r5 : ∀ W : World, (Op.stringOp .add A4 (txtB l)).run Tryz.prog W = .ok (.string A5) W := fun W => by rw [hA5]; exact run_string_add_sum W _ _ (by omega)
    obtain ⟨A6, hA6⟩ : ∃ A6 : ByteArray, A6 = A5 ++ ⟨#[32]⟩ := ⟨_, rfl⟩
    have z6 : A6.size = (A5 : ByteArray).size + (⟨#[32]⟩ : ByteArray).size := by rw [hA6, ByteArray.size_append]
    have r6 : ∀ W : World, (Op.stringOp .add A5 (⟨#[32]⟩)).run Tryz.prog W = .ok (.string A6) W := fun W => by rw [hA6]; exact run_string_add_sum W _ _ (by omega)
    obtain ⟨A7, hA7⟩ : ∃ A7 : ByteArray, A7 = A6 ++ txtB p := ⟨_, rfl⟩
    have z7 : A7.size = (A6 : ByteArray).size + (txtB p : ByteArray).size := by rw [hA7, ByteArray.size_append]
    have r7 : ∀ W : World, (Op.stringOp .add A6 (txtB p)).run Tryz.prog W = .ok (.string A7) W := fun W => by rw [hA7]; exact run_string_add_sum W _ _ (by omega)
    obtain ⟨A8, hA8⟩ : ∃ A8 : ByteArray, A8 = A7 ++ ⟨#[32]⟩ := ⟨_, rfl⟩
    have z8 : A8.size = (A7 : ByteArray).size + (⟨#[32]⟩ : ByteArray).size := by rw [hA8, ByteArray.size_append]
    have r8 : ∀ W : World, (Op.stringOp .add A7 (⟨#[32]⟩)).run Tryz.prog W = .ok (.string A8) W := fun W => by rw [hA8]; exact run_string_add_sum W _ _ (by omega)
    obtain ⟨A9, hA9⟩ : ∃ A9 : ByteArray, A9 = A8 ++ txtB b := ⟨_, rfl⟩
    have z9 : A9.size = (A8 : ByteArray).size + (txtB b : ByteArray).size := by rw [hA9, ByteArray.size_append]
    have r9 : ∀ W : World, (Op.stringOp .add A8 (txtB b)).run Tryz.prog W = .ok (.string A9) W := fun W => by rw [hA9]; exact run_string_add_sum W _ _ (by omega)
    have HA : Hid (A9 = lineB (nameS k) g l p b) := Lib.hid (by rw [← line_app, hA9, hA8, hA7, hA6, hA5, hA4, hA3, hA2, hA1])
    clear hA9 z9 hA8 z8 hA7 z7 hA6 z6 hA5 z5 hA4 z4 hA3 z3 hA2 z2 hA1 z1 hk5 hk1 t1 t2 t3 t4
    go_wp2
    obtain ⟨W1, hW1⟩ : ∃ W1, W1 = w1.alloc (.cells #[.int .i64 g, .int .i64 l, .int .i64 p, .int .i64 b] 30) := ⟨_, rfl⟩
    obtain ⟨q, hq⟩ : ∃ q, q = w1.heap.size := ⟨_, rfl⟩
    have B1 : Blk W1 w.heap.size 32 #[.int .i64 k, .int .i64 g, .int .i64 l, .int .i64 p, .int .i64 b] := by rw [hW1]; exact HBX.out.alloc _
    have B2 : Blk W1 q 30 #[.int .i64 g, .int .i64 l, .int .i64 p, .int .i64 b] := by rw [hW1, hq]; exact Blk.new _ _ _
    have HB1 : Hid (Below w.heap.size w W1) := Lib.hid (by rw [hW1]; exact HB.out.alloc hsz _)
    have hsz1 := HB1.out.size
    have HKS : Hid (∀ W, Below W1.heap.size W1 W → W.cell? ⟨w.heap.size, 0, none⟩ = some (.int .i64 k) ∧ W.cell? ⟨q, 0, none⟩ = some (.int .i64 g) ∧ W.cell? ⟨q, 1, none⟩ = some (.int .i64 l) ∧ W.cell? ⟨q, 2, none⟩ = some (.int .i64 p) ∧ W.cell? ⟨q, 3, none⟩ = some (.int .i64 b)) :=
      Lib.hid fun W hb => ⟨(B1.below hb B1.lt).cell 0, (B2.below hb B2.lt).cell 0, (B2.below hb B2.lt).cell 1, (B2.below hb B2.lt).cell 2, (B2.below hb B2.lt).cell 3⟩
    rw [← hW1, ← hq]
    clear hW1 hq B1 B2 c0 c1 c2 c3 c4 hsn hsl hsz HBX HB
    go_region_held3 (fun W => W.cell? ⟨w.heap.size, 0, none⟩ = some (.int .i64 k) ∧ W.cell? ⟨q, 0, none⟩ = some (.int .i64 g) ∧ W.cell? ⟨q, 1, none⟩ = some (.int .i64 l) ∧ W.cell? ⟨q, 2, none⟩ = some (.int .i64 p) ∧ W.cell? ⟨q, 3, none⟩ = some (.int .i64 b))
      (first | exact HKS.out _ (Below.refl _ _).drew | exact HKS.out _ (by assumption))
      (first
        | (go_at_call 24; go_loud (refine (rname_any _ k).mono ?_); rintro en w2 ⟨rfl, b2⟩; have k2 : Below W1.heap.size W1 w2 := by exact ⟨b2.os, b2.tape, b2.output, b2.size, b2.block⟩)
        | (go_at_call 25; go_loud (refine (rtext_call _ (by assumption) _).mono ?_); rintro en w3 ⟨rfl, q3⟩; have k3 : Below W1.heap.size W1 w3 := by (rw [q3]; assumption)))
    go_wp2
    go_ret2
    refine ⟨?_, by unfold headV; rw [if_neg (by rw [← HN.out.1]; exact HN.out.2), ← HA.out]; rfl⟩
    exact HB1.out.trans (Below.mono (by assumption) hsz1)
end Go.Proofs.YtgilghiegfgjeaaGreatDoor
end
section
set_option linter.unusedVariables false
set_option linter.unusedSimpArgs false
/- Layer 48: desk.Spec, the walk. -/
namespace Go.Proofs.YtgilghiegfgjeaaGreatDoor
open Go.RowKit Go.Shelf Dk

theorem set5 {w : World} {g : Nat} {t : TypeId} {a b c d e a' b' c' d' e' : Value} (h : Blk w g t #[a, b, c, d, e]) :
    Blk (((((w.setCell ⟨g, 0, none⟩ a').setCell ⟨g, 1, none⟩ b').setCell ⟨g, 2, none⟩ c').setCell ⟨g, 3, none⟩ d').setCell ⟨g, 4, none⟩ e') g t #[a', b', c', d', e'] := by
  have := ((((h.set_ 0 a').set_ 1 b').set_ 2 c').set_ 3 d').set_ 4 e'
  simpa using this
theorem bel5 {B : Nat} {a w : World} (h : Below B a w) (g : Nat) (hg : B ≤ g) (a' b' c' d' e' : Value) : Below B a (((((w.setCell ⟨g, 0, none⟩ a').setCell ⟨g, 1, none⟩ b').setCell ⟨g, 2, none⟩ c').setCell ⟨g, 3, none⟩ d').setCell ⟨g, 4, none⟩ e') :=
  ((((h.setCell hg _).setCell hg _).setCell hg _).setCell hg _).setCell hg _
set_option maxRecDepth 100000 in
set_option maxHeartbeats 4000000 in
theorem spec_any (w : World) (v : Value) (l : List ByteArray) (hR : RdL w v 1 encS l) (hl : l.length ≤ 1000) (hs : ∀ s ∈ l, s.size ≤ 4294967296) :
    Calls Tryz.prog 7 #[v] w fun e w' => Below w.heap.size w w' ∧ ∃ u, e = .returned u ∧ SpecRes l u := by
  have HS := Lib.hid (And.intro hR hs)
  obtain ⟨A, cap, rfl⟩ : ∃ A cap, v = .slice A l.length cap := by
    obtain ⟨A, cap, e, _⟩ := hR
    exact ⟨A, cap, e⟩
  clear hR hs
  have B0 : Blk (w.alloc (.cells #[.int .i64 0, .int .i64 0, .int .i64 0, .int .i64 0, .int .i64 0] 32)) w.heap.size 32 _ := Blk.new _ _ _
  by_cases h6 : l.length = 6
  · obtain ⟨_, hcap, b, off, rfl, hb, hcell⟩ := HS.out.1.word (by omega)
    obtain ⟨s0, hs0⟩ := getElem?_lt (show 0 < l.length by omega)
    obtain ⟨s1, hs1⟩ := getElem?_lt (show 1 < l.length by omega)
    have c0 : w.cell? ⟨b, off, none⟩ = some (.string s0) := hcell 0 s0 hs0
    have c1 : w.cell? ⟨b, off + 1, none⟩ = some (.string s1) := hcell 1 s1 hs1
    have HH := Lib.hid (And.intro hs0 (And.intro hs1 hcell))
    rw [h6] at hcap HS ⊢
    clear hs0 hs1 hcell
    by_cases hlk : s0 = lockB
    · have he : (s0.toList == [108, 111, 99, 107]) = true := by rw [ByteArray.toList_eq, hlk]; rfl
      have HL := Lib.hid hlk
      clear hlk
      go_enter Tryz.func7, Tryz.ntmps7
      go_wp2_with fail
      refine (numbers_any _ _ (l.drop 2) ((HS.out.1.drop2 (by omega)).alloc _) (by rw [List.length_drop]; omega) (by rw [List.length_drop]; omega) (fun s hs => HS.out.2 s (List.mem_of_mem_drop hs))).mono ?_
      rintro e w1 ⟨hbel, ⟨u, zs, rfl, hzr, hzl, hzs⟩ | ⟨rfl, hno⟩⟩
      · obtain ⟨n, g, lo, p, bu, hn, rfl, hsp⟩ := specOf_some h6 (HL.out ▸ HH.out.1) (by rw [hzl, List.length_drop, h6]) hzs
        obtain rfl : s1 = n := by
          have := HH.out.2.1.symm.trans hn
          injection this
        have B1 := B0.below hbel (by simp)
        have b1 : Below w.heap.size w w1 := ((Below.refl _ w).alloc (Nat.le_refl _) _).trans (hbel.mono (by simp))
        have c1' : w1.cell? ⟨b, off + 1, none⟩ = some (.string s1) := (b1.cell (by exact hb)).trans c1
        have HB := Lib.hid (And.intro B1 (And.intro b1 (And.intro hzr hsp)))
        clear hn hsp B1 b1 hzr hzl hzs hbel c0 c1 B0
        go_wp2_with fail
        refine (kind_any w1 s1).mono ?_
        rintro e w2 ⟨k, rfl, hk, hb2⟩
        have B2 := HB.out.1.below hb2 HB.out.1.lt
        have b2 : Below w.heap.size w w2 := HB.out.2.1.trans (hb2.mono HB.out.2.1.size)
        have hz2 := HB.out.2.2.1.below hb2 (Nat.le_refl _)
        have d0 : w2.cell? ⟨w.heap.size, 0, none⟩ = some (.int .i64 0) := B2.cell 0
        have d1 : w2.cell? ⟨w.heap.size, 1, none⟩ = some (.int .i64 0) := B2.cell 1
        have d2 : w2.cell? ⟨w.heap.size, 2, none⟩ = some (.int .i64 0) := B2.cell 2
        have d3 : w2.cell? ⟨w.heap.size, 3, none⟩ = some (.int .i64 0) := B2.cell 3
        have d4 : w2.cell? ⟨w.heap.size, 4, none⟩ = some (.int .i64 0) := B2.cell 4
        have hfz : ∀ i, w2.frozen? ⟨w.heap.size, i, none⟩ = false := B2.free
        obtain ⟨A', cap', hu, q1, q2, q3⟩ := hz2
        obtain ⟨b', off', rfl, hb', hc'⟩ := q3 (by simp)
        subst hu
        have e0 : w2.cell? ⟨b', off', none⟩ = some (.int .i64 g) := by have := hc' 0 g rfl 0 _ rfl; simpa using this
        have e1 : w2.cell? ⟨b', off' + 1, none⟩ = some (.int .i64 lo) := by have := hc' 1 lo rfl 0 _ rfl; simpa using this
        have e2 : w2.cell? ⟨b', off' + 2, none⟩ = some (.int .i64 p) := by have := hc' 2 p rfl 0 _ rfl; simpa using this
        have e3 : w2.cell? ⟨b', off' + 3, none⟩ = some (.int .i64 bu) := by have := hc' 3 bu rfl 0 _ rfl; simpa using this
        have H2 := Lib.hid (And.intro B2 (And.intro b2 (And.intro hk HB.out.2.2.2)))
        rw [show ([g, lo, p, bu] : List Int).length = 4 from rfl] at q1 ⊢
        clear B2 b2 hk hb2 q2 q3 hc' hb' HB
        by_cases hk0 : k = 0
        · subst hk0
          go_wp2
          refine bodyPost_ret (results_cell_row2 (by rfl) _ _ w.heap.size 32 _ (0, 0) _ (by rfl) (set5 H2.out.1) Tryz.underlying32 rfl (by kernel_rfl)) rfl ?_
          exact ⟨bel5 H2.out.2.1 _ (Nat.le_refl _) _ _ _ _ _, _, rfl, .inr ⟨_, _, _, _, _, H2.out.2.2.2, 0, H2.out.2.2.1, rfl⟩⟩
        · have hkb : ((k : Int) == 0) = false := beq_eq_false_iff_ne.2 (by omega)
          go_wp2
          refine wp_region_still_tail 15 (by kernel_rfl) (by kernel_rfl) ?_
          simp only [List.take_succ_cons, List.take_zero, List.drop_succ_cons, List.drop_zero]
          change wpStill _ _ (World.drew _) _ _ _
          repeat still_step
          refine wpStill_nil ?_
          change wpList _ _ _ _ _ (World.drew w2)
          obtain ⟨w3, hw3⟩ : ∃ w3, w3 = World.drew w2 := ⟨_, rfl⟩
          have g0 : w3.cell? ⟨w.heap.size, 0, none⟩ = some (.int .i64 0) := by rw [hw3]; exact d0
          have g1 : w3.cell? ⟨w.heap.size, 1, none⟩ = some (.int .i64 0) := by rw [hw3]; exact d1
          have g2 : w3.cell? ⟨w.heap.size, 2, none⟩ = some (.int .i64 0) := by rw [hw3]; exact d2
          have g3 : w3.cell? ⟨w.heap.size, 3, none⟩ = some (.int .i64 0) := by rw [hw3]; exact d3
          have g4 : w3.cell? ⟨w.heap.size, 4, none⟩ = some (.int .i64 0) := by rw [hw3]; exact d4
          have gz : ∀ i, w3.frozen? ⟨w.heap.size, i, none⟩ = false := by rw [hw3]; exact hfz
          have H3 : Hid (Blk w3 w.heap.size 32 #[.int .i64 0, .int .i64 0, .int .i64 0, .int .i64 0, .int .i64 0] ∧ Below w.heap.size w w3) := Lib.hid (by rw [hw3]; exact ⟨H2.out.1.drew, H2.out.2.1.drew⟩)
          rw [← hw3]
          clear hw3 d0 d1 d2 d3 d4 hfz e0 e1 e2 e3
          go_wp2
          refine bodyPost_ret (results_cell_row2 (by rfl) _ _ w.heap.size 32 _ (0, 0) _ (by rfl) (set5 H3.out.1) Tryz.underlying32 rfl (by kernel_rfl)) rfl ?_
          exact ⟨bel5 H3.out.2 _ (Nat.le_refl _) _ _ _ _ _, _, rfl, .inr ⟨_, _, _, _, _, H2.out.2.2.2, k, H2.out.2.2.1, (if_neg hk0).symm⟩⟩
      · have B1 := B0.below hbel (by simp)
        have b1 : Below w.heap.size w w1 := ((Below.refl _ w).alloc (Nat.le_refl _) _).trans (hbel.mono (by simp))
        have d0 : w1.cell? ⟨w.heap.size, 0, none⟩ = some (.int .i64 0) := B1.cell 0
        have d1 : w1.cell? ⟨w.heap.size, 1, none⟩ = some (.int .i64 0) := B1.cell 1
        have d2 : w1.cell? ⟨w.heap.size, 2, none⟩ = some (.int .i64 0) := B1.cell 2
        have d3 : w1.cell? ⟨w.heap.size, 3, none⟩ = some (.int .i64 0) := B1.cell 3
        have d4 : w1.cell? ⟨w.heap.size, 4, none⟩ = some (.int .i64 0) := B1.cell 4
        have hfz : ∀ i, w1.frozen? ⟨w.heap.size, i, none⟩ = false := B1.free
        have HB := Lib.hid (And.intro B1 (And.intro b1 (specOf_num hno)))
        clear B1 b1 hno hbel B0 c0 c1
        go_wp2
        refine bodyPost_ret (results_cell_row2 (by rfl) _ _ w.heap.size 32 _ (0, 0) _ (by rfl) (set5 HB.out.1) Tryz.underlying32 rfl (by kernel_rfl)) rfl ?_
        exact ⟨bel5 HB.out.2.1 _ (Nat.le_refl _) _ _ _ _ _, _, rfl, .inl ⟨HB.out.2.2, rfl⟩⟩
    · have he : (s0.toList == [108, 111, 99, 107]) = false := by
        rw [ByteArray.toList_eq]
        exact beq_eq_false_iff_ne.2 fun e => hlk (ByteArray.ext (Array.toList_inj.1 e))
      have HL := Lib.hid (specOf_head HH.out.1 hlk)
      have HB := Lib.hid B0
      clear hlk B0
      go_enter Tryz.func7, Tryz.ntmps7
      go_wp2
      refine bodyPost_ret (results_cell_row2 (by rfl) _ _ w.heap.size 32 _ (0, 0) _ (by rfl) HB.out Tryz.underlying32 rfl (by kernel_rfl)) rfl ?_
      exact ⟨(Below.refl _ w).alloc (Nat.le_refl _) _, _, rfl, .inl ⟨HL.out, rfl⟩⟩
  · have HL := Lib.hid (specOf_len h6)
    have HB := Lib.hid B0
    have h6' : ((l.length : Int) != 6) = true := by simp; omega
    clear B0
    go_enter Tryz.func7, Tryz.ntmps7
    go_wp2
    refine bodyPost_ret (results_cell_row2 (by rfl) _ _ w.heap.size 32 _ (0, 0) _ (by rfl) HB.out Tryz.underlying32 rfl (by kernel_rfl)) rfl ?_
    exact ⟨(Below.refl _ w).alloc (Nat.le_refl _) _, _, rfl, .inl ⟨HL.out, rfl⟩⟩
end Go.Proofs.YtgilghiegfgjeaaGreatDoor
end
