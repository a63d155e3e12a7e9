/- Joined: Tn2, Ar2S, Ar2C. -/
import Derived.ScopeJumps
import Derived.WalkMore
import Derived.Deep.RegionHeld3
import Derived.Deep.DeepCutAuto
import Derived.Test.YtkdaiomjbkpedaaGreatMgHmcsTenure2
import Derived.Test.YtkdaiomjbkpedaaGreatMgHmcsTenure8
section
/- Layer 13 (tenure): Of: two labels. -/
namespace Go.Proofs.YtkdaiomjbkpedaaGreat
open Go.RowKit

/-- by a goto to l: J l -/
def exitJ (J : Nat → Act → World → Prop) (Q : Exit → Act → World → Prop) : Exit → Act → World → Prop
  | .goto l, a, w => J l a w
  | e, a, w => Q e a w
theorem exitJ_ret {Q : Exit → Act → World → Prop} {J : Nat → Act → World → Prop} {a : Act} {w : World} : exitJ J Q .ret a w = Q .ret a w := rfl
/-- a scope of several labels: what holds at every jump, and a measure that every pass lowers -/
theorem wp_scope_many {P : Program} {a : Act} {w : World} {Q : Exit → Act → World → Prop} {c : Code} (J : Nat → Act → World → Prop) (μ : Act → World → Nat)
    (first : c.wp P (exitJ J Q) a w)
    (pass : ∀ l a w, J l a w → ∃ rest, findLabel c l = some rest ∧ rest.wp P (exitJ (fun l' a' w' => J l' a' w' ∧ μ a' w' < μ a w) Q) a w) : (Code.scope c).wp P Q a w := by
  intro b k cs
  have hg : ∀ {l rest}, findLabel c l = some rest → gotoIn l (.inScope c :: k) = some (.code rest :: .inScope c :: k) := fun hf => by simp [gotoIn, hf]
  have key : ∀ n l a w rest, μ a w = n → findLabel c l = some rest → J l a w → ∃ e a' w', Q e a' w' ∧ Arrives P (lone (b.at a (.code rest :: .inScope c :: k)) cs w) b k cs e a' w' := by
    intro n
    induction n using Nat.strongRecOn with
    | _ n ih =>
      intro l a w rest hn hf hJ
      obtain ⟨rest', hf', hp⟩ := pass l a w hJ
      obtain rfl : rest = rest' := by rw [hf] at hf'; injection hf'
      obtain ⟨e, a₁, w₁, hq, harr⟩ := hp b (.inScope c :: k) cs
      cases e with
      | normal => exact ⟨.normal, a₁, w₁, hq, Steps.trans harr (.one step_inScope)⟩
      | exit id => exact ⟨.exit id, a₁, w₁, hq, fun k' hk => harr k' (by simp [exitTo, hk])⟩
      | goto l' =>
        obtain ⟨hJ', hlt⟩ := hq
        obtain ⟨rest₂, hf₂, _⟩ := pass l' a₁ w₁ hJ'
        obtain ⟨e₂, a₂, w₂, hq₂, harr₂⟩ := ih _ (by omega) l' a₁ w₁ rest₂ rfl hf₂ hJ'
        exact ⟨e₂, a₂, w₂, hq₂, .of_steps (harr _ (hg hf₂)) harr₂⟩
      | ret => exact ⟨_, a₁, w₁, hq, harr⟩
      | panic ch => exact ⟨_, a₁, w₁, hq, harr⟩
      | outgrown => exact ⟨_, a₁, w₁, hq, harr⟩
  obtain ⟨e, a₁, w₁, hq, harr⟩ := first b (.inScope c :: k) cs
  cases e with
  | normal => exact ⟨.normal, a₁, w₁, hq, .head step_scope (Steps.trans harr (.one step_inScope))⟩
  | exit id => exact ⟨.exit id, a₁, w₁, hq, fun k' hk => .head step_scope (harr k' (by simp [exitTo, hk]))⟩
  | goto l' =>
    obtain ⟨rest₂, hf₂, _⟩ := pass l' a₁ w₁ hq
    obtain ⟨e₂, a₂, w₂, hq₂, harr₂⟩ := key _ l' a₁ w₁ rest₂ rfl hf₂ hq
    exact ⟨e₂, a₂, w₂, hq₂, .of_steps (.head step_scope (harr _ (hg hf₂))) harr₂⟩
  | ret => exact ⟨_, a₁, w₁, hq, .of_steps (.one step_scope) harr⟩
  | panic ch => exact ⟨_, a₁, w₁, hq, .of_steps (.one step_scope) harr⟩
  | outgrown => exact ⟨_, a₁, w₁, hq, .of_steps (.one step_scope) harr⟩
/-- an entry follows the one of its tenure ahead of it -/
def OkE (ns : List Int) (X : Int) (l : List Ev) : Prop := ∀ (i : Nat) (e : Ev), l[i]? = some e → e.kind = 2 ∧ 1 ≤ e.count ∧ e.count ≤ X ∧ (e.count = 1 ∨ ∃ (j : Nat) (p : Ev), i = j + 1 ∧ l[j]? = some p ∧ e.count = p.count + 1 ∧ nodeOf ns e.thread = nodeOf ns p.thread)
structure EnT (w w1 : World) (l : List Ev) (b7 c7 : Nat) : Prop where
  bel : Below w.heap.size w w1
  cell : ∀ W, Below w1.heap.size w1 W → ∀ (k : Nat) (e : Ev), l[k]? = some e → W.cell? ⟨b7, k * 4 + 1, none⟩ = some (.int .i64 e.thread) ∧ W.cell? ⟨b7, k * 4 + 3, none⟩ = some (.int .i64 e.count)
theorem EnT.of {w w1 : World} {l : List Ev} {b7 c7 : Nat} (o7 : w1.ownsRow w.heap.size 55 4 (.slice (some ⟨b7, 0, none⟩) l.length c7) l.length (l.flatMap encE)) (hb : Below w.heap.size w w1) (hl : l.length ≤ 1000) (h0 : 0 < l.length) : EnT w w1 l b7 c7 := by
  refine ⟨hb, fun W hW k e he => ?_⟩
  have hb1 : b7 < w1.heap.size := (o7.lt b7 rfl).2
  obtain ⟨_, _, e1, _, _, e2⟩ := RdL.of_own encE_len rfl (by omega) o7
  obtain ⟨bl, off, e3, hbl, hc⟩ := e2 h0
  injection e1 with e1
  rw [e3] at e1
  injection e1 with e1
  injection e1 with e4 e5
  subst e4
  have c1 := hc k e he 1 _ rfl
  have c3 := hc k e he 3 _ rfl
  rw [← e5, Nat.zero_add] at c1 c3
  exact ⟨(hW.cell (p := ⟨b7, k * 4 + 1, none⟩) hb1).trans c1, (hW.cell (p := ⟨b7, k * 4 + 3, none⟩) hb1).trans c3⟩
structure StT (w1 W : World) (X : Int) (k : Nat) (o : Value) (rs : List RunT) : Prop where
  bel : Below w1.heap.size w1 W
  own : W.ownsRow w1.heap.size 106 3 o rs.length (rs.flatMap encRn)
  len : rs.length ≤ k
  mx : ∀ r ∈ rs, r.many ≤ X
/-- the run that is being told -/
structure RnT (w1 W : World) (l : List Ev) (ns : List Int) (k : Nat) (o : Value) (g : Nat) (r : RunT) : Prop where
  blk : Blk W g 106 #[.int .i64 r.node, .int .i64 r.from_, .int .i64 r.many]
  lo : w1.heap.size ≤ g
  ne : o.ownBlock ≠ some g
  m0 : 0 ≤ r.many
  nx : ∃ e, l[k]? = some e ∧ e.count = r.many + 1 ∧ nodeOf ns e.thread = r.node
def JT (w1 : World) (l : List Ev) (ns : List Int) (X : Int) (vn v : Value) (b7 c7 : Nat) (t : Nat) (a : Act) (W : World) : Prop :=
  (t = 0 ∧ ∃ (k : Nat) (o : Value) (rs : List RunT) (u9 u4 u5 u10 u11 u12 u13 u14 u15 u16 u17 u18 u19 u20 u21 u22 u23 u24 u25 u26 u27 u28 u29 u30 u31 u32 u33 u34 u35 u36 u37 u38 u39 u40 u41 u42 u43 u44 u45 u46 u47 u48 u49 u50 u51 u52 u53 u54 u55 u56 u57 u58 u59 u60 u61 u62 u63 u64 u65 u66 u67 u68 u69 : Value), a = { tmps := #[vn, v, undef, undef, u4, u5, o, .slice (some ⟨b7, 0, none⟩) l.length c7, .int .i64 k, u9, u10, u11, u12, u13, u14, u15, u16, u17, u18, u19, u20, u21, u22, u23, u24, u25, u26, u27, u28, u29, u30, u31, u32, u33, u34, u35, u36, u37, u38, u39, u40, u41, u42, u43, u44, u45, u46, u47, u48, u49, u50, u51, u52, u53, u54, u55, u56, u57, u58, u59, u60, u61, u62, u63, u64, u65, u66, u67, u68, u69], defers := [] } ∧ k ≤ l.length ∧ StT w1 W X k o rs ∧ ∀ e, l[k]? = some e → e.count = 1) ∨
  (t = 1 ∧ ∃ (k : Nat) (o : Value) (rs : List RunT) (g : Nat) (r : RunT) (u4 u5 u10 u11 u12 u13 u14 u15 u16 u17 u18 u19 u20 u21 u22 u23 u24 u25 u26 u27 u28 u29 u30 u31 u32 u33 u34 u35 u36 u37 u38 u39 u40 u41 u42 u43 u44 u45 u46 u47 u48 u49 u50 u51 u52 u53 u54 u55 u56 u57 u58 u59 u60 u61 u62 u63 u64 u65 u66 u67 u68 u69 : Value), a = { tmps := #[vn, v, undef, undef, u4, u5, o, .slice (some ⟨b7, 0, none⟩) l.length c7, .int .i64 k, .pointer (some ⟨g, 0, none⟩), u10, u11, u12, u13, u14, u15, u16, u17, u18, u19, u20, u21, u22, u23, u24, u25, u26, u27, u28, u29, u30, u31, u32, u33, u34, u35, u36, u37, u38, u39, u40, u41, u42, u43, u44, u45, u46, u47, u48, u49, u50, u51, u52, u53, u54, u55, u56, u57, u58, u59, u60, u61, u62, u63, u64, u65, u66, u67, u68, u69], defers := [] } ∧ k < l.length ∧ StT w1 W X k o rs ∧ RnT w1 W l ns k o g r)
/-- what comes behind an entry that follows none of its tenure -/
theorem OkE.first {ns : List Int} {X : Int} {l : List Ev} (h : OkE ns X l) {k : Nat} {e e' : Ev} (he : l[k]? = some e) (he' : l[k + 1]? = some e') : e'.count = 1 ∨ (e'.count = e.count + 1 ∧ nodeOf ns e'.thread = nodeOf ns e.thread) := by
  rcases (h _ _ he').2.2.2 with h1 | ⟨j, p, h1, h2, h3, h4⟩
  · exact .inl h1
  · obtain rfl : j = k := by omega
    rw [he] at h2
    injection h2 with h2
    subst h2
    exact .inr ⟨h3, h4⟩
theorem JT.next {w1 W : World} {l : List Ev} {ns : List Int} {X : Int} {vn v : Value} {b7 c7 k : Nat} {o : Value} {rs : List RunT} {u9 u4 u5 u10 u11 u12 u13 u14 u15 u16 u17 u18 u19 u20 u21 u22 u23 u24 u25 u26 u27 u28 u29 u30 u31 u32 u33 u34 u35 u36 u37 u38 u39 u40 u41 u42 u43 u44 u45 u46 u47 u48 u49 u50 u51 u52 u53 u54 u55 u56 u57 u58 u59 u60 u61 u62 u63 u64 u65 u66 u67 u68 u69 : Value} (h1 : k ≤ l.length) (h2 : StT w1 W X k o rs) (h3 : ∀ e, l[k]? = some e → e.count = 1) : JT w1 l ns X vn v b7 c7 0 { tmps := #[vn, v, undef, undef, u4, u5, o, .slice (some ⟨b7, 0, none⟩) l.length c7, .int .i64 k, u9, u10, u11, u12, u13, u14, u15, u16, u17, u18, u19, u20, u21, u22, u23, u24, u25, u26, u27, u28, u29, u30, u31, u32, u33, u34, u35, u36, u37, u38, u39, u40, u41, u42, u43, u44, u45, u46, u47, u48, u49, u50, u51, u52, u53, u54, u55, u56, u57, u58, u59, u60, u61, u62, u63, u64, u65, u66, u67, u68, u69], defers := [] } W :=
  .inl ⟨rfl, k, o, rs, u9, u4, u5, u10, u11, u12, u13, u14, u15, u16, u17, u18, u19, u20, u21, u22, u23, u24, u25, u26, u27, u28, u29, u30, u31, u32, u33, u34, u35, u36, u37, u38, u39, u40, u41, u42, u43, u44, u45, u46, u47, u48, u49, u50, u51, u52, u53, u54, u55, u56, u57, u58, u59, u60, u61, u62, u63, u64, u65, u66, u67, u68, u69, rfl, h1, h2, h3⟩
theorem JT.more {w1 W : World} {l : List Ev} {ns : List Int} {X : Int} {vn v : Value} {b7 c7 k g : Nat} {o : Value} {rs : List RunT} {r : RunT} {u4 u5 u10 u11 u12 u13 u14 u15 u16 u17 u18 u19 u20 u21 u22 u23 u24 u25 u26 u27 u28 u29 u30 u31 u32 u33 u34 u35 u36 u37 u38 u39 u40 u41 u42 u43 u44 u45 u46 u47 u48 u49 u50 u51 u52 u53 u54 u55 u56 u57 u58 u59 u60 u61 u62 u63 u64 u65 u66 u67 u68 u69 : Value} (h1 : k < l.length) (h2 : StT w1 W X k o rs) (h3 : RnT w1 W l ns k o g r) : JT w1 l ns X vn v b7 c7 1 { tmps := #[vn, v, undef, undef, u4, u5, o, .slice (some ⟨b7, 0, none⟩) l.length c7, .int .i64 k, .pointer (some ⟨g, 0, none⟩), u10, u11, u12, u13, u14, u15, u16, u17, u18, u19, u20, u21, u22, u23, u24, u25, u26, u27, u28, u29, u30, u31, u32, u33, u34, u35, u36, u37, u38, u39, u40, u41, u42, u43, u44, u45, u46, u47, u48, u49, u50, u51, u52, u53, u54, u55, u56, u57, u58, u59, u60, u61, u62, u63, u64, u65, u66, u67, u68, u69], defers := [] } W :=
  .inr ⟨rfl, k, o, rs, g, r, u4, u5, u10, u11, u12, u13, u14, u15, u16, u17, u18, u19, u20, u21, u22, u23, u24, u25, u26, u27, u28, u29, u30, u31, u32, u33, u34, u35, u36, u37, u38, u39, u40, u41, u42, u43, u44, u45, u46, u47, u48, u49, u50, u51, u52, u53, u54, u55, u56, u57, u58, u59, u60, u61, u62, u63, u64, u65, u66, u67, u68, u69, rfl, h1, h2, h3⟩
set_option maxRecDepth 100000 in
set_option maxHeartbeats 16000000 in
theorem tenureOf (w : World) (vn v : Value) (ns : List Int) (l : List Ev) (X : Int) (hn : RdL w vn 1 encI ns) (h : RdL w v 4 encE l) (hk : OkE ns X l) (hl : l.length ≤ 1000) (hX : X ≤ 1000) (h0 : 0 < l.length) :
    Calls Tryz.prog 34 #[vn, v] w fun e w' => ∃ (v' : Value) (rs : List RunT), e = .returned (.tuple #[v', .bool true]) ∧ w'.ownsRow w.heap.size 106 3 v' rs.length (rs.flatMap encRn) ∧ rs.length ≤ l.length ∧ (∀ r ∈ rs, r.many ≤ X) ∧ Below w.heap.size w w' := by
  obtain ⟨i0, hi, hz0, hz1, hz2⟩ := info_parts Tryz.infoRunT
  have HI := Lib.hid (And.intro hi (And.intro hz0 (And.intro hz1 hz2)))
  have HE0 := Lib.hid (entriesT w v l h (fun e he => by obtain ⟨i, hi⟩ := List.getElem?_of_mem he; exact (hk i e hi).1) hl)
  have HN := Lib.hid hn
  have HK := Lib.hid hk
  have HF : Hid (∀ e : Ev, l[0]? = some e → e.count = 1) := Lib.hid (fun e he => by
    rcases (hk _ _ he).2.2.2 with h1 | ⟨j, p, h1, _⟩
    · exact h1
    · omega)
  clear hi hz0 hz1 hz2 h hn hk
  go_enter Tryz.func34, Tryz.ntmps34
  go_wp2
  refine wp_scope_many (fun t a W => ∃ (w1 : World) (b7 c7 : Nat), EnT w w1 l b7 c7 ∧ JT w1 l ns X vn v b7 c7 t a W) (fun a _ => l.length - (intOf (a.tmps.getD 8 undef)).toNat) ?first ?pass
  case first =>
    go_wp2_with fail
    refine HE0.out.mono ?_
    rintro en w1 ⟨v7, rfl, o7, b7'⟩
    obtain ⟨b7, c7, rfl, hb0, hb1⟩ := own_form1 o7 h0
    have HEB := Lib.hid (EnT.of o7 b7' hl h0)
    have HW1 := Lib.hid HEB.out.bel
    have HN1 := Lib.hid (HN.out.below b7' (Nat.le_refl _))
    have HEN := Lib.hid HEB.out.cell
    clear o7 b7' HE0 HN hb0 hb1
    go_wp2
    go_step3
    obtain ⟨o, ho⟩ : ∃ o : Value, o = .slice none 0 0 := ⟨_, rfl⟩
    obtain ⟨rs, hrs⟩ : ∃ rs : List RunT, rs = [] := ⟨_, rfl⟩
    obtain ⟨k, hk0⟩ : ∃ k : Nat, k = 0 := ⟨_, rfl⟩
    obtain ⟨wo, hwo⟩ : ∃ W : World, W = w1 := ⟨_, rfl⟩
    have HS := Lib.hid (show StT w1 wo X k o rs from by
      rw [hwo, ho, hrs]
      exact ⟨Below.refl _ _, World.ownsRow_nil _ _ _ _, Nat.zero_le _, fun r hr => by cases hr⟩)
    have HC1 : Hid (∀ e : Ev, l[k]? = some e → e.count = 1) := Lib.hid (by rw [hk0]; exact HF.out)
    have hkl0 : k ≤ l.length := by omega
    have hz : (Value.int .i64 0) = .int .i64 k := by rw [hk0]; rfl
    rw [← ho, ← hwo, hz]
    clear ho hrs hk0 hwo hz HF
    obtain ⟨Ao, co, rfl⟩ := own_form HS.out.own
    by_cases hkl : k < l.length
    · obtain ⟨e, he⟩ := getElem?_lt hkl
      have h1 := HC1.out e he
      obtain ⟨q1, q3⟩ := HEN.out _ HS.out.bel _ _ he
      rw [h1] at q3
      have HNo := Lib.hid (nodeT_any wo vn ns e.thread (HN1.out.below HS.out.bel (Nat.le_refl _)))
      have HE := Lib.hid (And.intro he h1)
      obtain ⟨nd, hnd⟩ : ∃ n, n = nodeOf ns e.thread := ⟨_, rfl⟩
      rw [← hnd] at HNo
      have HND := Lib.hid hnd
      clear he h1 hnd
      go_wp2_with fail
      refine HNo.out.mono ?_
      rintro en w7 ⟨rfl, rfl⟩
      clear q1 q3
      go_wp2
      go_step3
      obtain ⟨g, hg⟩ : ∃ g, g = wo.heap.size := ⟨_, rfl⟩
      obtain ⟨wa, hwa⟩ : ∃ W, W = wo.alloc (.cells #[.int .i64 nd, .int .i64 k, .int .i64 0] 106) := ⟨_, rfl⟩
      rw [← hwa, ← hg]
      obtain ⟨r, hr⟩ : ∃ r : RunT, r = ⟨nd, k, 0⟩ := ⟨_, rfl⟩
      have HS2 := Lib.hid (show StT w1 wa X k (.slice Ao rs.length co) rs from by
        rw [hwa]
        exact ⟨HS.out.bel.alloc HS.out.bel.size _, HS.out.own.alloc _, HS.out.len, HS.out.mx⟩)
      have HRN := Lib.hid (show RnT w1 wa l ns k (.slice Ao rs.length co) g r from by
        rw [hr]
        refine ⟨by rw [hwa, hg]; exact Blk.new _ _ _, by rw [hg]; exact HS.out.bel.size, fun e2 => ?_, by show (0 : Int) ≤ 0; decide, e, HE.out.1, by show e.count = 0 + 1; rw [HE.out.2]; rfl, HND.out.symm⟩
        have := (HS.out.own.lt g e2).2
        omega)
      have HG := Lib.hid hg
      clear hwa hr HC1 hg
      have hrm : r.many + 1 ≤ X ∧ 0 ≤ r.many := by
        obtain ⟨e, he, h1, _⟩ := HRN.out.nx
        exact ⟨by have := (HK.out _ _ he).2.2.1; omega, HRN.out.m0⟩
      have g0 := HRN.out.blk.cell 2
      have z0 := HRN.out.blk.free 2
      have g1 := HRN.out.blk.cell 0
      have g3 := HRN.out.blk.cell 1
      have hgl := HRN.out.blk.lt
      have y1 : IntKind.i64.wrap (r.many + 1) = r.many + 1 := IntWalk.i64_in _ (by omega)
      go_upto_region 10 with fail
      obtain ⟨wm, hwm⟩ : ∃ W, W = wa.setCell ⟨g, 2, none⟩ (.int .i64 (r.many + 1)) := ⟨_, rfl⟩
      rw [← hwm]
      have bm : Blk wm g 106 #[.int .i64 r.node, .int .i64 r.from_, .int .i64 (r.many + 1)] := by rw [hwm]; exact HRN.out.blk.set_ 2 _
      have tm : Turns [g] wa wm := by rw [hwm]; exact (Turns.refl _ _).setCell (.inl (by simp)) _
      have hs1o : w1.heap.size ≤ wa.heap.size := HS2.out.bel.size
      have hsm : wm.heap.size = wa.heap.size := by rw [hwm]; simp
      have hs1m : w1.heap.size ≤ wm.heap.size := by omega
      have SM : StT w1 wm X k (.slice Ao rs.length co) rs := ⟨HS2.out.bel.trans (tm.below (by simpa using HRN.out.lo) hs1o), Turns.own HS2.out.own tm (fun x hx hm => by simp at hm; subst hm; exact HRN.out.ne hx), HS2.out.len, HS2.out.mx⟩
      have HM := Lib.hid (And.intro SM (And.intro bm (And.intro hrm.1 (And.intro HRN.out.lo HRN.out.ne))))
      have m0 := bm.cell 0
      have m1 := bm.cell 1
      have m2 := bm.cell 2
      have hgm := bm.lt
      have HRN0 := HRN.out.nx
      clear g0 z0 g1 g3 bm tm SM hwm HS2 HRN hgl
      have hrs := HM.out.1.len
      by_cases hk1 : k + 1 < l.length
      · have z1 : decide ((k : Int) + 1 < (l.length : Int)) = true := decide_eq_true (by omega)
        have z2 : (k : Int) + 1 < (l.length : Int) := by omega
        obtain ⟨e', he'⟩ := getElem?_lt hk1
        obtain ⟨q1, q3⟩ := HEN.out _ HM.out.1.bel _ _ he'
        obtain ⟨e, he, hec, hen⟩ := HRN0
        have hcase := HK.out.first he he'
        have HE' := Lib.hid (And.intro he' (And.intro he (And.intro hec hen)))
        have hc1 := (HK.out _ _ he').2.1
        clear he he'
        by_cases hB : e'.count = 1
        · have t1 : (e'.count == r.many + 1 + 1) = false := by simp; omega
          have t2 : ¬ e'.count = r.many + 1 + 1 := by omega
          have y2 : IntKind.i64.wrap (r.many + 1 + 1) = r.many + 1 + 1 := IntWalk.i64_in _ (by omega)
          have HNX : Hid (∀ e2, l[k + 1]? = some e2 → e2.count = 1) := Lib.hid (fun e2 h2 => by rw [HE'.out.1] at h2; injection h2 with h2; subst h2; exact hB)
          clear hcase hB hen hec
          go_wp2_with fail
          go_quiet (fail)
          obtain ⟨wq, hwq⟩ : ∃ W : World, W = wm.drewN nq := ⟨_, rfl⟩
          rw [← hwq]
          have HQ := Lib.hid (show StT w1 wq X k (.slice Ao rs.length co) rs ∧ Blk wq g 106 #[.int .i64 r.node, .int .i64 r.from_, .int .i64 (r.many + 1)] ∧ r.many + 1 ≤ X from by
            rw [hwq]
            exact ⟨⟨below_drewN HM.out.1.bel _, HM.out.1.own, HM.out.1.len, HM.out.1.mx⟩, HM.out.2.1, HM.out.2.2.1⟩)
          have v0 := HQ.out.2.1.cell 0
          have v1 := HQ.out.2.1.cell 1
          have v2 := HQ.out.2.1.cell 2
          have hsq : w1.heap.size ≤ wq.heap.size := HQ.out.1.bel.size
          clear hwq m0 m1 m2
          go_wp2_with (at_builtin; refine wpList_append_lies _ rfl _ _ 56 rfl w1.heap.size 106 i0 (.agg #[.int .i64 0, .int .i64 0, .int .i64 0]) 3 24 Tryz.underlying56 HI.out.1 HI.out.2.1 HI.out.2.2.1 HI.out.2.2.2 rfl (by decide) _ _ _ rfl (HQ.out.1.own.alloc _) ⟨wq.heap.size, 0, none⟩ 1 1 [.int .i64 r.node, .int .i64 r.from_, .int .i64 (r.many + 1)] rfl rfl (cells_newT _ _ _) (by simp [Value.oneCell']) (by decide) ?c3 ?c4 ?c5 _ rfl ?_)
          case c3 => unfold maxLen; omega
          case c4 => omega
          case c5 => simp; omega
          intro g9 cap9 w9 h9 hg9 hl9 hlt9
          have H9 := Lib.hid (show StT w1 w9 X (k + 1) (.slice (some ⟨g9, 0, none⟩) (rs.length + 1) cap9) (rs ++ [⟨r.node, r.from_, r.many + 1⟩]) from by
            refine ⟨(HQ.out.1.bel.alloc hsq _).grown hg9 (by simp; omega) (fun j hj => (HQ.out.1.own.lt j hj).1), ?_, by simp; exact HQ.out.1.len, fun r' hr' => ?_⟩
            · rw [List.flatMap_append, List.length_append]
              simpa [encRn] using h9
            · rcases List.mem_append.1 hr' with hr' | hr'
              · exact HQ.out.1.mx r' hr'
              · simp at hr'
                subst hr'
                exact HQ.out.2.2)
          clear h9 hg9 hl9
          go_wp2
          go_step3
          exact ⟨w1, b7, c7, HEB.out, JT.next (k := k + 1) (show k + 1 ≤ l.length by omega) H9.out HNX.out⟩
        · obtain ⟨hC1, hC2⟩ : e'.count = e.count + 1 ∧ nodeOf ns e'.thread = nodeOf ns e.thread := by
            rcases hcase with h | h
            · exact absurd h hB
            · exact h
          have t1 : (e'.count == r.many + 1 + 1) = true := by simp; omega
          have t2 : e'.count = r.many + 1 + 1 := by omega
          have y2 : IntKind.i64.wrap (r.many + 1 + 1) = r.many + 1 + 1 := IntWalk.i64_in _ (by omega)
          have HNo := Lib.hid (show Calls Tryz.prog 69 #[vn, .int .i64 e'.thread] wm.drew fun en w' => en = .returned (.int .i64 r.node) ∧ wm.drew = w' from by
            have h1 := nodeT_any wm.drew vn ns e'.thread (show RdL wm.drew vn 1 encI ns from (HN1.out.below HM.out.1.bel.drew (Nat.le_refl _)))
            rw [hC2, hen] at h1
            exact h1)
          have HM2 := Lib.hid (show RnT w1 wm.drew l ns (k + 1) (.slice Ao rs.length co) g ⟨r.node, r.from_, r.many + 1⟩ from ⟨HM.out.2.1, HM.out.2.2.2.1, HM.out.2.2.2.2, by show 0 ≤ r.many + 1; omega, e', HE'.out.1, t2, by rw [hC2, hen]⟩)
          have HM3 := Lib.hid (show StT w1 wm.drew X (k + 1) (.slice Ao rs.length co) rs from ⟨HM.out.1.bel.drew, HM.out.1.own, by have := HM.out.1.len; omega, HM.out.1.mx⟩)
          rw [t2] at q3
          have z3 : ¬ (k : Int) + 1 < 0 := by omega
          have z4 : ((k : Int) + 1).toNat = k + 1 := by omega
          have z5 : 0 ≤ (k : Int) + 1 := by omega
          clear hcase hB hen hec hC1 hC2 t1 t2 hc1
          go_wp2_with fail
          go_region_held3 (fun W => W.cell? ⟨g, 2, none⟩ = some (.int .i64 (r.many + 1)) ∧ W.cell? ⟨g, 0, none⟩ = some (.int .i64 r.node) ∧ W.cell? ⟨b7, (k + 1) * 4 + 1, none⟩ = some (.int .i64 e'.thread) ∧ W.cell? ⟨b7, (k + 1) * 4 + 3, none⟩ = some (.int .i64 (r.many + 1 + 1)))
            (first | exact ⟨m2, m0, q1, q3⟩)
            (first | (go_at_call 69; go_loud (refine HNo.out.mono ?_); rintro en w7 ⟨rfl, rfl⟩))
          all_goals
            go_wp2
            go_step3
            exact ⟨w1, b7, c7, HEB.out, JT.more (k := k + 1) hk1 HM3.out HM2.out⟩
      · have z1 : decide ((k : Int) + 1 < (l.length : Int)) = false := decide_eq_false (by omega)
        have z2 : ¬ (k : Int) + 1 < (l.length : Int) := by omega
        have HNX : Hid (∀ e2, l[k + 1]? = some e2 → e2.count = 1) := Lib.hid (fun e2 h2 => absurd (List.getElem?_eq_some_iff.1 h2).1 hk1)
        go_wp2_with fail
        go_quiet (fail)
        obtain ⟨wq, hwq⟩ : ∃ W : World, W = wm.drewN nq := ⟨_, rfl⟩
        rw [← hwq]
        have HQ := Lib.hid (show StT w1 wq X k (.slice Ao rs.length co) rs ∧ Blk wq g 106 #[.int .i64 r.node, .int .i64 r.from_, .int .i64 (r.many + 1)] ∧ r.many + 1 ≤ X from by
          rw [hwq]
          exact ⟨⟨below_drewN HM.out.1.bel _, HM.out.1.own, HM.out.1.len, HM.out.1.mx⟩, HM.out.2.1, HM.out.2.2.1⟩)
        have v0 := HQ.out.2.1.cell 0
        have v1 := HQ.out.2.1.cell 1
        have v2 := HQ.out.2.1.cell 2
        have hsq : w1.heap.size ≤ wq.heap.size := HQ.out.1.bel.size
        clear hwq m0 m1 m2
        go_wp2_with (at_builtin; refine wpList_append_lies _ rfl _ _ 56 rfl w1.heap.size 106 i0 (.agg #[.int .i64 0, .int .i64 0, .int .i64 0]) 3 24 Tryz.underlying56 HI.out.1 HI.out.2.1 HI.out.2.2.1 HI.out.2.2.2 rfl (by decide) _ _ _ rfl (HQ.out.1.own.alloc _) ⟨wq.heap.size, 0, none⟩ 1 1 [.int .i64 r.node, .int .i64 r.from_, .int .i64 (r.many + 1)] rfl rfl (cells_newT _ _ _) (by simp [Value.oneCell']) (by decide) ?c3 ?c4 ?c5 _ rfl ?_)
        case c3 => unfold maxLen; omega
        case c4 => omega
        case c5 => simp; omega
        intro g9 cap9 w9 h9 hg9 hl9 hlt9
        have H9 := Lib.hid (show StT w1 w9 X (k + 1) (.slice (some ⟨g9, 0, none⟩) (rs.length + 1) cap9) (rs ++ [⟨r.node, r.from_, r.many + 1⟩]) from by
          refine ⟨(HQ.out.1.bel.alloc hsq _).grown hg9 (by simp; omega) (fun j hj => (HQ.out.1.own.lt j hj).1), ?_, by simp; exact HQ.out.1.len, fun r' hr' => ?_⟩
          · rw [List.flatMap_append, List.length_append]
            simpa [encRn] using h9
          · rcases List.mem_append.1 hr' with hr' | hr'
            · exact HQ.out.1.mx r' hr'
            · simp at hr'
              subst hr'
              exact HQ.out.2.2)
        clear h9 hg9 hl9
        go_wp2
        go_step3
        exact ⟨w1, b7, c7, HEB.out, JT.next (k := k + 1) (show k + 1 ≤ l.length by omega) H9.out HNX.out⟩
    · obtain rfl : k = l.length := by omega
      go_wp2
      rw [exitJ_ret]
      go_ret2
      exact ⟨_, rs, rfl, own_lower HS.out.own HW1.out.size, HS.out.len, HS.out.mx, HW1.out.trans (HS.out.bel.mono HW1.out.size)⟩
  case pass =>
    rintro t a W ⟨w1, b7, c7, hEB, hJ⟩
    have HEB := Lib.hid hEB
    have HW1 := Lib.hid HEB.out.bel
    have HN1 := Lib.hid (HN.out.below HW1.out (Nat.le_refl _))
    have HEN := Lib.hid HEB.out.cell
    clear hEB HE0 HN HF
    unfold JT at hJ
    rcases hJ with ⟨rfl, k, o, rs, u9, u4, u5, u10, u11, u12, u13, u14, u15, u16, u17, u18, u19, u20, u21, u22, u23, u24, u25, u26, u27, u28, u29, u30, u31, u32, u33, u34, u35, u36, u37, u38, u39, u40, u41, u42, u43, u44, u45, u46, u47, u48, u49, u50, u51, u52, u53, u54, u55, u56, u57, u58, u59, u60, u61, u62, u63, u64, u65, u66, u67, u68, u69, rfl, hkl0, hS, hC⟩ | ⟨rfl, k, o, rs, g, r, u4, u5, u10, u11, u12, u13, u14, u15, u16, u17, u18, u19, u20, u21, u22, u23, u24, u25, u26, u27, u28, u29, u30, u31, u32, u33, u34, u35, u36, u37, u38, u39, u40, u41, u42, u43, u44, u45, u46, u47, u48, u49, u50, u51, u52, u53, u54, u55, u56, u57, u58, u59, u60, u61, u62, u63, u64, u65, u66, u67, u68, u69, rfl, hkl, hS, hR⟩
    · refine ⟨_, rfl, ?_⟩
      obtain ⟨wo, rfl⟩ : ∃ wo : World, wo = W := ⟨_, rfl⟩
      have HS := Lib.hid hS
      have HC1 := Lib.hid hC
      clear hS hC
      obtain ⟨Ao, co, rfl⟩ := own_form HS.out.own
      by_cases hkl : k < l.length
      · obtain ⟨e, he⟩ := getElem?_lt hkl
        have h1 := HC1.out e he
        obtain ⟨q1, q3⟩ := HEN.out _ HS.out.bel _ _ he
        rw [h1] at q3
        have HNo := Lib.hid (nodeT_any wo vn ns e.thread (HN1.out.below HS.out.bel (Nat.le_refl _)))
        have HE := Lib.hid (And.intro he h1)
        obtain ⟨nd, hnd⟩ : ∃ n, n = nodeOf ns e.thread := ⟨_, rfl⟩
        rw [← hnd] at HNo
        have HND := Lib.hid hnd
        clear he h1 hnd
        go_wp2_with fail
        refine HNo.out.mono ?_
        rintro en w7 ⟨rfl, rfl⟩
        clear q1 q3
        go_wp2
        go_step3
        obtain ⟨g, hg⟩ : ∃ g, g = wo.heap.size := ⟨_, rfl⟩
        obtain ⟨wa, hwa⟩ : ∃ W, W = wo.alloc (.cells #[.int .i64 nd, .int .i64 k, .int .i64 0] 106) := ⟨_, rfl⟩
        rw [← hwa, ← hg]
        obtain ⟨r, hr⟩ : ∃ r : RunT, r = ⟨nd, k, 0⟩ := ⟨_, rfl⟩
        have HS2 := Lib.hid (show StT w1 wa X k (.slice Ao rs.length co) rs from by
          rw [hwa]
          exact ⟨HS.out.bel.alloc HS.out.bel.size _, HS.out.own.alloc _, HS.out.len, HS.out.mx⟩)
        have HRN := Lib.hid (show RnT w1 wa l ns k (.slice Ao rs.length co) g r from by
          rw [hr]
          refine ⟨by rw [hwa, hg]; exact Blk.new _ _ _, by rw [hg]; exact HS.out.bel.size, fun e2 => ?_, by show (0 : Int) ≤ 0; decide, e, HE.out.1, by show e.count = 0 + 1; rw [HE.out.2]; rfl, HND.out.symm⟩
          have := (HS.out.own.lt g e2).2
          omega)
        have HG := Lib.hid hg
        clear hwa hr HC1 hg
        have hrm : r.many + 1 ≤ X ∧ 0 ≤ r.many := by
          obtain ⟨e, he, h1, _⟩ := HRN.out.nx
          exact ⟨by have := (HK.out _ _ he).2.2.1; omega, HRN.out.m0⟩
        have g0 := HRN.out.blk.cell 2
        have z0 := HRN.out.blk.free 2
        have g1 := HRN.out.blk.cell 0
        have g3 := HRN.out.blk.cell 1
        have hgl := HRN.out.blk.lt
        have y1 : IntKind.i64.wrap (r.many + 1) = r.many + 1 := IntWalk.i64_in _ (by omega)
        go_upto_region 10 with fail
        obtain ⟨wm, hwm⟩ : ∃ W, W = wa.setCell ⟨g, 2, none⟩ (.int .i64 (r.many + 1)) := ⟨_, rfl⟩
        rw [← hwm]
        have bm : Blk wm g 106 #[.int .i64 r.node, .int .i64 r.from_, .int .i64 (r.many + 1)] := by rw [hwm]; exact HRN.out.blk.set_ 2 _
        have tm : Turns [g] wa wm := by rw [hwm]; exact (Turns.refl _ _).setCell (.inl (by simp)) _
        have hs1o : w1.heap.size ≤ wa.heap.size := HS2.out.bel.size
        have hsm : wm.heap.size = wa.heap.size := by rw [hwm]; simp
        have hs1m : w1.heap.size ≤ wm.heap.size := by omega
        have SM : StT w1 wm X k (.slice Ao rs.length co) rs := ⟨HS2.out.bel.trans (tm.below (by simpa using HRN.out.lo) hs1o), Turns.own HS2.out.own tm (fun x hx hm => by simp at hm; subst hm; exact HRN.out.ne hx), HS2.out.len, HS2.out.mx⟩
        have HM := Lib.hid (And.intro SM (And.intro bm (And.intro hrm.1 (And.intro HRN.out.lo HRN.out.ne))))
        have m0 := bm.cell 0
        have m1 := bm.cell 1
        have m2 := bm.cell 2
        have hgm := bm.lt
        have HRN0 := HRN.out.nx
        clear g0 z0 g1 g3 bm tm SM hwm HS2 HRN hgl
        have hrs := HM.out.1.len
        by_cases hk1 : k + 1 < l.length
        · have z1 : decide ((k : Int) + 1 < (l.length : Int)) = true := decide_eq_true (by omega)
          have z2 : (k : Int) + 1 < (l.length : Int) := by omega
          obtain ⟨e', he'⟩ := getElem?_lt hk1
          obtain ⟨q1, q3⟩ := HEN.out _ HM.out.1.bel _ _ he'
          obtain ⟨e, he, hec, hen⟩ := HRN0
          have hcase := HK.out.first he he'
          have HE' := Lib.hid (And.intro he' (And.intro he (And.intro hec hen)))
          have hc1 := (HK.out _ _ he').2.1
          clear he he'
          by_cases hB : e'.count = 1
          · have t1 : (e'.count == r.many + 1 + 1) = false := by simp; omega
            have t2 : ¬ e'.count = r.many + 1 + 1 := by omega
            have y2 : IntKind.i64.wrap (r.many + 1 + 1) = r.many + 1 + 1 := IntWalk.i64_in _ (by omega)
            have HNX : Hid (∀ e2, l[k + 1]? = some e2 → e2.count = 1) := Lib.hid (fun e2 h2 => by rw [HE'.out.1] at h2; injection h2 with h2; subst h2; exact hB)
            clear hcase hB hen hec
            go_wp2_with fail
            go_quiet (fail)
            obtain ⟨wq, hwq⟩ : ∃ W : World, W = wm.drewN nq := ⟨_, rfl⟩
            rw [← hwq]
            have HQ := Lib.hid (show StT w1 wq X k (.slice Ao rs.length co) rs ∧ Blk wq g 106 #[.int .i64 r.node, .int .i64 r.from_, .int .i64 (r.many + 1)] ∧ r.many + 1 ≤ X from by
              rw [hwq]
              exact ⟨⟨below_drewN HM.out.1.bel _, HM.out.1.own, HM.out.1.len, HM.out.1.mx⟩, HM.out.2.1, HM.out.2.2.1⟩)
            have v0 := HQ.out.2.1.cell 0
            have v1 := HQ.out.2.1.cell 1
            have v2 := HQ.out.2.1.cell 2
            have hsq : w1.heap.size ≤ wq.heap.size := HQ.out.1.bel.size
            clear hwq m0 m1 m2
            go_wp2_with (at_builtin; refine wpList_append_lies _ rfl _ _ 56 rfl w1.heap.size 106 i0 (.agg #[.int .i64 0, .int .i64 0, .int .i64 0]) 3 24 Tryz.underlying56 HI.out.1 HI.out.2.1 HI.out.2.2.1 HI.out.2.2.2 rfl (by decide) _ _ _ rfl (HQ.out.1.own.alloc _) ⟨wq.heap.size, 0, none⟩ 1 1 [.int .i64 r.node, .int .i64 r.from_, .int .i64 (r.many + 1)] rfl rfl (cells_newT _ _ _) (by simp [Value.oneCell']) (by decide) ?c3 ?c4 ?c5 _ rfl ?_)
            case c3 => unfold maxLen; omega
            case c4 => omega
            case c5 => simp; omega
            intro g9 cap9 w9 h9 hg9 hl9 hlt9
            have H9 := Lib.hid (show StT w1 w9 X (k + 1) (.slice (some ⟨g9, 0, none⟩) (rs.length + 1) cap9) (rs ++ [⟨r.node, r.from_, r.many + 1⟩]) from by
              refine ⟨(HQ.out.1.bel.alloc hsq _).grown hg9 (by simp; omega) (fun j hj => (HQ.out.1.own.lt j hj).1), ?_, by simp; exact HQ.out.1.len, fun r' hr' => ?_⟩
              · rw [List.flatMap_append, List.length_append]
                simpa [encRn] using h9
              · rcases List.mem_append.1 hr' with hr' | hr'
                · exact HQ.out.1.mx r' hr'
                · simp at hr'
                  subst hr'
                  exact HQ.out.2.2)
            clear h9 hg9 hl9
            go_wp2
            go_step3
            exact ⟨⟨w1, b7, c7, HEB.out, JT.next (k := k + 1) (show k + 1 ≤ l.length by omega) H9.out HNX.out⟩, by simp [intOf]; omega⟩
          · obtain ⟨hC1, hC2⟩ : e'.count = e.count + 1 ∧ nodeOf ns e'.thread = nodeOf ns e.thread := by
              rcases hcase with h | h
              · exact absurd h hB
              · exact h
            have t1 : (e'.count == r.many + 1 + 1) = true := by simp; omega
            have t2 : e'.count = r.many + 1 + 1 := by omega
            have y2 : IntKind.i64.wrap (r.many + 1 + 1) = r.many + 1 + 1 := IntWalk.i64_in _ (by omega)
            have HNo := Lib.hid (show Calls Tryz.prog 69 #[vn, .int .i64 e'.thread] wm.drew fun en w' => en = .returned (.int .i64 r.node) ∧ wm.drew = w' from by
              have h1 := nodeT_any wm.drew vn ns e'.thread (show RdL wm.drew vn 1 encI ns from (HN1.out.below HM.out.1.bel.drew (Nat.le_refl _)))
              rw [hC2, hen] at h1
              exact h1)
            have HM2 := Lib.hid (show RnT w1 wm.drew l ns (k + 1) (.slice Ao rs.length co) g ⟨r.node, r.from_, r.many + 1⟩ from ⟨HM.out.2.1, HM.out.2.2.2.1, HM.out.2.2.2.2, by show 0 ≤ r.many + 1; omega, e', HE'.out.1, t2, by rw [hC2, hen]⟩)
            have HM3 := Lib.hid (show StT w1 wm.drew X (k + 1) (.slice Ao rs.length co) rs from ⟨HM.out.1.bel.drew, HM.out.1.own, by have := HM.out.1.len; omega, HM.out.1.mx⟩)
            rw [t2] at q3
            have z3 : ¬ (k : Int) + 1 < 0 := by omega
            have z4 : ((k : Int) + 1).toNat = k + 1 := by omega
            have z5 : 0 ≤ (k : Int) + 1 := by omega
            clear hcase hB hen hec hC1 hC2 t1 t2 hc1
            go_wp2_with fail
            go_region_held3 (fun W => W.cell? ⟨g, 2, none⟩ = some (.int .i64 (r.many + 1)) ∧ W.cell? ⟨g, 0, none⟩ = some (.int .i64 r.node) ∧ W.cell? ⟨b7, (k + 1) * 4 + 1, none⟩ = some (.int .i64 e'.thread) ∧ W.cell? ⟨b7, (k + 1) * 4 + 3, none⟩ = some (.int .i64 (r.many + 1 + 1)))
              (first | exact ⟨m2, m0, q1, q3⟩)
              (first | (go_at_call 69; go_loud (refine HNo.out.mono ?_); rintro en w7 ⟨rfl, rfl⟩))
            all_goals
              go_wp2
              go_step3
              exact ⟨⟨w1, b7, c7, HEB.out, JT.more (k := k + 1) hk1 HM3.out HM2.out⟩, by simp [intOf]; omega⟩
        · have z1 : decide ((k : Int) + 1 < (l.length : Int)) = false := decide_eq_false (by omega)
          have z2 : ¬ (k : Int) + 1 < (l.length : Int) := by omega
          have HNX : Hid (∀ e2, l[k + 1]? = some e2 → e2.count = 1) := Lib.hid (fun e2 h2 => absurd (List.getElem?_eq_some_iff.1 h2).1 hk1)
          go_wp2_with fail
          go_quiet (fail)
          obtain ⟨wq, hwq⟩ : ∃ W : World, W = wm.drewN nq := ⟨_, rfl⟩
          rw [← hwq]
          have HQ := Lib.hid (show StT w1 wq X k (.slice Ao rs.length co) rs ∧ Blk wq g 106 #[.int .i64 r.node, .int .i64 r.from_, .int .i64 (r.many + 1)] ∧ r.many + 1 ≤ X from by
            rw [hwq]
            exact ⟨⟨below_drewN HM.out.1.bel _, HM.out.1.own, HM.out.1.len, HM.out.1.mx⟩, HM.out.2.1, HM.out.2.2.1⟩)
          have v0 := HQ.out.2.1.cell 0
          have v1 := HQ.out.2.1.cell 1
          have v2 := HQ.out.2.1.cell 2
          have hsq : w1.heap.size ≤ wq.heap.size := HQ.out.1.bel.size
          clear hwq m0 m1 m2
          go_wp2_with (at_builtin; refine wpList_append_lies _ rfl _ _ 56 rfl w1.heap.size 106 i0 (.agg #[.int .i64 0, .int .i64 0, .int .i64 0]) 3 24 Tryz.underlying56 HI.out.1 HI.out.2.1 HI.out.2.2.1 HI.out.2.2.2 rfl (by decide) _ _ _ rfl (HQ.out.1.own.alloc _) ⟨wq.heap.size, 0, none⟩ 1 1 [.int .i64 r.node, .int .i64 r.from_, .int .i64 (r.many + 1)] rfl rfl (cells_newT _ _ _) (by simp [Value.oneCell']) (by decide) ?c3 ?c4 ?c5 _ rfl ?_)
          case c3 => unfold maxLen; omega
          case c4 => omega
          case c5 => simp; omega
          intro g9 cap9 w9 h9 hg9 hl9 hlt9
          have H9 := Lib.hid (show StT w1 w9 X (k + 1) (.slice (some ⟨g9, 0, none⟩) (rs.length + 1) cap9) (rs ++ [⟨r.node, r.from_, r.many + 1⟩]) from by
            refine ⟨(HQ.out.1.bel.alloc hsq _).grown hg9 (by simp; omega) (fun j hj => (HQ.out.1.own.lt j hj).1), ?_, by simp; exact HQ.out.1.len, fun r' hr' => ?_⟩
            · rw [List.flatMap_append, List.length_append]
              simpa [encRn] using h9
            · rcases List.mem_append.1 hr' with hr' | hr'
              · exact HQ.out.1.mx r' hr'
              · simp at hr'
                subst hr'
                exact HQ.out.2.2)
          clear h9 hg9 hl9
          go_wp2
          go_step3
          exact ⟨⟨w1, b7, c7, HEB.out, JT.next (k := k + 1) (show k + 1 ≤ l.length by omega) H9.out HNX.out⟩, by simp [intOf]; omega⟩
      · obtain rfl : k = l.length := by omega
        go_wp2
        rw [exitJ_ret]
        go_ret2
        exact ⟨_, rs, rfl, own_lower HS.out.own HW1.out.size, HS.out.len, HS.out.mx, HW1.out.trans (HS.out.bel.mono HW1.out.size)⟩
    · refine ⟨_, rfl, ?_⟩
      obtain ⟨wo, rfl⟩ : ∃ wo : World, wo = W := ⟨_, rfl⟩
      obtain ⟨Ao, co, rfl⟩ := own_form hS.own
      have HS := Lib.hid hS
      have HRN := Lib.hid hR
      clear hS hR
      have hrm : r.many + 1 ≤ X ∧ 0 ≤ r.many := by
        obtain ⟨e, he, h1, _⟩ := HRN.out.nx
        exact ⟨by have := (HK.out _ _ he).2.2.1; omega, HRN.out.m0⟩
      have g0 := HRN.out.blk.cell 2
      have z0 := HRN.out.blk.free 2
      have g1 := HRN.out.blk.cell 0
      have g3 := HRN.out.blk.cell 1
      have hgl := HRN.out.blk.lt
      have y1 : IntKind.i64.wrap (r.many + 1) = r.many + 1 := IntWalk.i64_in _ (by omega)
      go_upto_region 10 with fail
      obtain ⟨wm, hwm⟩ : ∃ W, W = wo.setCell ⟨g, 2, none⟩ (.int .i64 (r.many + 1)) := ⟨_, rfl⟩
      rw [← hwm]
      have bm : Blk wm g 106 #[.int .i64 r.node, .int .i64 r.from_, .int .i64 (r.many + 1)] := by rw [hwm]; exact HRN.out.blk.set_ 2 _
      have tm : Turns [g] wo wm := by rw [hwm]; exact (Turns.refl _ _).setCell (.inl (by simp)) _
      have hs1o : w1.heap.size ≤ wo.heap.size := HS.out.bel.size
      have hsm : wm.heap.size = wo.heap.size := by rw [hwm]; simp
      have hs1m : w1.heap.size ≤ wm.heap.size := by omega
      have SM : StT w1 wm X k (.slice Ao rs.length co) rs := ⟨HS.out.bel.trans (tm.below (by simpa using HRN.out.lo) hs1o), Turns.own HS.out.own tm (fun x hx hm => by simp at hm; subst hm; exact HRN.out.ne hx), HS.out.len, HS.out.mx⟩
      have HM := Lib.hid (And.intro SM (And.intro bm (And.intro hrm.1 (And.intro HRN.out.lo HRN.out.ne))))
      have m0 := bm.cell 0
      have m1 := bm.cell 1
      have m2 := bm.cell 2
      have hgm := bm.lt
      have HRN0 := HRN.out.nx
      clear g0 z0 g1 g3 bm tm SM hwm HS HRN hgl
      have hrs := HM.out.1.len
      by_cases hk1 : k + 1 < l.length
      · have z1 : decide ((k : Int) + 1 < (l.length : Int)) = true := decide_eq_true (by omega)
        have z2 : (k : Int) + 1 < (l.length : Int) := by omega
        obtain ⟨e', he'⟩ := getElem?_lt hk1
        obtain ⟨q1, q3⟩ := HEN.out _ HM.out.1.bel _ _ he'
        obtain ⟨e, he, hec, hen⟩ := HRN0
        have hcase := HK.out.first he he'
        have HE' := Lib.hid (And.intro he' (And.intro he (And.intro hec hen)))
        have hc1 := (HK.out _ _ he').2.1
        clear he he'
        by_cases hB : e'.count = 1
        · have t1 : (e'.count == r.many + 1 + 1) = false := by simp; omega
          have t2 : ¬ e'.count = r.many + 1 + 1 := by omega
          have y2 : IntKind.i64.wrap (r.many + 1 + 1) = r.many + 1 + 1 := IntWalk.i64_in _ (by omega)
          have HNX : Hid (∀ e2, l[k + 1]? = some e2 → e2.count = 1) := Lib.hid (fun e2 h2 => by rw [HE'.out.1] at h2; injection h2 with h2; subst h2; exact hB)
          clear hcase hB hen hec
          go_wp2_with fail
          go_quiet (fail)
          obtain ⟨wq, hwq⟩ : ∃ W : World, W = wm.drewN nq := ⟨_, rfl⟩
          rw [← hwq]
          have HQ := Lib.hid (show StT w1 wq X k (.slice Ao rs.length co) rs ∧ Blk wq g 106 #[.int .i64 r.node, .int .i64 r.from_, .int .i64 (r.many + 1)] ∧ r.many + 1 ≤ X from by
            rw [hwq]
            exact ⟨⟨below_drewN HM.out.1.bel _, HM.out.1.own, HM.out.1.len, HM.out.1.mx⟩, HM.out.2.1, HM.out.2.2.1⟩)
          have v0 := HQ.out.2.1.cell 0
          have v1 := HQ.out.2.1.cell 1
          have v2 := HQ.out.2.1.cell 2
          have hsq : w1.heap.size ≤ wq.heap.size := HQ.out.1.bel.size
          clear hwq m0 m1 m2
          go_wp2_with (at_builtin; refine wpList_append_lies _ rfl _ _ 56 rfl w1.heap.size 106 i0 (.agg #[.int .i64 0, .int .i64 0, .int .i64 0]) 3 24 Tryz.underlying56 HI.out.1 HI.out.2.1 HI.out.2.2.1 HI.out.2.2.2 rfl (by decide) _ _ _ rfl (HQ.out.1.own.alloc _) ⟨wq.heap.size, 0, none⟩ 1 1 [.int .i64 r.node, .int .i64 r.from_, .int .i64 (r.many + 1)] rfl rfl (cells_newT _ _ _) (by simp [Value.oneCell']) (by decide) ?c3 ?c4 ?c5 _ rfl ?_)
          case c3 => unfold maxLen; omega
          case c4 => omega
          case c5 => simp; omega
          intro g9 cap9 w9 h9 hg9 hl9 hlt9
          have H9 := Lib.hid (show StT w1 w9 X (k + 1) (.slice (some ⟨g9, 0, none⟩) (rs.length + 1) cap9) (rs ++ [⟨r.node, r.from_, r.many + 1⟩]) from by
            refine ⟨(HQ.out.1.bel.alloc hsq _).grown hg9 (by simp; omega) (fun j hj => (HQ.out.1.own.lt j hj).1), ?_, by simp; exact HQ.out.1.len, fun r' hr' => ?_⟩
            · rw [List.flatMap_append, List.length_append]
              simpa [encRn] using h9
            · rcases List.mem_append.1 hr' with hr' | hr'
              · exact HQ.out.1.mx r' hr'
              · simp at hr'
                subst hr'
                exact HQ.out.2.2)
          clear h9 hg9 hl9
          go_wp2
          go_step3
          exact ⟨⟨w1, b7, c7, HEB.out, JT.next (k := k + 1) (show k + 1 ≤ l.length by omega) H9.out HNX.out⟩, by simp [intOf]; omega⟩
        · obtain ⟨hC1, hC2⟩ : e'.count = e.count + 1 ∧ nodeOf ns e'.thread = nodeOf ns e.thread := by
            rcases hcase with h | h
            · exact absurd h hB
            · exact h
          have t1 : (e'.count == r.many + 1 + 1) = true := by simp; omega
          have t2 : e'.count = r.many + 1 + 1 := by omega
          have y2 : IntKind.i64.wrap (r.many + 1 + 1) = r.many + 1 + 1 := IntWalk.i64_in _ (by omega)
          have HNo := Lib.hid (show Calls Tryz.prog 69 #[vn, .int .i64 e'.thread] wm.drew fun en w' => en = .returned (.int .i64 r.node) ∧ wm.drew = w' from by
            have h1 := nodeT_any wm.drew vn ns e'.thread (show RdL wm.drew vn 1 encI ns from (HN1.out.below HM.out.1.bel.drew (Nat.le_refl _)))
            rw [hC2, hen] at h1
            exact h1)
          have HM2 := Lib.hid (show RnT w1 wm.drew l ns (k + 1) (.slice Ao rs.length co) g ⟨r.node, r.from_, r.many + 1⟩ from ⟨HM.out.2.1, HM.out.2.2.2.1, HM.out.2.2.2.2, by show 0 ≤ r.many + 1; omega, e', HE'.out.1, t2, by rw [hC2, hen]⟩)
          have HM3 := Lib.hid (show StT w1 wm.drew X (k + 1) (.slice Ao rs.length co) rs from ⟨HM.out.1.bel.drew, HM.out.1.own, by have := HM.out.1.len; omega, HM.out.1.mx⟩)
          rw [t2] at q3
          have z3 : ¬ (k : Int) + 1 < 0 := by omega
          have z4 : ((k : Int) + 1).toNat = k + 1 := by omega
          have z5 : 0 ≤ (k : Int) + 1 := by omega
          clear hcase hB hen hec hC1 hC2 t1 t2 hc1
          go_wp2_with fail
          go_region_held3 (fun W => W.cell? ⟨g, 2, none⟩ = some (.int .i64 (r.many + 1)) ∧ W.cell? ⟨g, 0, none⟩ = some (.int .i64 r.node) ∧ W.cell? ⟨b7, (k + 1) * 4 + 1, none⟩ = some (.int .i64 e'.thread) ∧ W.cell? ⟨b7, (k + 1) * 4 + 3, none⟩ = some (.int .i64 (r.many + 1 + 1)))
            (first | exact ⟨m2, m0, q1, q3⟩)
            (first | (go_at_call 69; go_loud (refine HNo.out.mono ?_); rintro en w7 ⟨rfl, rfl⟩))
          all_goals
            go_wp2
            go_step3
            exact ⟨⟨w1, b7, c7, HEB.out, JT.more (k := k + 1) hk1 HM3.out HM2.out⟩, by simp [intOf]; omega⟩
      · have z1 : decide ((k : Int) + 1 < (l.length : Int)) = false := decide_eq_false (by omega)
        have z2 : ¬ (k : Int) + 1 < (l.length : Int) := by omega
        have HNX : Hid (∀ e2, l[k + 1]? = some e2 → e2.count = 1) := Lib.hid (fun e2 h2 => absurd (List.getElem?_eq_some_iff.1 h2).1 hk1)
        go_wp2_with fail
        go_quiet (fail)
        obtain ⟨wq, hwq⟩ : ∃ W : World, W = wm.drewN nq := ⟨_, rfl⟩
        rw [← hwq]
        have HQ := Lib.hid (show StT w1 wq X k (.slice Ao rs.length co) rs ∧ Blk wq g 106 #[.int .i64 r.node, .int .i64 r.from_, .int .i64 (r.many + 1)] ∧ r.many + 1 ≤ X from by
          rw [hwq]
          exact ⟨⟨below_drewN HM.out.1.bel _, HM.out.1.own, HM.out.1.len, HM.out.1.mx⟩, HM.out.2.1, HM.out.2.2.1⟩)
        have v0 := HQ.out.2.1.cell 0
        have v1 := HQ.out.2.1.cell 1
        have v2 := HQ.out.2.1.cell 2
        have hsq : w1.heap.size ≤ wq.heap.size := HQ.out.1.bel.size
        clear hwq m0 m1 m2
        go_wp2_with (at_builtin; refine wpList_append_lies _ rfl _ _ 56 rfl w1.heap.size 106 i0 (.agg #[.int .i64 0, .int .i64 0, .int .i64 0]) 3 24 Tryz.underlying56 HI.out.1 HI.out.2.1 HI.out.2.2.1 HI.out.2.2.2 rfl (by decide) _ _ _ rfl (HQ.out.1.own.alloc _) ⟨wq.heap.size, 0, none⟩ 1 1 [.int .i64 r.node, .int .i64 r.from_, .int .i64 (r.many + 1)] rfl rfl (cells_newT _ _ _) (by simp [Value.oneCell']) (by decide) ?c3 ?c4 ?c5 _ rfl ?_)
        case c3 => unfold maxLen; omega
        case c4 => omega
        case c5 => simp; omega
        intro g9 cap9 w9 h9 hg9 hl9 hlt9
        have H9 := Lib.hid (show StT w1 w9 X (k + 1) (.slice (some ⟨g9, 0, none⟩) (rs.length + 1) cap9) (rs ++ [⟨r.node, r.from_, r.many + 1⟩]) from by
          refine ⟨(HQ.out.1.bel.alloc hsq _).grown hg9 (by simp; omega) (fun j hj => (HQ.out.1.own.lt j hj).1), ?_, by simp; exact HQ.out.1.len, fun r' hr' => ?_⟩
          · rw [List.flatMap_append, List.length_append]
            simpa [encRn] using h9
          · rcases List.mem_append.1 hr' with hr' | hr'
            · exact HQ.out.1.mx r' hr'
            · simp at hr'
              subst hr'
              exact HQ.out.2.2)
        clear h9 hg9 hl9
        go_wp2
        go_step3
        exact ⟨⟨w1, b7, c7, HEB.out, JT.next (k := k + 1) (show k + 1 ≤ l.length by omega) H9.out HNX.out⟩, by simp [intOf]; omega⟩
end Go.Proofs.YtkdaiomjbkpedaaGreat
end
section
/- Layer 1: what Store does. -/
namespace Go.Proofs.YtkdaiomjbkpedaaGreat
open Go.RowKit

theorem astore (w : World) (b o : Nat) (x y : Int) (hc : w.cell? ⟨b, o, none⟩ = some (.int .i64 x)) (hz : w.frozen? ⟨b, o, none⟩ = false) :
    Calls Tryz.prog 127 #[.pointer (some ⟨b, o, none⟩), .int .i64 y] w fun e w' => e = .returned (.tuple #[]) ∧ w' = w.setCell ⟨b, o, none⟩ (.int .i64 y) := by
  have hl := run_call_store (P := Tryz.prog) Tryz.func150 (by kernel_rfl) (by kernel_rfl) (by kernel_rfl) (by kernel_rfl) (k := .i64) (y := y) hc hz
  go_enter Tryz.func127, Tryz.ntmps127
  go_wp2
  go_end0
  exact ⟨rfl, rfl⟩
theorem store_any {w : World} {a g : Nat} {s : Ar} (h : ArIs w a g s) (x v : Int) (ho : s.ops + 1 ≤ 1000000000000) :
    Calls Tryz.prog 90 #[.pointer (some ⟨a, 0, none⟩), .int .i64 x, .int .i64 v] w (OpDone w a g (storeA s x v) (.tuple #[])) := by
  have H := Lib.hid h
  cases hx : inR s.W x
  · have e : OpDone w a g (storeA s x v) (.tuple #[]) (.returned (.tuple #[])) w := ⟨rfl, by unfold storeA; rw [noteA_out s _ _ _ hx, wrA_out s _ _ hx]; exact h, Turns.refl _ _⟩
    have HX := Lib.hid hx
    clear h hx
    go_enter Tryz.func90, Tryz.ntmps90
    go_wp2_with fail
    refine (word_out H.out x HX.out).mono ?_
    rintro en w1 ⟨rfl, rfl⟩
    go_wp2
    go_end0
    exact e
  · have HX := Lib.hid hx
    have h12 := inR_true.1 hx
    have hil : x.toNat - 1 < s.W.length := by omega
    clear h hx
    go_enter Tryz.func90, Tryz.ntmps90
    go_wp2_with fail
    refine (word_in H.out x HX.out).mono ?_
    rintro en w1 ⟨rfl, rfl⟩
    go_wp2_with fail
    refine (note_any H.out 2 x true HX.out ho).mono ?_
    rintro en w1 ⟨rfl, h1, t1⟩
    have hc := h1.word (i := x.toNat - 1) (by rw [noteA_W]; exact hil)
    have hp := h1.put (x := x) (by rw [noteA_W]; exact HX.out) v
    have H1 := Lib.hid (And.intro hp t1)
    have HC := Lib.hid hc
    clear h1 t1 hp hc
    go_wp2_with fail
    refine (astore _ _ _ _ _ HC.out.1 HC.out.2).mono ?_
    rintro en w2 ⟨rfl, rfl⟩
    go_wp2
    go_end0
    exact ⟨rfl, H1.out.1.1, (turns_ag H1.out.2).trans H1.out.1.2⟩
end Go.Proofs.YtkdaiomjbkpedaaGreat
end
section
/- Layer 1: what Cas does. -/
namespace Go.Proofs.YtkdaiomjbkpedaaGreat
open Go.RowKit

theorem acas_hit (w : World) (b o : Nat) (x y : Int) (hc : w.cell? ⟨b, o, none⟩ = some (.int .i64 x)) (hz : w.frozen? ⟨b, o, none⟩ = false) :
    Calls Tryz.prog 129 #[.pointer (some ⟨b, o, none⟩), .int .i64 x, .int .i64 y] w fun e w' => e = .returned (.bool true) ∧ w' = w.setCell ⟨b, o, none⟩ (.int .i64 y) := by
  have hl := run_call_cas_hit (P := Tryz.prog) Tryz.func152 (by kernel_rfl) (by kernel_rfl) (by kernel_rfl) .i64 (by kernel_rfl) (y := y) hc hz
  go_enter Tryz.func129, Tryz.ntmps129
  go_wp2
  go_ret
  exact ⟨rfl, rfl⟩
theorem acas_miss (w : World) (b o : Nat) (x old y : Int) (hc : w.cell? ⟨b, o, none⟩ = some (.int .i64 x)) (hz : w.frozen? ⟨b, o, none⟩ = false) (hne : ¬ x = old) :
    Calls Tryz.prog 129 #[.pointer (some ⟨b, o, none⟩), .int .i64 old, .int .i64 y] w fun e w' => e = .returned (.bool false) ∧ w = w' := by
  have hl := run_call_cas_miss (P := Tryz.prog) Tryz.func152 (by kernel_rfl) (by kernel_rfl) (by kernel_rfl) .i64 (by kernel_rfl) (o := old) (y := y) hc hz hne
  clear hne
  go_enter Tryz.func129, Tryz.ntmps129
  go_wp2
  go_ret
  exact ⟨rfl, rfl⟩

theorem cas_any {w : World} {a g : Nat} {s : Ar} (h : ArIs w a g s) (x old v : Int) (ho : s.ops + 1 ≤ 1000000000000) :
    Calls Tryz.prog 95 #[.pointer (some ⟨a, 0, none⟩), .int .i64 x, .int .i64 old, .int .i64 v] w (OpDone w a g (casA s x old v) (.bool (casB s x old))) := by
  have H := Lib.hid h
  cases hx : inR s.W x
  · have e : OpDone w a g (casA s x old v) (.bool (casB s x old)) (.returned (.bool false)) w := ⟨by unfold casB; rw [hx]; rfl, by
      have hb : casB s x old = false := by unfold casB; rw [hx]; rfl
      unfold casA; rw [hb, noteA_out s 4 x false hx]; exact h, Turns.refl _ _⟩
    have HX := Lib.hid hx
    clear h hx
    go_enter Tryz.func95, Tryz.ntmps95
    go_wp2_with fail
    refine (word_out H.out x HX.out).mono ?_
    rintro en w1 ⟨rfl, rfl⟩
    go_wp2
    go_ret
    exact e
  · have HX := Lib.hid hx
    have h12 := inR_true.1 hx
    have hil : x.toNat - 1 < s.W.length := by omega
    have hc := h.word (i := x.toNat - 1) hil
    rw [← ldW_in hx] at hc
    by_cases heq : ldW s.W x = old
    · have hb : casB s x old = true := by unfold casB; rw [hx, heq]; simp
      have hp := h.put hx v
      have HP := Lib.hid (And.intro hp hb)
      rw [heq] at hc
      have HC := Lib.hid hc
      clear h hx hc hp heq hb
      go_enter Tryz.func95, Tryz.ntmps95
      go_wp2_with fail
      refine (word_in H.out x HX.out).mono ?_
      rintro en w1 ⟨rfl, rfl⟩
      go_wp2_with fail
      refine (acas_hit _ _ _ _ _ HC.out.1 HC.out.2).mono ?_
      rintro en w2 ⟨rfl, rfl⟩
      have h2 := HP.out.1.1
      have t2 := HP.out.1.2
      generalize (w.setCell ⟨g, x.toNat - 1, none⟩ (.int .i64 v)) = w2 at h2 t2 ⊢
      have H2 := Lib.hid (And.intro h2 t2)
      clear h2 t2
      go_wp2_with fail
      refine (note_any H2.out.1 4 x true (by unfold inR wrA; rw [stW_len]; exact HX.out) ho).mono ?_
      rintro en w3 ⟨rfl, h3, t3⟩
      have H3 := Lib.hid (And.intro h3 t3)
      clear h3 t3
      go_wp2
      go_ret
      refine ⟨by rw [HP.out.2]; rfl, ?_, H2.out.2.trans (turns_ag H3.out.2)⟩
      have e : casA s x old v = noteA (wrA s x v) 4 x true := by
        unfold casA; rw [HP.out.2, if_pos rfl]
        unfold noteA
        rw [if_pos HX.out, if_pos (by unfold inR wrA; rw [stW_len]; exact HX.out)]
        rfl
      rw [e]; exact H3.out.1
    · have hb : casB s x old = false := by unfold casB; rw [hx]; simpa using heq
      have HC := Lib.hid (And.intro hc (And.intro heq hb))
      clear h hx hc heq hb
      go_enter Tryz.func95, Tryz.ntmps95
      go_wp2_with fail
      refine (word_in H.out x HX.out).mono ?_
      rintro en w1 ⟨rfl, rfl⟩
      go_wp2_with fail
      refine (acas_miss _ _ _ _ _ _ HC.out.1.1 HC.out.1.2 HC.out.2.1).mono ?_
      rintro en w2 ⟨rfl, rfl⟩
      go_wp2_with fail
      refine (note_any H.out 4 x false HX.out ho).mono ?_
      rintro en w3 ⟨rfl, h3, t3⟩
      have H3 := Lib.hid (And.intro h3 t3)
      clear h3 t3
      go_wp2
      go_ret
      refine ⟨by rw [HC.out.2.2]; rfl, ?_, turns_ag H3.out.2⟩
      unfold casA
      rw [HC.out.2.2]
      exact H3.out.1
end Go.Proofs.YtkdaiomjbkpedaaGreat
end
