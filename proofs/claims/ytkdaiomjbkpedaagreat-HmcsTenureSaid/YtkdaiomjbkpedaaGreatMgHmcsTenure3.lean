/- Joined: Trn1, Hc2, Hc3, Trn2, SpI, Top1. -/
import Derived.StillTailTactics
import Derived.IntWalk
import Derived.Test.YtkdaiomjbkpedaaGreatRows
import Derived.RegionCalls
import Derived.Test.YtkdaiomjbkpedaaGreatMgHmcsTenure1
import Derived.Test.YtkdaiomjbkpedaaGreatMgHmcsTenure2
section
/- Layer 28: turns: Slots, has, Next, Is. -/
namespace Go.Proofs.YtkdaiomjbkpedaaGreat
open Go.RowKit

def tuC (a : Nat) (f : Int) (n : Nat) (D : List Int) : List Value := [.pointer (some ⟨a, 0, none⟩), .int .i64 f, .int .i64 n] ++ D.map (Value.int .i64)
structure TuIs (w : World) (u a : Nat) (f : Int) (n : Nat) (D : List Int) : Prop where
  blk : Blk w u 144 (tuC a f n D).toArray
  len : D.length = 32
  n32 : n ≤ 32
  f0 : 0 ≤ f ∧ f ≤ 5000
section
variable {w w' : World} {u a : Nat} {f : Int} {n : Nat} {D : List Int}
theorem TuIs.c0 (h : TuIs w u a f n D) : w.cell? ⟨u, 0, none⟩ = some (.pointer (some ⟨a, 0, none⟩)) := h.blk.cell 0
theorem TuIs.c1 (h : TuIs w u a f n D) : w.cell? ⟨u, 1, none⟩ = some (.int .i64 f) := h.blk.cell 1
theorem TuIs.c2 (h : TuIs w u a f n D) : w.cell? ⟨u, 2, none⟩ = some (.int .i64 n) := h.blk.cell 2
theorem TuIs.c3 (h : TuIs w u a f n D) {i : Nat} (hi : i < 32) : w.cell? ⟨u, 3 + i, none⟩ = some (.int .i64 (dv D i)) := by
  rw [h.blk.cell (3 + i)]
  have hl := h.len
  unfold tuC dv
  rw [List.getElem?_toArray, List.getElem?_append_right (by simp)]
  simp [List.getD_eq_getElem?_getD, List.getElem?_eq_getElem (show i < D.length by omega)]
theorem TuIs.turns (h : TuIs w u a f n D) {S : List Nat} (k : Turns S w w') (hu : u ∉ S) : TuIs w' u a f n D := ⟨k.blk h.blk hu, h.len, h.n32, h.f0⟩
theorem TuIs.below (h : TuIs w u a f n D) (k : Below w.heap.size w w') : TuIs w' u a f n D := h.turns (Turns.of_below (S := []) k) (by simp)
theorem slotsU (h : TuIs w u a f n D) : Calls Tryz.prog 160 #[.pointer (some ⟨u, 0, none⟩)] w fun e w' => e = .returned (.int .i64 n) ∧ w = w' := by
  have c2 := h.c2
  clear h
  go_enter Tryz.func160, Tryz.ntmps160
  go_wp2
  go_ret
  exact ⟨rfl, rfl⟩
theorem hasU (h : TuIs w u a f n D) (i : Int) (b : Bool) (hb : decide (0 ≤ i ∧ i < n) = b) : Calls Tryz.prog 145 #[.pointer (some ⟨u, 0, none⟩), .int .i64 i] w fun e w' => e = .returned (.bool b) ∧ w = w' := by
  have H := Lib.hid h
  have HB := Lib.hid hb
  clear h hb
  go_enter Tryz.func145, Tryz.ntmps145
  by_cases h0 : 0 ≤ i
  · go_wp2_with fail
    refine (slotsU H.out).mono ?_
    rintro en w' ⟨rfl, rfl⟩
    go_wp2
    go_ret
    exact ⟨ret_bool (by rw [← HB.out]; simp [h0]), rfl⟩
  · go_wp2
    go_ret
    exact ⟨ret_bool (by rw [← HB.out]; symm; exact decide_eq_false (by omega)), rfl⟩
set_option maxHeartbeats 400000 in
theorem nextU (h : TuIs w u a f n D) (i : Nat) (hi : i < n) (hd : 0 ≤ dv D i ∧ dv D i < 1000000000) : Calls Tryz.prog 118 #[.pointer (some ⟨u, 0, none⟩), .int .i64 i] w fun e w' => e = .returned (.int .i64 (tokH i (dv D i + 1))) ∧ Below w.heap.size w w' := by
  have h32 := h.n32
  have c3 := h.c3 (i := i) (by omega)
  have H := Lib.hid (hasU h i true (decide_eq_true (by omega)))
  obtain ⟨d, hd1⟩ : ∃ d, d = dv D i := ⟨_, rfl⟩
  rw [← hd1] at c3 hd ⊢
  obtain ⟨hd2, hd3⟩ := hd
  have hi2 : (i : Int) < 32 := by omega
  have hi3 : i < 32 := by omega
  clear h hd1
  go_enter Tryz.func118, Tryz.ntmps118
  go_wp2_with fail
  refine H.out.mono ?_
  rintro en w' ⟨rfl, rfl⟩
  go_wp2_with fail
  refine (pack_any w _ _ (by omega) (by omega) (by omega) (by omega)).mono ?_
  rintro en w1 ⟨rfl, b1⟩
  have B1 := Lib.hid b1
  clear b1 c3
  go_wp2
  go_ret
  exact ⟨rfl, B1.out⟩
end
structure IsK (w W : World) (u a g : Nat) (f : Int) (n : Nat) (D : List Int) (s s' : Ar) : Prop where
  ar : ArIs W a g s'
  tu : TuIs W u a f n D
  tn : Turns [a, g] w W
theorem IsK.below {w W W' : World} {u a g : Nat} {f : Int} {n : Nat} {D : List Int} {s s' : Ar} (h : IsK w W u a g f n D s s') (k : Below W.heap.size W W') : IsK w W' u a g f n D s s' :=
  ⟨h.ar.turns (S := []) (Turns.of_below k) (by simp) (by simp), h.tu.below k, h.tn.trans (Turns.of_below k)⟩
set_option maxRecDepth 100000 in
set_option maxHeartbeats 4000000 in
theorem isU {w : World} {u a g : Nat} {f : Int} {n : Nat} {D : List Int} {s : Ar} (h : ArIs w a g s) (k : TuIs w u a f n D) (hua : u ≠ a) (hug : u ≠ g) (x : Int) (h0 : 0 ≤ x) (h1 : x < 9223372036854775808) (ho : s.ops + 1 ≤ 1000000000000) :
    Calls Tryz.prog 119 #[.pointer (some ⟨u, 0, none⟩), .int .i64 x] w fun e w' => e = .returned (.bool (isB s.W f n x)) ∧ ArIs w' a g (isA s f n x) ∧ Turns [a, g] w w' := by
  have HI := Lib.hid (fun W => fidx_any W x h0 h1)
  have HM := Lib.hid (fun W => marked_qt W x h0 h1)
  have HNu := Lib.hid (fun W => fnum_any W x h0 h1)
  have K0 := Lib.hid (show IsK w w u a g f n D s s from ⟨h, k, Turns.refl _ _⟩)
  have HC := Lib.hid (fun W (h : TuIs W u a f n D) => And.intro h.c0 h.c1)
  have hun : u ∉ [a, g] := by simp [hua, hug]
  obtain ⟨f0, f1⟩ := k.f0
  have n32 := k.n32
  obtain ⟨j, hj⟩ : ∃ j, j = x % 65536 := ⟨_, rfl⟩
  have hj0 : 0 ≤ j := by omega
  have hj1 : j < 65536 := by omega
  obtain ⟨m, hm⟩ : ∃ m, m = x / 65536 := ⟨_, rfl⟩
  rw [← hj] at HI
  rw [← hm] at HNu
  by_cases hok : 1 ≤ j ∧ j ≤ n
  · have e1 : isOk n x = true := decide_eq_true ⟨h0, by omega, by omega⟩
    obtain ⟨v, hv⟩ : ∃ v, v = ldW s.W (f + (j - 1)) := ⟨_, rfl⟩
    have HE : Hid (isA s f n x = loadA s (f + (j - 1)) ∧ isB s.W f n x = decide (m ≤ v)) := Lib.hid ⟨by unfold isA; rw [e1, ← hj]; rfl, by unfold isB; rw [e1, ← hj, ← hm, ← hv]; rfl⟩
    have HL := Lib.hid (fun W (h : ArIs W a g s) => load_any h (f + (j - 1)) ho)
    rw [← hv] at HL
    have HH := Lib.hid (fun W (h : TuIs W u a f n D) => hasU h (j - 1) true (decide_eq_true (by omega)))
    obtain ⟨hok1, hok2⟩ := hok
    have HU := Lib.hid hun
    clear h k h0 h1 hj hm e1 hv hun hua hug
    go_enter Tryz.func119, Tryz.ntmps119
    go_wp2_with fail
    refine (HI.out w).mono ?_
    rintro en w1 ⟨rfl, b1⟩
    have K1 := Lib.hid ((K0.out.below b1).below ((Below.refl _ w1).drew))
    clear b1
    have x1 : IntKind.i64.wrap (f + (j - 1)) = f + (j - 1) := IntWalk.i64_in _ (by omega)
    go_wp2_with fail
    go_region_held3 (fun W => W.cell? ⟨u, 0, none⟩ = some (.pointer (some ⟨a, 0, none⟩)) ∧ W.cell? ⟨u, 1, none⟩ = some (.int .i64 f))
      (first | with_reducible exact HC.out _ K1.out.tu | with_reducible exact HC.out _ K2.out.tu | with_reducible exact HC.out _ K3.out.tu | with_reducible exact HC.out _ K4.out.tu)
      (first
        | (go_at_call 148; go_loud (refine (HM.out _).mono ?_); rintro en w2 ⟨rfl, q2⟩; have K2 := Lib.hid (K1.out.below (Qt.below q2 _)); clear q2)
        | (go_at_call 145; go_loud (refine (HH.out _ K2.out.tu).mono ?_); rintro en w2' ⟨rfl, rfl⟩)
        | (go_at_call 94; go_loud (refine (HL.out _ K2.out.ar).mono ?_); rintro en w3 ⟨rfl, a3, t3⟩; have K3 : Hid (IsK w w3 u a g f n D s (loadA s (f + (j - 1)))) := Lib.hid ⟨a3, K2.out.tu.turns t3 HU.out, K2.out.tn.trans t3⟩; clear a3 t3)
        | (go_at_call 149; go_loud (refine (HNu.out _).mono ?_); rintro en w4 ⟨rfl, b4⟩; have K4 := Lib.hid (K3.out.below b4); clear b4))
    all_goals
      go_wp2
      go_ret
      refine ⟨ret_bool ?_, ?_, K4.out.tn⟩
      · rw [HE.out.2]
      · rw [HE.out.1]; exact K4.out.ar
  · have e1 : isOk n x = false := decide_eq_false (by omega)
    have HE : Hid (isA s f n x = s ∧ isB s.W f n x = false) := Lib.hid ⟨by unfold isA; rw [e1]; rfl, by unfold isB; rw [e1]; rfl⟩
    have HH := Lib.hid (fun W (h : TuIs W u a f n D) => hasU h (j - 1) false (decide_eq_false (by omega)))
    clear h k h0 h1 hj hm e1 hun hua hug
    go_enter Tryz.func119, Tryz.ntmps119
    go_wp2_with fail
    refine (HI.out w).mono ?_
    rintro en w1 ⟨rfl, b1⟩
    have K1 := Lib.hid (K0.out.below b1)
    clear b1 hok
    go_wp2_with fail
    go_quiet ((first
        | (go_at_call 148; exact quiet_qt (HM.out _))
        | (go_at_call 145; exact quiet_left (HH.out _ (K1.out.below (Qt.below ⟨_, rfl⟩ _)).tu))))
    go_wp2
    go_ret
    refine ⟨ret_bool ?_, ?_, K1.out.tn.trans (Turns.of_qt ⟨_, rfl⟩)⟩
    · rw [HE.out.2]
    · rw [HE.out.1]; exact (K1.out.below (Qt.below ⟨_, rfl⟩ _)).ar
end Go.Proofs.YtkdaiomjbkpedaaGreat
end
section
/- Layer 29 (hclh): each step keeps what always holds. No program in sight. -/
namespace Go.Proofs.YtkdaiomjbkpedaaGreat
open Go

def upd (G : Nat → List Nat) (k : Nat) (l : List Nat) : Nat → List Nat := fun j => if j = k then l else G j
theorem upd_eq (G : Nat → List Nat) (k : Nat) (l : List Nat) : upd G k l k = l := by unfold upd; rw [if_pos rfl]
theorem upd_ne (G : Nat → List Nat) {k j : Nat} (l : List Nat) (h : j ≠ k) : upd G k l j = G j := by unfold upd; rw [if_neg h]
section
variable {nd n : Nat} {node : Nat → Nat} {W W' D D' : List Int} {S : List Sp} {G : Nat → List Nat} {i : Nat} {p' : Sp}
theorem lc_set {v u : Nat} (x : Int) (h : 1 + v < W.length) : lc (W.set (1 + v) x) u = if v = u then x else lc W u := by
  unfold lc
  by_cases e : v = u
  · subst e; rw [getD_set_eq _ _ _ h, if_pos rfl]
  · rw [getD_set_ne _ _ _ (by omega), if_neg e]
theorem tl_setL {v : Nat} (x : Int) : tl (W.set (1 + v) x) = tl W := getD_set_ne _ _ _ (by omega)
theorem tnw_setL {v t : Nat} (x : Int) (h : v < nd) : tnw nd (W.set (1 + v) x) t = tnw nd W t := getD_set_ne _ _ _ (by omega)
theorem HIv.nil1 (h : HIv nd n node W D S G) (hk : ∀ k, i ∉ G k) : G (i + 1) = [] := by
  rcases Classical.em (G (i + 1) = []) with e | e
  · exact e
  · exact absurd (mem_of_head (h.first i e)) (hk _)
/-- ask -/
theorem HIv.ask (h : HIv nd n node W D S G) (hi : i < n) (h0 : (sv S i).pc = 0) (hp : p'.pc = 1) : HIv nd n node W D (S.set i p') G := by
  have hk := h.at01 (.inl h0)
  have e := h.nil1 hk
  refine h.keep hi rfl (fun _ _ => rfl) rfl (fun k hm => hk k (List.mem_of_mem_tail hm)) (fun _ => .inr hp) (fun hne => absurd e hne) (fun _ _ _ _ => rfl) (fun hne => absurd e hne) (fun _ _ => .inr ⟨rfl, fun _ hne => absurd e hne⟩) (fun hh => absurd (mem_of_head hh) (hk 0))
/-- leave; and a look that tells that it is one's turn -/
theorem HIv.atFrontP (h : HIv nd n node W D S G) (hi : i < n) (hf : (G 0).head? = some i) (hp : p'.pc = 10 ∨ p'.pc = 11) : HIv nd n node W D (S.set i p') G := by
  have hm := mem_of_head hf
  have hno : G (i + 1) = [] := by
    rcases Classical.em (G (i + 1) = []) with e | e
    · exact e
    · have := h.dj _ _ _ hm (mem_of_head (h.first i e)); omega
  refine h.keep hi rfl (fun _ _ => rfl) rfl (fun k hm' => ?_) (fun hk => absurd hm (hk 0)) (fun hne => absurd hno hne) (fun _ _ _ _ => rfl) (fun hne => absurd hno hne) (fun _ _ => .inr ⟨rfl, fun _ hne => absurd hno hne⟩) (fun _ => .inr hp)
  have := h.dj _ _ _ hm (List.mem_of_mem_tail hm')
  subst this
  exact head_not_tail (h.nod 0) hf hm'
theorem HIv.masterNot (h : HIv nd n node W D S G) (hf : (G (i + 1)).head? = some i) : (∀ k, i ∉ (G k).tail) ∧ ¬ (G 0).head? = some i := by
  have hm := mem_of_head hf
  refine ⟨fun k hm' => ?_, fun hh => ?_⟩
  · have := h.dj _ _ _ hm (List.mem_of_mem_tail hm')
    subst this
    exact head_not_tail (h.nod _) hf hm'
  · have := h.dj _ _ _ hm (mem_of_head hh); omega
/-- step 2 -/
theorem HIv.s2 (h : HIv nd n node W D S G) (hi : i < n) (h2 : (sv S i).pc = 2) (hp : (p'.pc = 2 ∧ 0 < p'.b) ∨ p'.pc = 3) : HIv nd n node W D (S.set i p') G := by
  have hf := h.at234 hi (.inl h2)
  obtain ⟨q1, q2⟩ := h.masterNot hf
  refine h.keep hi rfl (fun _ _ => rfl) rfl q1 (fun hk => absurd (mem_of_head hf) (hk _)) (fun hne => ?_) (fun _ _ _ _ => rfl) (fun _ _ => by omega) (fun _ _ => .inr ⟨rfl, fun _ _ _ => by omega⟩) (fun hh => absurd hh q2)
  rcases h.mast i hne with ⟨_, h1⟩ | ⟨h1, _⟩
  · exact .inl ⟨hp, h1⟩
  · omega
/-- step 3 -/
theorem HIv.s3 (h : HIv nd n node W D S G) (hi : i < n) (h3 : (sv S i).pc = 3) (hp : p'.pc = 4) (hc : p'.c = lc W (node i)) : HIv nd n node (W.set (1 + node i) 0) D (S.set i p') G := by
  have hf := h.at234 hi (.inr (.inl h3))
  obtain ⟨q1, q2⟩ := h.masterNot hf
  have hv := h.nn i hi
  have hwl : 1 + node i < W.length := by rw [h.wl]; omega
  refine h.keep hi (by simp) (fun t _ => tnw_setL 0 hv) (tl_setL 0) q1 (fun hk => absurd (mem_of_head hf) (hk _)) (fun hne => ?_) (fun m hm hne h4 => ?_) (fun _ _ => by omega) (fun v _ => ?_) (fun hh => absurd hh q2)
  · rcases h.mast i hne with ⟨_, h1⟩ | ⟨h1, _⟩
    · exact .inr ⟨hp, hc.trans h1⟩
    · omega
  · rw [lc_set 0 hwl, if_neg]
    intro e
    exact hm (h.one m i hne (ne_of_head hf) e.symm h4 (by omega))
  · rw [lc_set 0 hwl]
    by_cases e : node i = v
    · exact .inl (by rw [if_pos e])
    · exact .inr ⟨by rw [if_neg e], fun e' => absurd e'.symm e⟩
/-- step 5, not its turn: nothing but a look -/
theorem HIv.same5 (h : HIv nd n node W D S G) (hi : i < n) (hp : p' = sv S i) : HIv nd n node W D (S.set i p') G := by
  have : S.set i p' = S := by
    subst hp
    apply List.ext_getElem?
    intro j
    rw [List.getElem?_set]
    by_cases e : i = j
    · subst e
      have : i < S.length := by rw [h.sl]; exact hi
      rw [if_pos rfl, if_pos this]
      unfold sv
      rw [List.getD_eq_getElem?_getD, List.getElem?_eq_getElem this]; rfl
    · rw [if_neg e]
  rw [this]; exact h
theorem HIv.s5 (h : HIv nd n node W D S G) (hi : i < n) (h5 : (sv S i).pc = 5) (hb : isB W (2 + (nd : Int)) n (sv S i).a = true) : (G 0).head? = some i := by
  rcases h.at5 hi h5 with ⟨k, p, _, h2, h3⟩ | h1
  · have hp := h.lt k p h2
    rw [h3, isB_tok h.wl h.n32 hp (by have := h.d0 p; omega), h.tw p hp] at hb
    have := of_decide_eq_true hb
    omega
  · exact h1.1
theorem HIv.s5n (h : HIv nd n node W D S G) (hf : (G 0).head? = some i) (h5 : (sv S i).pc = 5) : isB W (2 + (nd : Int)) n (sv S i).a = true := by
  rcases h.front i hf with ⟨_, t, d, h1, h2, h3, h4⟩ | h1 | h1
  · rw [h4, isB_tok h.wl h.n32 h1 (by omega), h.tw t h1]
    exact decide_eq_true h3
  · omega
  · omega
/-- step 1 into an empty row -/
theorem HIv.s1a (h : HIv nd n node W D S G) (hi : i < n) (h1 : (sv S i).pc = 1) (hl : lc W (node i) = 0) (hp : (p'.pc = 2 ∧ 0 < p'.b) ∨ p'.pc = 3) : HIv nd n node (W.set (1 + node i) (tokH i (dv D i + 1))) D (S.set i p') (upd G (i + 1) [i]) := by
  have hk := h.at01 (.inr h1)
  have hv := h.nn i hi
  have hwl : 1 + node i < W.length := by rw [h.wl]; omega
  have hii := sv_eq (S := S) (i := i) (p' := p') (by rw [h.sl]; exact hi)
  have hlt : lastT D [i] = tokH i (dv D i + 1) := lastT_some rfl
  have hnone : ∀ m, G (m + 1) ≠ [] → (sv S m).pc < 4 → node m ≠ node i := fun m hm h4 e => by
    rcases h.mast m hm with ⟨_, h2⟩ | ⟨h2, _⟩
    · rw [e, hl] at h2
      obtain ⟨t, ht, _⟩ := last_some hm
      rw [lastT_some ht] at h2
      exact tok_ne (by have := h.d0 t; omega) h2.symm
    · omega
  have hu : ∀ k, k ≠ i + 1 → upd G (i + 1) [i] k = G k := fun k e => upd_ne G _ e
  have hum : ∀ m, m ≠ i → upd G (i + 1) [i] (m + 1) = G (m + 1) := fun m e => hu _ (by omega)
  refine ⟨by simp [h.wl], by simp [h.sl], h.dl, h.n32, h.nn, fun t ht => (tnw_setL _ hv).trans (h.tw t ht), h.d0, fun k => ?_, fun k k' t hk1 hk2 => ?_, fun k t hm => ?_, fun k => ?_, fun t ht hk1 => ?_, fun m hm => ?_, fun m t hm => ?_, fun m hm => ?_, fun m m' hm hm' he h2 h3 => ?_, fun v hv' => ?_, fun t ht => ?_, ?_⟩
  · by_cases e : k = i + 1
    · rw [e, upd_eq]; simp
    · rw [hu k e]; exact h.nod k
  · by_cases e : k = i + 1 <;> by_cases e' : k' = i + 1
    · omega
    · rw [e, upd_eq] at hk1; rw [hu k' e'] at hk2
      rw [List.mem_singleton.1 hk1] at hk2
      exact absurd hk2 (hk k')
    · rw [e', upd_eq] at hk2; rw [hu k e] at hk1
      rw [List.mem_singleton.1 hk2] at hk1
      exact absurd hk1 (hk k)
    · rw [hu k e] at hk1; rw [hu k' e'] at hk2
      exact h.dj k k' t hk1 hk2
  · by_cases e : k = i + 1
    · rw [e, upd_eq] at hm
      rw [List.mem_singleton.1 hm]; exact hi
    · rw [hu k e] at hm; exact h.lt k t hm
  · by_cases e : k = i + 1
    · rw [e, upd_eq]; exact ⟨fun b hb => by simp at hb, trivial⟩
    · rw [hu k e]
      refine (h.lk k).mono fun a b _ hb hab => ?_
      have : b ≠ i := fun e => hk k (e ▸ List.mem_of_mem_tail hb)
      unfold HLk; rw [sv_ne this]; exact hab
  · have e : t ≠ i := fun e => hk1 (i + 1) (by rw [upd_eq, e]; simp)
    rw [sv_ne e]
    refine h.free t ht fun k => ?_
    by_cases e2 : k = i + 1
    · rw [e2, h.nil1 hk]; simp
    · have := hk1 k; rw [hu k e2] at this; exact this
  · by_cases e : m = i
    · rw [e, upd_eq]; rfl
    · rw [hum m e] at hm ⊢; exact h.first m hm
  · by_cases e : m = i
    · rw [e, upd_eq] at hm; rw [List.mem_singleton.1 hm, e]
    · rw [hum m e] at hm; exact h.same m t hm
  · by_cases e : m = i
    · subst e
      rw [upd_eq, hii, lc_set _ hwl, if_pos rfl, hlt]
      exact .inl ⟨hp, rfl⟩
    · rw [hum m e] at hm ⊢
      rw [sv_ne e]
      rcases h.mast m hm with ⟨h2, h3⟩ | h2
      · refine .inl ⟨h2, ?_⟩
        rw [lc_set _ hwl, if_neg (fun e' => hnone m hm (by omega) e'.symm)]; exact h3
      · exact .inr h2
  · by_cases e : m = i <;> by_cases e' : m' = i
    · omega
    · rw [hum m' e'] at hm'; rw [sv_ne e'] at h3
      subst e
      exact absurd he.symm (hnone m' hm' h3)
    · rw [hum m e] at hm; rw [sv_ne e] at h2
      subst e'
      exact absurd he (hnone m hm h2)
    · rw [hum m e] at hm; rw [hum m' e'] at hm'; rw [sv_ne e] at h2; rw [sv_ne e'] at h3
      exact h.one m m' hm hm' he h2 h3
  · by_cases e : node i = v
    · refine .inr ⟨i, by rw [upd_eq]; simp, ?_, e⟩
      rw [hii]; omega
    · rw [lc_set _ hwl, if_neg e]
      rcases h.loc v hv' with h2 | ⟨m, h2, h3, h4⟩
      · exact .inl h2
      · have e2 : m ≠ i := fun e2 => e (by rw [← e2]; exact h4)
        exact .inr ⟨m, by rw [hum m e2]; exact h2, by rw [sv_ne e2]; exact h3, h4⟩
  · rw [hu 0 (by omega)] at ht
    rw [sv_ne (fun e => hk 0 (by rw [← e]; exact mem_of_head ht))]
    exact h.front t ht
  · rw [hu 0 (by omega), tl_setL]; exact h.tail
/-- step 1 behind another one -/
theorem HIv.s1b (h : HIv nd n node W D S G) (hi : i < n) (h1 : (sv S i).pc = 1) (hl : lc W (node i) ≠ 0) (hp : p'.pc = 5) (ha : p'.a = lc W (node i)) :
    ∃ m t, G (m + 1) ≠ [] ∧ t ∈ G (m + 1) ∧ node t = node i ∧ p'.a = tokH t (dv D t + 1) ∧ HIv nd n node (W.set (1 + node i) (tokH i (dv D i + 1))) D (S.set i p') (upd G (m + 1) (G (m + 1) ++ [i])) := by
  have hk := h.at01 (.inr h1)
  have hv := h.nn i hi
  have hwl : 1 + node i < W.length := by rw [h.wl]; omega
  have hii := sv_eq (S := S) (i := i) (p' := p') (by rw [h.sl]; exact hi)
  rcases h.loc (node i) hv with h2 | ⟨m, hm, hm4, hmn⟩
  · exact absurd h2 hl
  have hml : lc W (node m) = lastT D (G (m + 1)) := by
    rcases h.mast m hm with ⟨_, h2⟩ | ⟨h2, _⟩
    · exact h2
    · omega
  obtain ⟨t, ht, htm⟩ := last_some hm
  have hpa : p'.a = tokH t (dv D t + 1) := by rw [ha, ← hmn, hml, lastT_some ht]
  have hmi : m ≠ i := fun e => by rw [e] at hm; exact hm (h.nil1 hk)
  refine ⟨m, t, hm, htm, (h.same m t htm).trans hmn, hpa, ?_⟩
  have hu : ∀ k, k ≠ m + 1 → upd G (m + 1) (G (m + 1) ++ [i]) k = G k := fun k e => upd_ne G _ e
  have hum : ∀ j, j ≠ m → upd G (m + 1) (G (m + 1) ++ [i]) (j + 1) = G (j + 1) := fun j e => hu _ (by omega)
  have hlast : lastT D (G (m + 1) ++ [i]) = tokH i (dv D i + 1) := by rw [lastT_append _ (by simp)]; exact lastT_some rfl
  have hne : ∀ j, upd G (m + 1) (G (m + 1) ++ [i]) (j + 1) ≠ [] → G (j + 1) ≠ [] := fun j hj => by
    by_cases e : j = m
    · rw [e]; exact hm
    · rw [hum j e] at hj; exact hj
  refine ⟨by simp [h.wl], by simp [h.sl], h.dl, h.n32, h.nn, fun t ht => (tnw_setL _ hv).trans (h.tw t ht), h.d0, fun k => ?_, fun k k' t hk1 hk2 => ?_, fun k t hm => ?_, fun k => ?_, fun t ht hk1 => ?_, fun j hj => ?_, fun j t hj => ?_, fun j hj => ?_, fun j j' hj hj' he h2 h3 => ?_, fun v hv' => ?_, fun t ht => ?_, ?_⟩
  · by_cases e : k = m + 1
    · rw [e, upd_eq]
      refine List.nodup_append.2 ⟨h.nod _, by simp, fun x hx y hy => ?_⟩
      rw [List.mem_singleton.1 hy]
      rintro rfl
      exact hk _ hx
    · rw [hu k e]; exact h.nod k
  · by_cases e : k = m + 1 <;> by_cases e' : k' = m + 1
    · omega
    · rw [e, upd_eq] at hk1; rw [hu k' e'] at hk2
      rcases List.mem_append.1 hk1 with hk1 | hk1
      · rw [e]; exact h.dj _ _ t hk1 hk2
      · rw [List.mem_singleton.1 hk1] at hk2; exact absurd hk2 (hk k')
    · rw [e', upd_eq] at hk2; rw [hu k e] at hk1
      rcases List.mem_append.1 hk2 with hk2 | hk2
      · rw [e']; exact h.dj _ _ t hk1 hk2
      · rw [List.mem_singleton.1 hk2] at hk1; exact absurd hk1 (hk k)
    · rw [hu k e] at hk1; rw [hu k' e'] at hk2
      exact h.dj k k' t hk1 hk2
  · by_cases e : k = m + 1
    · rw [e, upd_eq] at hm
      rcases List.mem_append.1 hm with hm | hm
      · exact h.lt _ t hm
      · rw [List.mem_singleton.1 hm]; exact hi
    · rw [hu k e] at hm; exact h.lt k t hm
  · have old : ∀ k, Lks (HLk D (S.set i p')) (G k) := fun k => (h.lk k).mono fun a b _ hb hab => by
      have : b ≠ i := fun e => hk k (e ▸ List.mem_of_mem_tail hb)
      unfold HLk; rw [sv_ne this]; exact hab
    by_cases e : k = m + 1
    · rw [e, upd_eq]
      refine (old _).append ⟨fun b hb => by simp at hb, trivial⟩ fun a b ha' hb' => ?_
      have e1 : b = i := by simpa using hb'.symm
      rw [ht] at ha'
      injection ha' with ha'
      subst e1 ha'
      unfold HLk
      rw [hii]
      exact ⟨hp, hpa⟩
    · rw [hu k e]; exact old k
  · have e : t ≠ i := fun e => hk1 (m + 1) (by rw [upd_eq, e]; simp)
    rw [sv_ne e]
    refine h.free t ht fun k => ?_
    by_cases e2 : k = m + 1
    · have := hk1 k
      rw [e2, upd_eq] at this
      rw [e2]
      exact fun hx => this (List.mem_append_left _ hx)
    · have := hk1 k; rw [hu k e2] at this; exact this
  · by_cases e : j = m
    · rw [e, upd_eq, List.head?_append, h.first m hm]; rfl
    · rw [hum j e] at hj ⊢; exact h.first j hj
  · by_cases e : j = m
    · rw [e, upd_eq] at hj
      rcases List.mem_append.1 hj with hj | hj
      · rw [e]; exact h.same m t hj
      · rw [List.mem_singleton.1 hj, e]; exact hmn.symm
    · rw [hum j e] at hj; exact h.same j t hj
  · have hji : j ≠ i := fun e => by have := hne j hj; rw [e] at this; exact this (h.nil1 hk)
    rw [sv_ne hji]
    by_cases e : j = m
    · subst e
      rcases h.mast j hm with ⟨h2, h3⟩ | ⟨h2, _⟩
      · exact .inl ⟨h2, by rw [upd_eq, hlast, lc_set _ hwl, if_pos hmn.symm]⟩
      · omega
    · rw [hum j e] at hj ⊢
      rcases h.mast j hj with ⟨h2, h3⟩ | h2
      · refine .inl ⟨h2, ?_⟩
        rw [lc_set _ hwl, if_neg]
        · exact h3
        · intro e'
          exact e (h.one j m hj hm (e'.symm.trans hmn.symm) (by omega) hm4)
      · exact .inr h2
  · have e1 : j ≠ i := fun e => by have := hne j hj; rw [e] at this; exact this (h.nil1 hk)
    have e2 : j' ≠ i := fun e => by have := hne j' hj'; rw [e] at this; exact this (h.nil1 hk)
    rw [sv_ne e1] at h2
    rw [sv_ne e2] at h3
    exact h.one j j' (hne j hj) (hne j' hj') he h2 h3
  · by_cases e : node i = v
    · exact .inr ⟨m, by rw [upd_eq]; simp, by rw [sv_ne hmi]; exact hm4, hmn.trans e⟩
    · rw [lc_set _ hwl, if_neg e]
      rcases h.loc v hv' with h2 | ⟨j, h2, h3, h4⟩
      · exact .inl h2
      · have e2 : j ≠ i := fun e2 => e (by rw [← e2]; exact h4)
        have e3 : j ≠ m := fun e3 => e (by rw [← h4, e3, hmn])
        exact .inr ⟨j, by rw [hum j e3]; exact h2, by rw [sv_ne e2]; exact h3, h4⟩
  · rw [hu 0 (by omega)] at ht
    rw [sv_ne (fun e => hk 0 (by rw [← e]; exact mem_of_head ht))]
    exact h.front t ht
  · rw [hu 0 (by omega), tl_setL]; exact h.tail
end
end Go.Proofs.YtkdaiomjbkpedaaGreat
end
section
/- Layer 29 (hclh): the splice, the leave, and all steps in one. No program in sight. -/
namespace Go.Proofs.YtkdaiomjbkpedaaGreat
open Go

section
variable {nd n : Nat} {node : Nat → Nat} {W W' D D' : List Int} {S : List Sp} {G : Nat → List Nat} {i : Nat} {p' : Sp}
/-- the rows behind a splice -/
def spl (G : Nat → List Nat) (i : Nat) : Nat → List Nat := fun j => if j = 0 then G 0 ++ G (i + 1) else if j = i + 1 then [] else G j
theorem spl0 (G : Nat → List Nat) (i : Nat) : spl G i 0 = G 0 ++ G (i + 1) := by unfold spl; rw [if_pos rfl]
theorem splI (G : Nat → List Nat) (i : Nat) : spl G i (i + 1) = [] := by unfold spl; rw [if_neg (by omega), if_pos rfl]
theorem splO (G : Nat → List Nat) {i j : Nat} (h : j ≠ i) : spl G i (j + 1) = G (j + 1) := by unfold spl; rw [if_neg (by omega), if_neg (by omega)]
theorem tl_set0 (x : Int) (h : 0 < W.length) : tl (W.set 0 x) = x := getD_set_eq _ _ _ h
theorem lc_set0 {v : Nat} (x : Int) : lc (W.set 0 x) v = lc W v := getD_set_ne _ _ _ (by omega)
theorem tnw_set0 {t : Nat} (x : Int) : tnw nd (W.set 0 x) t = tnw nd W t := getD_set_ne _ _ _ (by omega)
theorem mem_spl {k t : Nat} (hm : t ∈ spl G i k) : ∃ k', t ∈ G k' ∧ (k = k' ∨ (k = 0 ∧ k' = i + 1)) := by
  unfold spl at hm
  split at hm
  · rename_i e
    rcases List.mem_append.1 hm with hm | hm
    · exact ⟨0, hm, .inl e⟩
    · exact ⟨i + 1, hm, .inr ⟨e, rfl⟩⟩
  · split at hm
    · simp at hm
    · exact ⟨k, hm, .inl rfl⟩
theorem HIv.s4 (h : HIv nd n node W D S G) (hi : i < n) (h4 : (sv S i).pc = 4) (hp : (tl W = 0 ∧ p'.pc = 10) ∨ (tl W ≠ 0 ∧ p'.pc = 5)) (ha : p'.a = tl W) :
    (∃ r, G (i + 1) = i :: r) ∧ (p'.pc = 10 → G 0 = []) ∧ HIv nd n node (W.set 0 (sv S i).c) D (S.set i p') (spl G i) := by
  have hf := h.at234 hi (.inr (.inr h4))
  have hne := ne_of_head hf
  have hwl : 0 < W.length := by rw [h.wl]; omega
  have hii := sv_eq (S := S) (i := i) (p' := p') (by rw [h.sl]; exact hi)
  obtain ⟨q1, q2⟩ := h.masterNot hf
  have hc : (sv S i).c = lastT D (G (i + 1)) := by
    rcases h.mast i hne with ⟨h2, _⟩ | ⟨_, h2⟩
    · omega
    · exact h2
  have hempty : p'.pc = 10 → G 0 = [] := fun e => by
    rcases h.tail with ⟨h2, h3⟩ | ⟨h2, _⟩
    · rcases hp with ⟨h5, _⟩ | ⟨_, h6⟩
      · obtain ⟨t, ht, _⟩ := last_some h3
        rw [h5, lastT_some ht] at h2
        exact absurd h2.symm (tok_ne (by have := h.d0 t; omega))
      · omega
    · exact h2
  refine ⟨?_, hempty, ?_⟩
  · cases hr : G (i + 1) with
    | nil => exact absurd hr hne
    | cons a r => rw [hr] at hf; simp at hf; subst hf; exact ⟨r, rfl⟩
  have old : ∀ k, Lks (HLk D (S.set i p')) (G k) := fun k => (h.lk k).mono fun a b _ hb hab => by
    have : b ≠ i := fun e => q1 k (e ▸ hb)
    unfold HLk; rw [sv_ne this]; exact hab
  have hm0 : ∀ m, spl G i (m + 1) ≠ [] → m ≠ i ∧ G (m + 1) ≠ [] := fun m hm => by
    by_cases e : m = i
    · rw [e, splI] at hm; exact absurd rfl hm
    · rw [splO G e] at hm; exact ⟨e, hm⟩
  refine ⟨by simp [h.wl], by simp [h.sl], h.dl, h.n32, h.nn, fun t ht => (tnw_set0 _).trans (h.tw t ht), h.d0, fun k => ?_, fun k k' t hk1 hk2 => ?_, fun k t hm => ?_, fun k => ?_, fun t ht hk1 => ?_, fun m hm => ?_, fun m t hm => ?_, fun m hm => ?_, fun m m' hm hm' he h2 h3 => ?_, fun v hv' => ?_, fun t ht => ?_, ?_⟩
  · unfold spl
    split
    · refine List.nodup_append.2 ⟨h.nod _, h.nod _, fun x hx y hy e => ?_⟩
      subst e
      have := h.dj _ _ _ hx hy; omega
    · split
      · exact List.nodup_nil
      · exact h.nod k
  · obtain ⟨j, hj, ej⟩ := mem_spl hk1
    obtain ⟨j', hj', ej'⟩ := mem_spl hk2
    have e := h.dj _ _ _ hj hj'
    subst e
    rcases ej with rfl | ⟨rfl, rfl⟩ <;> rcases ej' with e' | ⟨rfl, e'⟩
    · exact e'.symm
    · subst e'; rw [splI] at hk1; simp at hk1
    · subst e'; rw [splI] at hk2; simp at hk2
    · rfl
  · obtain ⟨j, hj, _⟩ := mem_spl hm
    exact h.lt j t hj
  · unfold spl
    split
    · refine (old 0).append (old _) fun a b ha' hb' => ?_
      rw [hf] at hb'
      injection hb' with hb'
      subst hb'
      rcases h.tail with ⟨h2, h3⟩ | ⟨h2, _⟩
      · unfold HLk
        rw [hii, ha, h2, lastT_some ha']
        refine ⟨?_, rfl⟩
        rcases hp with ⟨h5, _⟩ | ⟨_, h6⟩
        · rw [h5, lastT_some ha'] at h2
          exact absurd h2.symm (tok_ne (by have := h.d0 a; omega))
        · exact h6
      · rw [h2] at ha'; simp at ha'
    · split
      · trivial
      · exact old k
  · have e : t ≠ i := fun e => hk1 0 (by rw [spl0, e]; exact List.mem_append_right _ (mem_of_head hf))
    rw [sv_ne e]
    refine h.free t ht fun k hk => ?_
    by_cases e0 : k = 0
    · subst e0; exact hk1 0 (by rw [spl0]; exact List.mem_append_left _ hk)
    · by_cases e1 : k = i + 1
      · subst e1; exact hk1 0 (by rw [spl0]; exact List.mem_append_right _ hk)
      · exact hk1 k (by unfold spl; rw [if_neg e0, if_neg e1]; exact hk)
  · obtain ⟨e, hm1⟩ := hm0 m hm
    rw [splO G e]; exact h.first m hm1
  · have e : m ≠ i := fun e => by rw [e, splI] at hm; simp at hm
    rw [splO G e] at hm; exact h.same m t hm
  · obtain ⟨e, hm1⟩ := hm0 m hm
    rw [splO G e, sv_ne e, lc_set0]; exact h.mast m hm1
  · obtain ⟨e, hm1⟩ := hm0 m hm
    obtain ⟨e', hm1'⟩ := hm0 m' hm'
    rw [sv_ne e] at h2
    rw [sv_ne e'] at h3
    exact h.one m m' hm1 hm1' he h2 h3
  · rw [lc_set0]
    rcases h.loc v hv' with h2 | ⟨m, h2, h3, h5⟩
    · exact .inl h2
    · have e : m ≠ i := fun e => by rw [e] at h3; omega
      exact .inr ⟨m, by rw [splO G e]; exact h2, by rw [sv_ne e]; exact h3, h5⟩
  · rw [spl0] at ht
    by_cases h0 : G 0 = []
    · rw [h0, List.nil_append, hf] at ht
      injection ht with ht
      subst ht
      rw [hii]
      rcases hp with ⟨_, h5⟩ | ⟨h5, h6⟩
      · exact .inr (.inl h5)
      · refine .inl ⟨h6, ?_⟩
        rw [ha]
        rcases h.tail with ⟨_, h3⟩ | ⟨_, h3 | h3⟩
        · exact absurd h0 h3
        · exact absurd h3 h5
        · exact h3
    · have ht' : (G 0).head? = some t := by
        cases hg : G 0 with
        | nil => exact absurd hg h0
        | cons a l => rw [hg] at ht; simpa using ht
      rw [sv_ne (fun e : t = i => q2 (by rw [← e]; exact ht'))]
      exact h.front t ht'
  · rw [spl0, tl_set0 _ hwl]
    exact .inl ⟨by rw [lastT_append _ hne]; exact hc, by simp [hne]⟩
theorem Dn.mono {w : Int} (h : Dn n D w) (hd : ∀ t, dv D t ≤ dv D' t) : Dn n D' w := by
  obtain ⟨t, d, h1, h2, h3, h4⟩ := h
  exact ⟨t, d, h1, h2, by have := hd t; omega, h4⟩
theorem dv_set (hl : i < D.length) (x : Int) (t : Nat) : dv (D.set i x) t = if i = t then x else dv D t := by
  unfold dv
  by_cases e : i = t
  · subst e; rw [getD_set_eq _ _ _ hl, if_pos rfl]
  · rw [getD_set_ne _ _ _ e, if_neg e]
theorem lastT_congr {l : List Nat} (h : ∀ t ∈ l, dv D' t = dv D t) : lastT D' l = lastT D l := by
  unfold lastT
  cases hl : l.getLast? with
  | none => rfl
  | some t => simp only; rw [h t (List.mem_of_getLast? hl)]
/-- step 11 -/
theorem HIv.s11 (h : HIv nd n node W D S G) (hi : i < n) (hf : (G 0).head? = some i) (hp : p'.pc = 0) (x : Int) (hx : x = dv D i + 1) :
    HIv nd n node (W.set (1 + nd + i) x) (D.set i (dv D i + 1)) (S.set i p') (upd G 0 (G 0).tail) := by
  have hm0 := mem_of_head hf
  have hwl : 1 + nd + i < W.length := by rw [h.wl]; omega
  have hdl : i < D.length := by have := h.dl; omega
  have hii := sv_eq (S := S) (i := i) (p' := p') (by rw [h.sl]; exact hi)
  have hiT : i ∉ (G 0).tail := head_not_tail (h.nod 0) hf
  have hiO : ∀ k, k ≠ 0 → i ∉ G k := fun k hk hm => hk (h.dj _ _ _ hm hm0)
  have hnt : ∀ k, i ∉ (G k).tail := fun k hm => by
    by_cases e : k = 0
    · subst e; exact hiT hm
    · exact hiO k e (List.mem_of_mem_tail hm)
  have hlcs : ∀ v, v < nd → lc (W.set (1 + nd + i) x) v = lc W v := fun v hv => getD_set_ne _ _ _ (by omega)
  have htls : tl (W.set (1 + nd + i) x) = tl W := getD_set_ne _ _ _ (by omega)
  have htws : ∀ t, tnw nd (W.set (1 + nd + i) x) t = if i = t then x else tnw nd W t := fun t => by
    unfold tnw
    by_cases e : i = t
    · subst e; rw [getD_set_eq _ _ _ hwl, if_pos rfl]
    · rw [getD_set_ne _ _ _ (by omega), if_neg e]
  have hdv := dv_set hdl (dv D i + 1)
  have hdn : ∀ t, t ≠ i → dv (D.set i (dv D i + 1)) t = dv D t := fun t e => by rw [hdv, if_neg (fun h => e h.symm)]
  have hle : ∀ t, dv D t ≤ dv (D.set i (dv D i + 1)) t := fun t => by rw [hdv]; split <;> (try subst_vars) <;> omega
  have hu : ∀ k, k ≠ 0 → upd G 0 (G 0).tail k = G k := fun k e => upd_ne G _ e
  have hsub : ∀ k t, t ∈ upd G 0 (G 0).tail k → t ∈ G k ∧ t ≠ i := fun k t hm => by
    by_cases e : k = 0
    · subst e
      rw [upd_eq] at hm
      exact ⟨List.mem_of_mem_tail hm, fun e => hiT (e ▸ hm)⟩
    · rw [hu k e] at hm
      exact ⟨hm, fun e' => hiO k e (e' ▸ hm)⟩
  have hchain : ∀ k, Lks (HLk D S) (upd G 0 (G 0).tail k) := fun k => by
    by_cases e : k = 0
    · subst e; rw [upd_eq]; exact (h.lk 0).tail
    · rw [hu k e]; exact h.lk k
  have hne1 : ∀ m, G (m + 1) ≠ [] → m ≠ i := fun m hm e => by
    subst e
    exact hiO _ (by omega) (mem_of_head (h.first m hm))
  have hlt : ∀ k, k ≠ 0 → lastT (D.set i (dv D i + 1)) (G k) = lastT D (G k) := fun k e => lastT_congr fun t ht => hdn t fun e' => hiO k e (e' ▸ ht)
  refine ⟨by simp [h.wl], by simp [h.sl], by simpa using h.dl, h.n32, h.nn, fun t ht => ?_, fun t => ?_, fun k => ?_, fun k k' t hk1 hk2 => ?_, fun k t hm => ?_, fun k => ?_, fun t ht hk1 => ?_, fun m hm => ?_, fun m t hm => ?_, fun m hm => ?_, fun m m' hm hm' he h2 h3 => ?_, fun v hv' => ?_, fun t ht => ?_, ?_⟩
  · rw [htws, hdv, hx]
    split
    · rfl
    · exact h.tw t ht
  · have := hle t; have := h.d0 t; omega
  · by_cases e : k = 0
    · subst e; rw [upd_eq]; exact (h.nod 0).sublist (List.tail_sublist _)
    · rw [hu k e]; exact h.nod k
  · exact h.dj k k' t (hsub k t hk1).1 (hsub k' t hk2).1
  · exact h.lt k t (hsub k t hm).1
  · refine (hchain k).mono fun a b ha hb hab => ?_
    have e1 := (hsub k a ha).2
    have e2 := (hsub k b (List.mem_of_mem_tail hb)).2
    unfold HLk
    rw [sv_ne e2, hdn a e1]; exact hab
  · by_cases e : t = i
    · subst e; rw [hii]; exact .inl hp
    · rw [sv_ne e]
      refine h.free t ht fun k hk => hk1 k ?_
      by_cases e2 : k = 0
      · subst e2
        rw [upd_eq]
        rcases mem_ht hk with h3 | h3
        · rw [hf] at h3; injection h3 with h3; exact absurd h3.symm e
        · exact h3
      · rw [hu k e2]; exact hk
  · rw [hu _ (by omega)] at hm ⊢; exact h.first m hm
  · rw [hu _ (by omega)] at hm; exact h.same m t hm
  · rw [hu _ (by omega)] at hm ⊢
    have e := hne1 m hm
    rw [sv_ne e, hlcs _ (h.nn m (h.lt _ _ (mem_of_head (h.first m hm)))), hlt _ (by omega)]
    exact h.mast m hm
  · rw [hu _ (by omega)] at hm hm'
    rw [sv_ne (hne1 m hm)] at h2
    rw [sv_ne (hne1 m' hm')] at h3
    exact h.one m m' hm hm' he h2 h3
  · rw [hlcs v hv']
    rcases h.loc v hv' with h2 | ⟨m, h2, h3, h4⟩
    · exact .inl h2
    · exact .inr ⟨m, by rw [hu _ (by omega)]; exact h2, by rw [sv_ne (hne1 m h2)]; exact h3, h4⟩
  · rw [upd_eq] at ht
    have htm := mem_of_head ht
    have e : t ≠ i := fun e => hiT (e ▸ htm)
    rw [sv_ne e]
    obtain ⟨h5, p, hpm, hpa⟩ := h.notail htm
    refine .inl ⟨h5, ?_⟩
    have hpi : p = i := by
      have hc := h.lk 0
      cases hg : G 0 with
      | nil => rw [hg] at ht; simp at ht
      | cons a l =>
        rw [hg] at hc hf ht
        simp at hf ht
        subst hf
        have := (hc.1 t ht).2
        rw [hpa] at this
        exact (tok_inj (by have := h.lt 0 p hpm; have := h.n32; omega) (by have := h.n32; omega) this).1
    subst hpi
    exact ⟨p, dv D p + 1, hi, by have := h.d0 p; omega, by rw [hdv, if_pos rfl]; exact Int.le_refl _, hpa⟩
  · rw [upd_eq, htls]
    rcases h.tail with ⟨h2, h3⟩ | ⟨h2, h3⟩
    · cases hg : G 0 with
      | nil => exact absurd hg h3
      | cons a l =>
        rw [hg] at hf h2
        simp at hf
        subst hf
        cases l with
        | nil => exact .inr ⟨rfl, .inr ⟨a, dv D a + 1, hi, by have := h.d0 a; omega, by rw [hdv, if_pos rfl]; exact Int.le_refl _, by rw [h2]; exact lastT_some rfl⟩⟩
        | cons b l =>
          refine .inl ⟨?_, by simp⟩
          have e1 : lastT D (a :: b :: l) = lastT D (b :: l) := by unfold lastT; rw [List.getLast?_cons_cons]
          rw [h2, e1]
          refine (lastT_congr fun t ht => hdn t fun e => ?_).symm
          rw [hg] at hiT
          exact hiT (e ▸ ht)
    · rw [h2] at hf; simp at hf
end
end Go.Proofs.YtkdaiomjbkpedaaGreat
end
section
/- Layer 28: turns: Done, New. -/
namespace Go.Proofs.YtkdaiomjbkpedaaGreat
open Go.RowKit

theorem TuIs.put {w : World} {u a : Nat} {f : Int} {n : Nat} {D : List Int} (h : TuIs w u a f n D) {i : Nat} (v : Int) : TuIs (w.setCell ⟨u, 3 + i, none⟩ (.int .i64 v)) u a f n (D.set i v) := by
  refine ⟨?_, by simp [h.len], h.n32, h.f0⟩
  have h1 := h.blk.set_ (3 + i) (.int .i64 v)
  have e : (tuC a f n D).toArray.setIfInBounds (3 + i) (.int .i64 v) = (tuC a f n (D.set i v)).toArray := by
    rw [List.setIfInBounds_toArray]
    congr 1
    unfold tuC
    rw [List.set_append_right _ _ (by simp)]
    simp [List.map_set]
  rw [e] at h1
  exact h1
theorem TuIs.drew {w : World} {u a : Nat} {f : Int} {n : Nat} {D : List Int} (h : TuIs w u a f n D) : TuIs w.drew u a f n D := h.below ((Below.refl _ _).drew)
theorem ArIs.drew {w : World} {a g : Nat} {s : Ar} (h : ArIs w a g s) : ArIs w.drew a g s := h.turns (S := []) ((Turns.refl _ _).drew) (by simp) (by simp)
set_option maxRecDepth 100000 in
set_option maxHeartbeats 1000000 in
theorem doneU {w : World} {u a g : Nat} {f : Int} {n : Nat} {D : List Int} {s : Ar} (h : ArIs w a g s) (k : TuIs w u a f n D) (hua : u ≠ a) (hug : u ≠ g) (i : Nat) (hi : i < n) (hd : 0 ≤ dv D i ∧ dv D i < 1000000000) (ho : s.ops + 1 ≤ 1000000000000) :
    Calls Tryz.prog 120 #[.pointer (some ⟨u, 0, none⟩), .int .i64 i] w fun e w' => e = .returned (.tuple #[]) ∧ ArIs w' a g (addA s (f + i) 1) ∧ TuIs w' u a f n (D.set i (dv D i + 1)) ∧ Turns [a, g, u] w w' := by
  have h32 := k.n32
  obtain ⟨f0, f1⟩ := k.f0
  have hi3 : i < 32 := by omega
  have hi2 : (i : Int) < 32 := by omega
  have c3 := k.c3 (i := i) hi3
  have z3 := k.blk.free (3 + i)
  have hul := k.blk.lt
  have HH := Lib.hid (hasU k i true (decide_eq_true (by omega)))
  obtain ⟨d, hd1⟩ : ∃ d, d = dv D i := ⟨_, rfl⟩
  rw [← hd1] at c3 hd ⊢
  obtain ⟨hd2, hd3⟩ := hd
  have ha1 : ArIs (w.setCell ⟨u, 3 + i, none⟩ (.int .i64 (d + 1))).drew a g s := (h.turns (S := [u]) ((Turns.refl _ _).setCell (.inl (by simp)) _) (by simpa using Ne.symm hua) (by simpa using Ne.symm hug)).drew
  have hk1 : TuIs (w.setCell ⟨u, 3 + i, none⟩ (.int .i64 (d + 1))).drew u a f n (D.set i (d + 1)) := (k.put (i := i) (d + 1)).drew
  have ht1 : Turns [a, g, u] w (w.setCell ⟨u, 3 + i, none⟩ (.int .i64 (d + 1))).drew := ((Turns.refl _ _).setCell (.inl (by simp)) _).drew
  have HK := Lib.hid (And.intro ha1 (And.intro hk1 ht1))
  have HU := Lib.hid (show u ∉ [a, g] by simp [hua, hug])
  clear h k hd1 ha1 hk1 ht1 hua hug
  go_enter Tryz.func120, Tryz.ntmps120
  go_wp2_with fail
  refine HH.out.mono ?_
  rintro en w' ⟨rfl, rfl⟩
  go_wp2_with fail
  refine wp_region_still_tail 10 (by kernel_rfl) (by kernel_rfl) ?_
  simp only [List.take_succ_cons, List.take_zero, List.drop_succ_cons, List.drop_zero]
  change wpStill _ _ (World.drew _) _ _ _
  repeat still_step
  refine wpStill_nil ?_
  change wpList _ _ _ _ _ (World.drew w)
  go_wp2_with fail
  generalize hW : (w.setCell ⟨u, 3 + i, none⟩ (.int .i64 (d + 1))).drew = W at HK ⊢
  have s0 := HK.out.2.1.c0
  have s1 := HK.out.2.1.c1
  have x1 : IntKind.i64.wrap (f + i) = f + i := IntWalk.i64_in _ (by omega)
  have HL0 := (fun V (h : ArIs V a g s) => add_any h (f + i) 1 ho)
  obtain ⟨r, hr⟩ : ∃ r : Int, r = (if inR s.W (f + i) = true then IntKind.i64.wrap (ldW s.W (f + i) + 1) else 0) := ⟨_, rfl⟩
  rw [← hr] at HL0
  have HL := Lib.hid HL0
  clear HL0 hr
  clear hW c3
  refine wp_region_still_tail 10 (by kernel_rfl) (by kernel_rfl) ?_
  simp only [List.take_succ_cons, List.take_zero, List.drop_succ_cons, List.drop_zero]
  change wpStill _ _ (World.drew _) _ _ _
  repeat still_step
  refine wpStill_nil ?_
  change wpList _ _ _ _ _ (World.drew W)
  go_wp2_with fail
  refine (HL.out _ HK.out.1.drew).mono ?_
  rintro en w2 ⟨rfl, h2, t2⟩
  have H2 := Lib.hid (And.intro h2 (And.intro (HK.out.2.1.drew.turns t2 HU.out) ((HK.out.2.2.drew).trans (t2.mono (by simp)))))
  clear h2 t2
  go_wp2
  go_end0
  exact ⟨rfl, H2.out⟩
def newTuOk (s : Ar) (n : Int) : Int := if n < 1 ∨ 32 < n then 1 else if (s.room : Int) - s.W.length < n then 3 else 0
/-- new turns, where there is room -/
theorem newU {w : World} {a g : Nat} {s : Ar} (h : ArIs w a g s) (n : Nat) (h1 : 1 ≤ n) (h2 : n ≤ 32) (hr : (n : Int) ≤ (s.room : Int) - s.W.length) :
    Calls Tryz.prog 73 #[.pointer (some ⟨a, 0, none⟩), .int .i64 n] w fun e w' => ∃ u, e = .returned (.tuple #[.pointer (some ⟨u, 0, none⟩), .int .i64 0]) ∧ w.heap.size ≤ u ∧ ArIs w' a g { s with W := s.W ++ List.replicate n 0 } ∧ TuIs w' u a (s.W.length + 1) n (List.replicate 32 0) ∧ Turns [a] w w' := by
  have hle := h.le
  have hro := h.room
  have HT : Hid (takeA s n = ({ s with W := s.W ++ List.replicate n 0 }, (s.W.length : Int) + 1, (0 : Int))) := Lib.hid (by unfold takeA; rw [if_neg (by omega), if_neg (by omega)]; simp)
  have H := Lib.hid h
  have e1 : ¬ (n : Int) < 1 := by omega
  have e2 : ¬ 32 < (n : Int) := by omega
  clear h
  go_enter Tryz.func73, Tryz.ntmps73
  go_wp2_with fail
  refine (take_any H.out n).mono ?_
  rintro en w1 ⟨rfl, k1, t1⟩
  rw [HT.out] at k1 ⊢
  have hsz := t1.size
  have H1 := Lib.hid (And.intro k1 (And.intro t1 hsz))
  have hsl : (s.W.length : Int) ≤ 4096 := by omega
  clear k1 t1 hsz
  go_wp2
  go_ret2
  refine ⟨w1.heap.size, rfl, H1.out.2.2, H1.out.1.turns (S := []) ((Turns.refl _ _).alloc _) (by simp) (by simp), ⟨?_, by simp, h2, by omega, by omega⟩, (H1.out.2.1).alloc _⟩
  have := Blk.new w1 144 (tuC a (s.W.length + 1) n (List.replicate 32 0)).toArray
  exact this
end Go.Proofs.YtkdaiomjbkpedaaGreat
end
section
/- Spots in a block of their own. -/
namespace Go.Proofs.YtkdaiomjbkpedaaGreat
open Go.RowKit

def encP4 (p : Sp) : List Value := [.int .i64 p.pc, .int .i64 p.a, .int .i64 p.b, .int .i64 p.c]
theorem encP4_len (p : Sp) : (encP4 p).length = 4 := rfl
/-- spots in a block of their own -/
def SpIs (w : World) (q : Nat) (S : List Sp) : Prop := Blk w q 35 (S.flatMap encP4).toArray
theorem SpIs.cell {w : World} {q : Nat} {S : List Sp} (h : SpIs w q S) {i : Nat} {p : Sp} (hp : S[i]? = some p) (j : Nat) (u : Value) (hu : (encP4 p)[j]? = some u) : w.cell? ⟨q, i * 4 + j, none⟩ = some u := by
  rw [Blk.cell h]
  simpa using getElem?_flatMap encP4 4 encP4_len S i p j u hp hu
theorem flatSet {α : Type} (enc : α → List Value) (sz : Nat) (hs : ∀ x, (enc x).length = sz) (l : List α) :
    ∀ k x x' j u, l[k]? = some x → j < sz → (enc x).set j u = enc x' → (l.flatMap enc).set (k * sz + j) u = (l.set k x').flatMap enc := by
  induction l with
  | nil => intro k x x' j u h; simp at h
  | cons a l ih =>
    intro k x x' j u h hj he
    cases k with
    | zero =>
      simp at h; subst h
      rw [List.set_cons_zero, List.flatMap_cons, List.flatMap_cons, List.set_append_left _ _ (by rw [hs]; omega)]
      simp [he]
    | succ k =>
      rw [List.set_cons_succ, List.flatMap_cons, List.flatMap_cons, List.set_append_right _ _ (by rw [hs, Nat.succ_mul]; omega), hs]
      have : (k + 1) * sz + j - sz = k * sz + j := by rw [Nat.succ_mul]; omega
      rw [this, ih k x x' j u (by simpa using h) hj he]
theorem SpIs.put {w : World} {q : Nat} {S : List Sp} (h : SpIs w q S) {i : Nat} {p p' : Sp} (hp : S[i]? = some p) {j : Nat} {u : Value} (hj : j < 4) (he : (encP4 p).set j u = encP4 p') :
    SpIs (w.setCell ⟨q, i * 4 + j, none⟩ u) q (S.set i p') := by
  have h1 := Blk.set_ h (i * 4 + j) u
  unfold SpIs
  rw [List.setIfInBounds_toArray, flatSet encP4 4 encP4_len S i p p' j u hp hj he] at h1
  exact h1
theorem SpIs.lt {w : World} {q : Nat} {S : List Sp} (h : SpIs w q S) : q < w.heap.size := Blk.lt h
theorem SpIs.free {w : World} {q : Nat} {S : List Sp} (h : SpIs w q S) (i : Nat) : w.frozen? ⟨q, i, none⟩ = false := Blk.free h i
theorem SpIs.turns {w w' : World} {q : Nat} {S : List Sp} {T : List Nat} (h : SpIs w q S) (k : Turns T w w') (hq : q ∉ T) : SpIs w' q S := k.blk h hq

def spotV (p : Sp) : Value := .agg #[.int .i64 p.pc, .int .i64 p.a, .int .i64 p.b, .int .i64 p.c]
theorem field_pc (a b c d : Int) (w : World) : (Instr.field 35 (.agg #[.int .i64 a, .int .i64 b, .int .i64 c, .int .i64 d]) 0).run Tryz.prog w = .ok (.int .i64 a) w := by kernel_rfl
end Go.Proofs.YtkdaiomjbkpedaaGreat
end
section
/- Layer 6: trees of places as lists of parents; plain data, no program in sight. -/
namespace Go.Proofs.YtkdaiomjbkpedaaGreat
open Go.RowKit

def okP (P : List Int) (v : Nat) : Bool := decide ((v = 0 → P.getD v 0 = -1) ∧ (0 < v → 0 ≤ P.getD v 0 ∧ P.getD v 0 < v))
def treeB (P : List Int) : Bool := (List.range P.length).all (okP P)
def leafB (P : List Int) (v : Int) : Bool := decide (0 ≤ v ∧ v < P.length ∧ v ∉ P)
def leavesTo (P : List Int) (k : Nat) : List Int := ((List.range k).map Int.ofNat).filter (leafB P)
def leavesL (P : List Int) : List Int := leavesTo P P.length
def dep (P : List Int) : Nat → Int → Nat
  | 0, _ => 0
  | f + 1, v => if 0 ≤ v ∧ v < P.length then dep P f (P.getD v.toNat 0) + 1 else 0
def depL (P : List Int) (v : Int) : Nat := dep P P.length v
def evenB (P : List Int) : Bool := (leavesL P).all fun v => decide (depL P v = depL P ((leavesL P).headD 0) ∧ depL P v ≤ 5)
def thrB (P T : List Int) : Bool := T.all (leafB P)
def manyB (P T : List Int) : Bool := decide (P.length < 1 ∨ 32 < P.length ∨ T.length < 1 ∨ 32 < T.length)
def chkT (P T : List Int) : Int := if manyB P T then 8 else if treeB P = false then 9 else if evenB P = false then 9 else if thrB P T = false then 4 else 0

theorem getD_of {P : List Int} {k : Nat} {p : Int} (h : P[k]? = some p) : P.getD k 0 = p := by rw [List.getD_eq_getElem?_getD, h]; rfl
theorem range_all_succ (f : Nat → Bool) (k : Nat) : (List.range (k + 1)).all f = ((List.range k).all f && f k) := by rw [List.range_succ, List.all_append]; simp
theorem tree_at {P : List Int} (h : treeB P = true) {k : Nat} {p : Int} (hk : P[k]? = some p) : (k = 0 → p = -1) ∧ (0 < k → 0 ≤ p ∧ p < k) := by
  have hlt := (List.getElem?_eq_some_iff.1 hk).1
  unfold treeB at h
  rw [List.all_eq_true] at h
  have := h k (List.mem_range.2 hlt)
  simp only [okP, decide_eq_true_eq, getD_of hk] at this
  exact this
theorem tree_lt {P : List Int} (h : treeB P = true) {k : Nat} {p : Int} (hk : P[k]? = some p) : -1 ≤ p ∧ p < k := by
  have := tree_at h hk
  rcases Nat.eq_zero_or_pos k with h0 | h0
  · have := this.1 h0; omega
  · have := this.2 h0; omega
/-- enough fuel is enough -/
theorem dep_fuel {P : List Int} (h : treeB P = true) : ∀ (f : Nat) (v : Int), v < f → ∀ g : Nat, v < g → dep P f v = dep P g v
  | 0, v, hv, g, hg => by
    cases g with
    | zero => rfl
    | succ g => unfold dep; rw [if_neg (by omega)]
  | f + 1, v, hv, g, hg => by
    cases g with
    | zero => unfold dep; rw [if_neg (by omega)]
    | succ g =>
      unfold dep
      split
      · rename_i hb
        obtain ⟨p, hp⟩ := getElem?_lt (show v.toNat < P.length by omega)
        have := tree_lt h hp
        rw [getD_of hp, dep_fuel h f p (by omega) g (by omega)]
      · rfl
theorem depL_step {P : List Int} (h : treeB P = true) {k : Nat} {p : Int} (hk : P[k]? = some p) : depL P k = if 0 ≤ p then depL P p + 1 else 1 := by
  have hlt := (List.getElem?_eq_some_iff.1 hk).1
  have hp := tree_lt h hk
  unfold depL
  rw [dep_fuel h P.length k (by omega) (k + 1) (by omega)]
  show (if 0 ≤ (k : Int) ∧ (k : Int) < P.length then dep P k (P.getD (k : Int).toNat 0) + 1 else 0) = _
  rw [if_pos (by omega), Int.toNat_natCast, getD_of hk]
  split
  · rw [dep_fuel h k p (by omega) P.length (by omega)]
  · have : dep P k p = 0 := by
      cases k with
      | zero => rfl
      | succ k => unfold dep; rw [if_neg (by omega)]
    omega
theorem dep_le (P : List Int) : ∀ (f : Nat) (v : Int), dep P f v ≤ f
  | 0, _ => Nat.le_refl _
  | f + 1, v => by
    unfold dep
    split
    · have := dep_le P f (P.getD v.toNat 0); omega
    · omega
theorem depL_le (P : List Int) (v : Int) : depL P v ≤ P.length := dep_le P _ _

theorem leavesTo_succ (P : List Int) (k : Nat) : leavesTo P (k + 1) = if leafB P k then leavesTo P k ++ [(k : Int)] else leavesTo P k := by
  unfold leavesTo
  rw [List.range_succ, List.map_append, List.filter_append]
  show _ ++ List.filter (leafB P) [(k : Int)] = _
  by_cases h : leafB P k = true
  · simp [h]
  · simp [h]
theorem leavesTo_len (P : List Int) : ∀ k, (leavesTo P k).length ≤ k := fun k => by
  unfold leavesTo
  have := List.length_filter_le (leafB P) ((List.range k).map Int.ofNat)
  simpa using this
theorem mem_leaves {P : List Int} {v : Int} : v ∈ leavesL P ↔ leafB P v = true := by
  unfold leavesL leavesTo
  rw [List.mem_filter]
  constructor
  · exact fun h => h.2
  · intro h
    refine ⟨?_, h⟩
    simp only [leafB, decide_eq_true_eq] at h
    rw [List.mem_map]
    exact ⟨v.toNat, List.mem_range.2 (by omega), by show ((v.toNat : Nat) : Int) = v; omega⟩
theorem mem_take {P : List Int} {k : Nat} {p : Int} (hk : P[k]? = some p) (x : Int) : x ∈ P.take (k + 1) ↔ x ∈ P.take k ∨ x = p := by
  rw [take_succ_of hk]; simp
/-- a list over a range, one place written -/
theorem range_set {α : Type} (n i : Nat) (f g : Nat → α) (u : α) (hi : g i = u) (ho : ∀ j, j ≠ i → g j = f j) : ((List.range n).map f).set i u = (List.range n).map g := by
  refine List.ext_getElem? fun j => ?_
  rw [List.getElem?_set]
  by_cases hji : i = j
  · subst hji
    rw [if_pos rfl]
    by_cases hin : i < n
    · simp [hin, hi]
    · simp [hin]
  · rw [if_neg hji]
    by_cases hjn : j < n
    · simp [hjn, ho j (fun h => hji h.symm)]
    · simp [hjn]
theorem range_get {α : Type} (n i : Nat) (f : Nat → α) (h : i < n) : ((List.range n).map f)[i]? = some (f i) := by simp [h]
end Go.Proofs.YtkdaiomjbkpedaaGreat
end
