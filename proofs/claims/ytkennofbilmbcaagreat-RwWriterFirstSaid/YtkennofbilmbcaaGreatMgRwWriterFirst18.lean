/- Joined: Ws3, Sm5w, Sm5n, Sm6n, Sm6w, Sm5r, Sm6r, Rs1, Sm7r, Sm7w, Sm8w. -/
import Derived.Test.YtkennofbilmbcaaGreatMgRwWriterFirst15
import Derived.Test.YtkennofbilmbcaaGreatMgRwWriterFirst16
import Derived.Test.YtkennofbilmbcaaGreatMgRwWriterFirst17
section
set_option linter.unusedVariables false
set_option linter.unusedSimpArgs false
/- Layer 38 (writers), plain: bounds and ops over acts; the new lock. No program in sight. (printed by gen_xs3.py out of XNs3) -/
namespace Go.Proofs.YtkennofbilmbcaaGreat
open Go Go.RowKit

section
variable {c : CoC} {n N L : Nat} {ml : Nat → Nat} {x : Nu} {st : Co} {B : Int} {o : Nat}
theorem wsDoes_ok (h : CoOk c n L B o x.st) (k : CoW0 c n N L) (hB : 40 ≤ B) (hB2 : B ≤ 1000000000000) {i : Nat} (hi : i < n) (p : Sp) (hf : p.a ≠ 1 → p.pc = 12 → 1 ≤ ldW x.st.s.W (nuFl N)) : CoOk c n L (B + 4) (o + 1) (wsDoes c N x i p).1 := by
  have hadd : ∀ z, CoOk c n L (B + 2) (o + 1) (onA x.st (addA x.st.s z 1)) := fun z => h.on (by omega) (h.bd.w.add1 (by omega) (by omega) z) (nearAdd _ _ _)
  have hld : ∀ z, CoOk c n L (B + 2) (o + 1) (onA x.st (loadA x.st.s z)) := fun z => h.on (by omega) ((h.bd.w.mono (by omega)).load _) (nearLoad _ _)
  have hst : ∀ z v, 0 ≤ v ∧ v ≤ 1 → CoOk c n L (B + 2) (o + 1) (onA x.st (storeA x.st.s z v)) := fun z v hv => h.on (by omega) ((h.bd.w.mono (by omega)).store z v (by omega)) (nearStore _ _ _)
  have hask : ∀ {st'}, CoOk c n L (B + 2) (o + 1) st' → CoOk c n L (B + 4) (o + 1) (coAsk c st' i) := fun {st'} q => by
    have r := q.ask k (by omega) hi
    exact ⟨r.bd.mono (by omega), r.v, r.len, by rw [coAsk_s]; exact q.ops⟩
  have hlv : ∀ {st'}, CoOk c n L (B + 2) (o + 1) st' → CoOk c n L (B + 4) (o + 1) (coLeave st' i) := fun {st'} q => by
    have r := q.leave k (by omega) hi
    exact ⟨r.bd.mono (by omega), r.v, r.len, by rw [coLeave_s]; exact q.ops⟩
  have hdr : CoOk c n L (B + 4) (o + 1) (onA x.st (drStep x.st.s x.d).1) := h.on (by omega) ((h.bd.w.mono (by omega)).same (drStep_W _ _)) (nearDr _ _)
  have hsub : 1 ≤ ldW x.st.s.W (nuFl N) → CoOk c n L (B + 2) (o + 1) (onA x.st (addA x.st.s (nuFl N) (-1))) := fun hq => h.on (by omega) ((h.bd.w.mono (by omega)).st (nuFl N) (ldW x.st.s.W (nuFl N) + -1) (by have := (h.bd.w.ld (by omega) (nuFl N)).2; omega) (by rw [addA_W, IntWalk.i64_in _ (by have := (h.bd.w.ld (by omega) (nuFl N)).2; omega)])) (nearAdd _ _ _)
  unfold wsDoes
  split
  · split
    · exact (hld _).mono (by omega)
    split
    · exact (hadd _).mono (by omega)
    split
    · exact (hld _).mono (by omega)
    split
    · exact (hadd _).mono (by omega)
    · exact (hadd _).mono (by omega)
  rename_i hne
  split
  · exact hask (hadd _)
  split
  · exact (h.step k hB (by omega) hi).mono (by omega)
  split
  · exact hdr
  split
  · rename_i e12; exact hlv (hsub (hf hne e12))
  · exact (h.step k hB (by omega) hi).mono (by omega)
theorem wsStep_ok (h : CoOk c n L B o x.st) (k : CoW0 c n N L) (hB : 40 ≤ B) (hB2 : B ≤ 1000000000000) {i : Nat} (hi : i < n) (hf : (sv x.U i).a ≠ 1 → (sv x.U i).pc = 12 → 1 ≤ ldW x.st.s.W (nuFl N)) : CoOk c n L (B + 4) (o + 1) (wsStep c N x i).st := by
  unfold wsStep
  split
  · exact h.up (by omega) (by omega)
  · exact wsDoes_ok h k hB hB2 hi _ hf
theorem wsAsk_st (x : Nu) (i : Nat) (r : Bool) : (wsAsk x i r).st = x.st := by unfold wsAsk; split <;> rfl
theorem WsI.f12 (h : WsI c n N ml x) {i : Nat} (hi : i < n) : (sv x.U i).a ≠ 1 → (sv x.U i).pc = 12 → 1 ≤ ldW x.st.s.W (nuFl N) := fun ha h12 => by
  have hk := h.k i hi
  have hz : (sv x.U i).a = 0 := by unfold linkW at hk; omega
  apply Classical.byContradiction
  intro hn
  have hc := h.fl
  exact h.none (by omega) hi ⟨hz, .inr (.inr (.inr h12))⟩
structure WsS (c : CoC) (n N L : Nat) (ml : Nat → Nat) (B : Int) (x : Nu) : Prop where
  i : WsI c n N ml x
  ok : CoOk c n L B x.st.s.ops x.st
def actWs (c : CoC) (N : Nat) (x : Nu) (kd i : Int) : Nu :=
  if okI x.U i then if kd = 0 then wsStep c N x i.toNat else if kd = 1 then wsAsk x i.toNat false else if kd = 2 then nuLeave x i.toNat else if kd = 3 then wsAsk x i.toNat true else x else x
theorem WsS.act (h : WsS c n N L ml B x) (k : NuK c n N L ml) (hB : 40 ≤ B) (hB2 : B ≤ 1000000000000) (kd i : Int) :
    WsS c n N L ml (B + 4) (actWs c N x kd i) ∧ (actWs c N x kd i).st.s.ops ≤ x.st.s.ops + 1 ∧ (kd ≠ 0 → (actWs c N x kd i).st.s.ops = x.st.s.ops) := by
  have same : WsS c n N L ml (B + 4) x := ⟨h.i, h.ok.mono (by omega)⟩
  unfold actWs
  split
  · rename_i hok
    have hi : i.toNat < n := by
      obtain ⟨h0, h1⟩ := hok
      have := h.i.lU
      omega
    split
    · rename_i k0
      have q := wsStep_ok h.ok k.w hB hB2 hi (h.i.f12 hi)
      refine ⟨⟨h.i.step k.y ⟨k.tg, by rw [h.ok.len]; exact k.len⟩ h.ok.bd hB hB2 hi, ⟨q.bd, q.v, q.len, Nat.le_refl _⟩⟩, q.ops, fun e => absurd k0 e⟩
    split
    · have e := wsAsk_st x i.toNat false
      refine ⟨⟨h.i.ask hi false, by rw [e]; exact same.ok⟩, by rw [e]; omega, fun _ => by rw [e]⟩
    split
    · have e := nuLeave_st x i.toNat
      refine ⟨⟨h.i.leave hi, by rw [e]; exact same.ok⟩, by rw [e]; omega, fun _ => by rw [e]⟩
    split
    · have e := wsAsk_st x i.toNat true
      refine ⟨⟨h.i.ask hi true, by rw [e]; exact same.ok⟩, by rw [e]; omega, fun _ => by rw [e]⟩
    · exact ⟨same, by omega, fun _ => rfl⟩
  · exact ⟨same, by omega, fun _ => rfl⟩
end
section
variable {kg kl par : Nat} {bud : Int} {P T : List Int} {s : Ar}
theorem ws_s (hc : chkT P T = 0) (hkg : 1 ≤ kg ∧ kg ≤ 5) (hkl : 1 ≤ kl ∧ kl ≤ 5) (hp : 1 ≤ par ∧ par ≤ 4) (hs : s.W = []) :
    WsS (coCN kg kl par bud P T (smA s (leavesL P).length)) T.length (leavesL P).length (coStN kg kl par P T (smA s (leavesL P).length)).s.W.length (mtQ P T) 40 ⟨coStN kg kl par P T (smA s (leavesL P).length), dr0, List.replicate T.length Sp.zero⟩ ∧ (coStN kg kl par P T (smA s (leavesL P).length)).s.ops ≤ s.ops + 40 := by
  have hz := smA_z hs (leavesL P).length
  have h40 : WdB 40 (smA s (leavesL P).length) := hz.1.mono (by omega)
  have hok := new_ok (kg := kg) (kl := kl) (par := par) (bud := bud) hc h40
  have hw : ∀ y : Int, y ≤ ((smA s (leavesL P).length).W.length : Int) → ldW (coStN kg kl par P T (smA s (leavesL P).length)).s.W y = 0 := fun y hy => by
    have e1 : ldW (coNewS kl par (mtQ P T) (newAr_ kg (smA s (leavesL P).length) (leavesL P).length par) (leavesL P).length).W y = _ := coNewS_pre (Nat.zero_le _) (by
      show y ≤ ((newAr_ kg (smA s (leavesL P).length) (leavesL P).length par).W.length : Int)
      rw [newAr_len]; omega)
    have e2 : ldW (newAr_ kg (smA s (leavesL P).length) (leavesL P).length par).W y = _ := newAr_pre _ _ _ _ hy
    have e3 := hz.1.ld (by omega) y
    show ldW (coNewS _ _ _ _ _).W y = 0
    rw [e1]
    show ldW (newAr_ _ _ _ _).W y = 0
    rw [e2]; omega
  have hsv : ∀ i, sv (List.replicate T.length Sp.zero) i = Sp.zero := svR _
  refine ⟨⟨⟨m_new hc hkg hkl hp h40, by simp, fun i hi => .inl ⟨?_, ?_⟩, fun a ha => ?_, ?_, fun i hi h0 h9 => ?_, fun i hi h0 h9 => ?_⟩, ⟨hok.bd, hok.v, hok.len, Nat.le_refl _⟩⟩, hok.ops⟩
  · show (sv (List.replicate T.length Sp.zero) i).pc = 0
    rw [hsv]; rfl
  · show (sv (List.replicate T.length Sp.zero) i).pc = 0
    rw [hsv]; rfl
  · have hc0 : cntIW (coCN kg kl par bud P T (smA s (leavesL P).length)) T.length (List.replicate T.length Sp.zero) a = 0 := by
      unfold cntIW cntN
      refine List.countP_eq_zero.2 (fun j _ => ?_)
      rw [hsv]
      simp [rdInW, Sp.zero]
    show ldW _ _ = ldW _ _ + ((cntIW _ _ (List.replicate T.length Sp.zero) a : Nat) : Int)
    rw [hc0]
    have g1 := gaA_lt ha
    have g2 := gaW_lt ha
    unfold nuFl at g1 g2
    have hl := hz.2
    rw [hw _ (by rw [hl]; omega), hw _ (by rw [hl]; omega)]; rfl
  · have hc0 : cntF T.length (List.replicate T.length Sp.zero) = 0 := by
      unfold cntF cntN
      refine List.countP_eq_zero.2 (fun j _ => ?_)
      rw [hsv]
      simp [wrC, Sp.zero]
    show ldW _ _ = ((cntF _ (List.replicate T.length Sp.zero) : Nat) : Int)
    rw [hc0]
    have hl := hz.2
    rw [hw _ (by rw [hl]; unfold nuFl; omega)]; rfl
  · have h9' : (sv (List.replicate T.length Sp.zero) i).pc = 9 := h9
    rw [hsv] at h9'
    simp [Sp.zero] at h9'
  · have h9' : (sv (List.replicate T.length Sp.zero) i).pc = 10 := h9
    rw [hsv] at h9'
    simp [Sp.zero] at h9'
end
end Go.Proofs.YtkennofbilmbcaaGreat
end
section
set_option linter.unusedVariables false
set_option linter.unusedSimpArgs false
/- Layer 38 (writers): Threads, has, Spot, over the cohort lock. (printed by gen_sm5.py) -/
namespace Go.Proofs.YtkennofbilmbcaaGreat
open Go.RowKit

section
variable {B BC : Nat → Prop} {w w' : World} {a g : Nat} {X : SmX} {c : CoC} {P T : List Int} {st st' : Co} {d d' : Dr} {U : List Sp} {s' : Ar}
theorem thr_w (h : SmIs 91 B BC w a g X c P T st d U) : Calls Tryz.prog 171 #[.pointer (some ⟨X.l, 0, none⟩)] w fun e w' => e = .returned (.int .i64 T.length) ∧ w = w' := by
  have c6 := h.cs.2.2.2.2.2.2
  clear h
  go_enter Tryz.func171, Tryz.ntmps171
  go_wp2
  go_ret
  exact ⟨rfl, rfl⟩
theorem has_w (h : SmIs 91 B BC w a g X c P T st d U) (i : Int) (r : Bool) (hr : r = decide (okI U i)) : Calls Tryz.prog 172 #[.pointer (some ⟨X.l, 0, none⟩), .int .i64 i] w fun e w' => e = .returned (.bool r) ∧ w = w' := by
  have HT := Lib.hid (thr_w h)
  have hsl := h.lU
  clear h
  by_cases h0 : 0 ≤ i
  · by_cases h1 : i < T.length
    · have e : r = true := by rw [hr]; exact decide_eq_true (show 0 ≤ i ∧ i < U.length from ⟨h0, by rw [hsl]; exact h1⟩)
      subst e
      clear hr
      go_enter Tryz.func172, Tryz.ntmps172
      go_wp2_with fail
      refine HT.out.mono ?_
      rintro en w1 ⟨rfl, rfl⟩
      go_wp2
      go_ret
      exact ⟨rfl, rfl⟩
    · have e : r = false := by rw [hr]; exact decide_eq_false (fun k => h1 (by have := k.2; rw [hsl] at this; exact this))
      subst e
      clear hr
      go_enter Tryz.func172, Tryz.ntmps172
      go_wp2_with fail
      refine HT.out.mono ?_
      rintro en w1 ⟨rfl, rfl⟩
      go_wp2
      go_ret
      exact ⟨congrArg (fun b => Ending.returned (Value.bool b)) (decide_eq_false (by omega)), rfl⟩
  · have e : r = false := by rw [hr]; exact decide_eq_false (fun k => h0 k.1)
    subst e
    clear hr
    go_enter Tryz.func172, Tryz.ntmps172
    go_wp2
    go_ret
    exact ⟨rfl, rfl⟩
set_option maxHeartbeats 400000 in
theorem spot_w (h : SmIs 91 B BC w a g X c P T st d U) (i : Int) :
    Calls Tryz.prog 169 #[.pointer (some ⟨X.l, 0, none⟩), .int .i64 i] w fun e w' => e = .returned (spotV (getS U i)) ∧ Below w.heap.size w w' := by
  have hb := h.below ((Below.refl _ _).alloc (Nat.le_refl _) (.cells #[.int .i64 0, .int .i64 0, .int .i64 0, .int .i64 0] 35))
  have H := Lib.hid hb
  have hs1 := h.lk.lt
  have hs2 := h.sp.lt
  have hsl := h.lU
  by_cases hok : okI U i
  · have HH := Lib.hid (has_w hb i true (decide_eq_true hok).symm)
    have hp := getS_in hok
    obtain ⟨p, hpp⟩ : ∃ p, p = getS U i := ⟨_, rfl⟩
    rw [← hpp] at hp ⊢
    have c6 := h.cs.2.2.2.2.2.2
    have a0 := h.sp.cell hp 0 _ rfl
    have a1 := h.sp.cell hp 1 _ rfl
    have a2 := h.sp.cell hp 2 _ rfl
    have a3 := h.sp.cell hp 3 _ rfl
    simp only [Nat.add_zero] at a0
    obtain ⟨h0, h1⟩ := id hok
    rw [hsl] at h1
    obtain ⟨n, rfl⟩ := Int.eq_ofNat_of_zero_le h0
    simp only [Int.toNat_natCast] at a0 a1 a2 a3
    have t2 : ¬ (n : Int) < 0 := by omega
    have t4 : n < T.length := by omega
    clear h hb hp hpp h0 h1 hok hsl
    go_enter Tryz.func169, Tryz.ntmps169
    go_wp2_with (go_at_call 172; refine HH.out.mono ?_; rintro e w' ⟨rfl, rfl⟩)
    exact bodyPost_ret (results_cell_row (by rfl) _ _ w.heap.size 35 _ (0, 0) _ (by rfl) (heap_alloc_new w _) Tryz.underlying35 rfl (by kernel_rfl)) rfl ⟨rfl, (Below.refl _ _).alloc (Nat.le_refl _) _⟩
  · have HH := Lib.hid (has_w hb i false (decide_eq_false hok).symm)
    rw [getS_out hok]
    clear h hb hok hsl
    go_enter Tryz.func169, Tryz.ntmps169
    go_wp2_with (go_at_call 172; refine HH.out.mono ?_; rintro e w' ⟨rfl, rfl⟩)
    exact bodyPost_ret (results_cell_row (by rfl) _ _ w.heap.size 35 _ (0, 0) _ (by rfl) (heap_alloc_new w _) Tryz.underlying35 rfl (by kernel_rfl)) rfl ⟨rfl, (Below.refl _ _).alloc (Nat.le_refl _) _⟩
end
end Go.Proofs.YtkennofbilmbcaaGreat
end
section
set_option linter.unusedVariables false
set_option linter.unusedSimpArgs false
/- Layer 36 (neutral): Ask, Leave, over the cohort lock. (printed by gen_sm6.py) -/
namespace Go.Proofs.YtkennofbilmbcaaGreat
open Go.RowKit

/-- behind an act -/
def SmAct (ty : TypeId) (B BC : Nat → Prop) (w : World) (a g : Nat) (X : SmX) (c : CoC) (P T : List Int) (x' : Nu) (e : Ending) (w' : World) : Prop :=
  ∃ r, e = .returned (.bool r) ∧ SmIs ty B BC w' a g X c P T x'.st x'.d x'.U ∧ Turns (SmS a g X) w w'
section
variable {ty : TypeId}
variable {B BC : Nat → Prop} {w w' : World} {a g : Nat} {X : SmX} {c : CoC} {P T : List Int} {st st' : Co} {d d' : Dr} {U : List Sp} {s' : Ar}
theorem SmIs.put4 (h : SmIs ty B BC w a g X c P T st d U) {n : Nat} (hn : n < T.length) (p' : Sp) : SmIs ty B BC ((((w.setCell ⟨X.q, n * 4, none⟩ (.int .i64 p'.pc)).setCell ⟨X.q, n * 4 + 1, none⟩ (.int .i64 p'.a)).setCell ⟨X.q, n * 4 + 2, none⟩ (.int .i64 p'.b)).setCell ⟨X.q, n * 4 + 3, none⟩ (.int .i64 p'.c)) a g X c P T st d (U.set n p') := by
  have hp := h.thr hn
  obtain ⟨p, e⟩ : ∃ p, p = sv U n := ⟨_, rfl⟩
  rw [← e] at hp
  have h1 := h.put0 hp (u := .int .i64 p'.pc) (p' := ⟨p'.pc, p.a, p.b, p.c⟩) rfl
  have h2 := h1.put (getS_set hp _) (j := 1) (u := .int .i64 p'.a) (p' := ⟨p'.pc, p'.a, p.b, p.c⟩) (by decide) rfl
  have h3 := h2.put (getS_set (getS_set hp _) _) (j := 2) (u := .int .i64 p'.b) (p' := ⟨p'.pc, p'.a, p'.b, p.c⟩) (by decide) rfl
  have h4 := h3.put (getS_set (getS_set (getS_set hp _) _) _) (j := 3) (u := .int .i64 p'.c) (p' := p') (by decide) rfl
  simp only [List.set_set] at h4
  exact h4
theorem smS_q4 (w : World) (n : Nat) (u0 u1 u2 u3 : Value) : Turns (SmS a g X) w ((((w.setCell ⟨X.q, n * 4, none⟩ u0).setCell ⟨X.q, n * 4 + 1, none⟩ u1).setCell ⟨X.q, n * 4 + 2, none⟩ u2).setCell ⟨X.q, n * 4 + 3, none⟩ u3) :=
  (((smS_q _ _).trans (smS_q _ _)).trans (smS_q _ _)).trans (smS_q _ _)
end
section
variable {B BC : Nat → Prop} {w w' : World} {a g : Nat} {X : SmX} {c : CoC} {P T : List Int} {st st' : Co} {d d' : Dr} {U : List Sp} {s' : Ar}
end
end Go.Proofs.YtkennofbilmbcaaGreat
end
section
set_option linter.unusedVariables false
set_option linter.unusedSimpArgs false
/- Layer 38 (writers): Ask, Leave, over the cohort lock. (printed by gen_sm67.py) -/
namespace Go.Proofs.YtkennofbilmbcaaGreat
open Go.RowKit

section
variable {B BC : Nat → Prop} {w w' w0 : World} {a g : Nat} {X : SmX} {c : CoC} {P T : List Int} {st st' : Co} {d d' : Dr} {U : List Sp} {s' : Ar} {BB : Int}
set_option maxRecDepth 100000 in
set_option maxHeartbeats 2000000 in
theorem ask_w (h : SmIs 91 B BC w a g X c P T st d U) (n : Nat) (hn : n < T.length) (r : Bool) : Calls Tryz.prog 166 #[.pointer (some ⟨X.l, 0, none⟩), .int .i64 n, .bool r] w (SmAct 91 B BC w a g X c P T (wsAsk ⟨st, d, U⟩ n r)) := by
  have hok : okI U (n : Int) := ⟨by omega, by rw [h.lU]; omega⟩
  have HH := Lib.hid (has_w h n true (decide_eq_true hok).symm)
  have hp := h.thr hn
  have H := Lib.hid h
  obtain ⟨x', hx'⟩ : ∃ x, x = wsAsk ⟨st, d, U⟩ n r := ⟨_, rfl⟩
  rw [← hx']
  unfold wsAsk at hx'
  obtain ⟨p, hpp⟩ : ∃ p, p = sv U n := ⟨_, rfl⟩
  simp only at hx'
  rw [← hpp] at hp hx'
  have c6 := h.cs.2.2.2.2.2.2
  have a0 := h.sp.cell hp 0 _ rfl
  have a1 := h.sp.cell hp 1 _ rfl
  have a2 := h.sp.cell hp 2 _ rfl
  have a3 := h.sp.cell hp 3 _ rfl
  have f1 : ∀ j, w.frozen? ⟨X.q, j, none⟩ = false := fun j => h.sp.free j
  simp only [Nat.add_zero] at a0
  have t2 : ¬ (n : Int) < 0 := by omega
  have hql : X.q ≠ X.l := h.o3.1
  have HX := Lib.hid hx'
  have HP := Lib.hid hp
  clear h hp hpp hok hx'
  by_cases hp0 : p.pc = 0
  · have y1 : (p.pc != 0) = false := by simpa using hp0
    have HP0 := Lib.hid hp0
    clear hp0
    have K1 := Lib.hid (H.out.put4 hn ⟨5, 0, 0, 0⟩)
    have e6 := K1.out.cs.2.2.2.2.2.2
    cases r
    · go_enter Tryz.func166, Tryz.ntmps166
      go_wp2_with fail
      refine HH.out.mono ?_
      rintro en w1 ⟨rfl, rfl⟩
      go_wp2
      go_ret
      rw [HX.out, if_pos HP0.out]
      exact ⟨_, rfl, K1.out, smS_q4 _ _ _ _ _ _⟩
    · go_enter Tryz.func166, Tryz.ntmps166
      go_wp2_with fail
      refine HH.out.mono ?_
      rintro en w1 ⟨rfl, rfl⟩
      go_wp2
      go_ret
      rw [HX.out, if_pos HP0.out]
      have K2 := K1.out.put4 hn ⟨1, 1, 0, 0⟩
      rw [List.set_set] at K2
      exact ⟨_, rfl, K2, (smS_q4 _ _ _ _ _ _).trans (smS_q4 _ _ _ _ _ _)⟩
  · have y1 : (p.pc != 0) = true := by simpa using hp0
    have HP0 := Lib.hid hp0
    clear hp0
    go_enter Tryz.func166, Tryz.ntmps166
    go_wp2_with fail
    refine HH.out.mono ?_
    rintro en w1 ⟨rfl, rfl⟩
    go_wp2
    go_ret
    rw [HX.out, if_neg HP0.out]
    exact ⟨_, rfl, H.out, Turns.refl _ _⟩
theorem ask_w_out (h : SmIs 91 B BC w a g X c P T st d U) (i : Int) (hok : ¬ okI U i) (r : Bool) : Calls Tryz.prog 166 #[.pointer (some ⟨X.l, 0, none⟩), .int .i64 i, .bool r] w (SmAct 91 B BC w a g X c P T ⟨st, d, U⟩) := by
  have HH := Lib.hid (has_w h i false (decide_eq_false hok).symm)
  have H := Lib.hid h
  clear h hok
  go_enter Tryz.func166, Tryz.ntmps166
  go_wp2_with fail
  refine HH.out.mono ?_
  rintro en w1 ⟨rfl, rfl⟩
  go_wp2
  go_ret
  exact ⟨_, rfl, H.out, Turns.refl _ _⟩
set_option maxRecDepth 100000 in
set_option maxHeartbeats 2000000 in
theorem leave_w (h : SmIs 91 B BC w a g X c P T st d U) (n : Nat) (hn : n < T.length) (ha : (sv U n).pc = 10 → (sv U n).a = 0 ∨ (sv U n).a = 1) : Calls Tryz.prog 167 #[.pointer (some ⟨X.l, 0, none⟩), .int .i64 n] w (SmAct 91 B BC w a g X c P T (nuLeave ⟨st, d, U⟩ n)) := by
  have hfp := field_pc
  have HS0 := spot_w h n
  have hp := h.thr hn
  have hg : getS U (n : Int) = sv U n := by
    unfold getS sv
    rw [if_pos ⟨by omega, by rw [h.lU]; omega⟩, Int.toNat_natCast]
  rw [hg] at HS0
  have H := Lib.hid h
  obtain ⟨x', hx'⟩ : ∃ x, x = nuLeave ⟨st, d, U⟩ n := ⟨_, rfl⟩
  rw [← hx']
  unfold nuLeave at hx'
  obtain ⟨p, hpp⟩ : ∃ p, p = sv U n := ⟨_, rfl⟩
  simp only at hx'
  rw [← hpp] at hp hx' HS0 ha
  have HS := Lib.hid HS0
  have HP := Lib.hid hp
  have t2 : ¬ (n : Int) < 0 := by omega
  have hn32 := h.nT.2.2.1
  clear h hp hpp hg HS0
  obtain ⟨pc, u, b, z⟩ := p
  simp only at ha hx'
  unfold spotV at HS
  by_cases hp0 : pc = 10
  · subst hp0
    have ha' := ha rfl
    rw [if_pos rfl] at hx'
    clear ha
    rcases ha' with rfl | rfl
    · have HX : Hid (x' = ⟨st, d, U.set n ⟨12, 0, b, z⟩⟩) := Lib.hid hx'
      have x1 : IntKind.i64.wrap 12 = 12 := IntWalk.i64_in _ (by omega)
      clear hx'
      go_enter Tryz.func167, Tryz.ntmps167
      go_wp2_with fail
      refine HS.out.mono ?_
      rintro en w1 ⟨rfl, b1⟩
      have K1 := Lib.hid (H.out.below b1)
      have T1 := Lib.hid (Turns.of_below (S := SmS a g X) b1)
      clear b1
      go_upto_region 2 with fail
      obtain ⟨sb, hsb⟩ : ∃ y, y = w1.heap.size := ⟨_, rfl⟩
      obtain ⟨wa, hwa⟩ : ∃ W, W = w1.alloc (.cells #[.int .i64 10, .int .i64 0, .int .i64 b, .int .i64 z] 35) := ⟨_, rfl⟩
      rw [← hwa, ← hsb]
      have HA1 := Lib.hid (show SmIs 91 B BC wa a g X c P T st d U ∧ Turns (SmS a g X) w wa ∧ Blk wa sb 35 #[.int .i64 10, .int .i64 0, .int .i64 b, .int .i64 z] ∧ sb ≠ X.q from ⟨by rw [hwa]; exact K1.out.below ((Below.refl _ _).alloc (Nat.le_refl _) _), by rw [hwa]; exact T1.out.alloc _, by rw [hwa, hsb]; exact Blk.new _ _ _, by have q1 := K1.out.sp.lt; omega⟩)
      clear hwa hsb K1 T1
      have HC := Lib.hid (fun W (U' : List Sp) (k : SmIs 91 B BC W a g X c P T st d U') (hb : Blk W sb 35 #[.int .i64 10, .int .i64 0, .int .i64 b, .int .i64 z]) => And.intro k.cs.2.2.2.2.2.2 (show W.cell? ⟨sb, 1, none⟩ = some (.int .i64 0) from hb.cell 1))
      have K2 := Lib.hid (HA1.out.1.below (Below.refl _ _).drew)
      have B2 := Lib.hid ((Turns.refl [] wa).drew.blk HA1.out.2.2.1 (by simp))
      have K3 := Lib.hid ((HA1.out.1.put0 HP.out (p' := (⟨12, 0, b, z⟩ : Sp)) (u := .int .i64 12) rfl).below (Below.refl _ _).drew)
      have T3 := Lib.hid ((HA1.out.2.1.trans (smS_q (n * 4) (.int .i64 12))).drew)
      have B3 := Lib.hid (((turns_q _ _ _ : Turns [X.q] wa (wa.setCell ⟨X.q, n * 4, none⟩ (.int .i64 12))).drew).blk HA1.out.2.2.1 (by simp; exact HA1.out.2.2.2))
      have v0 : wa.cell? ⟨sb, 0, none⟩ = some (.int .i64 10) := HA1.out.2.2.1.cell 0
      have e0 := K2.out.sp.cell HP.out 0 _ rfl
      have z0 := K2.out.sp.free (n * 4)
      simp only [Nat.add_zero] at e0
      go_wp2_with fail
      go_region_held3 (fun W => W.cell? ⟨X.l, 6, none⟩ = some (.slice (some ⟨X.q, 0, none⟩) T.length T.length) ∧ W.cell? ⟨sb, 1, none⟩ = some (.int .i64 0))
        (first | with_reducible exact HC.out _ _ K2.out B2.out | with_reducible exact HC.out _ _ K3.out B3.out)
        (first | fail)
      go_wp2
      go_ret
      rw [HX.out]
      exact ⟨_, rfl, K3.out, T3.out⟩
    · have HX : Hid (x' = ⟨st, d, U.set n ⟨11, 1, b, z⟩⟩) := Lib.hid hx'
      have x1 : IntKind.i64.wrap 11 = 11 := IntWalk.i64_in _ (by omega)
      clear hx'
      go_enter Tryz.func167, Tryz.ntmps167
      go_wp2_with fail
      refine HS.out.mono ?_
      rintro en w1 ⟨rfl, b1⟩
      have K1 := Lib.hid (H.out.below b1)
      have T1 := Lib.hid (Turns.of_below (S := SmS a g X) b1)
      clear b1
      go_upto_region 2 with fail
      obtain ⟨sb, hsb⟩ : ∃ y, y = w1.heap.size := ⟨_, rfl⟩
      obtain ⟨wa, hwa⟩ : ∃ W, W = w1.alloc (.cells #[.int .i64 10, .int .i64 1, .int .i64 b, .int .i64 z] 35) := ⟨_, rfl⟩
      rw [← hwa, ← hsb]
      have HA1 := Lib.hid (show SmIs 91 B BC wa a g X c P T st d U ∧ Turns (SmS a g X) w wa ∧ Blk wa sb 35 #[.int .i64 10, .int .i64 1, .int .i64 b, .int .i64 z] ∧ sb ≠ X.q from ⟨by rw [hwa]; exact K1.out.below ((Below.refl _ _).alloc (Nat.le_refl _) _), by rw [hwa]; exact T1.out.alloc _, by rw [hwa, hsb]; exact Blk.new _ _ _, by have q1 := K1.out.sp.lt; omega⟩)
      clear hwa hsb K1 T1
      have HC := Lib.hid (fun W (U' : List Sp) (k : SmIs 91 B BC W a g X c P T st d U') (hb : Blk W sb 35 #[.int .i64 10, .int .i64 1, .int .i64 b, .int .i64 z]) => And.intro k.cs.2.2.2.2.2.2 (show W.cell? ⟨sb, 1, none⟩ = some (.int .i64 1) from hb.cell 1))
      have K2 := Lib.hid (HA1.out.1.below (Below.refl _ _).drew)
      have B2 := Lib.hid ((Turns.refl [] wa).drew.blk HA1.out.2.2.1 (by simp))
      have K3 := Lib.hid ((HA1.out.1.put0 HP.out (p' := (⟨11, 1, b, z⟩ : Sp)) (u := .int .i64 11) rfl).below (Below.refl _ _).drew)
      have T3 := Lib.hid ((HA1.out.2.1.trans (smS_q (n * 4) (.int .i64 11))).drew)
      have B3 := Lib.hid (((turns_q _ _ _ : Turns [X.q] wa (wa.setCell ⟨X.q, n * 4, none⟩ (.int .i64 11))).drew).blk HA1.out.2.2.1 (by simp; exact HA1.out.2.2.2))
      have v0 : wa.cell? ⟨sb, 0, none⟩ = some (.int .i64 10) := HA1.out.2.2.1.cell 0
      have e0 := K2.out.sp.cell HP.out 0 _ rfl
      have z0 := K2.out.sp.free (n * 4)
      simp only [Nat.add_zero] at e0
      go_wp2_with fail
      go_region_held3 (fun W => W.cell? ⟨X.l, 6, none⟩ = some (.slice (some ⟨X.q, 0, none⟩) T.length T.length) ∧ W.cell? ⟨sb, 1, none⟩ = some (.int .i64 1))
        (first | with_reducible exact HC.out _ _ K2.out B2.out | with_reducible exact HC.out _ _ K3.out B3.out)
        (first | fail)
      go_wp2
      go_ret
      rw [HX.out]
      exact ⟨_, rfl, K3.out, T3.out⟩
  · have y1 : (pc != 10) = true := by simpa using hp0
    have HX := Lib.hid hx'
    have HP0 := Lib.hid hp0
    clear hp0 ha hx'
    go_enter Tryz.func167, Tryz.ntmps167
    go_wp2_with fail
    refine HS.out.mono ?_
    rintro en w1 ⟨rfl, b1⟩
    have HB := Lib.hid b1
    clear b1
    go_wp2
    go_ret
    rw [HX.out, if_neg HP0.out]
    exact ⟨_, rfl, (H.out.below HB.out).below ((Below.refl _ _).alloc (Nat.le_refl _) _), (Turns.of_below HB.out).alloc _⟩
theorem leave_w_out (h : SmIs 91 B BC w a g X c P T st d U) (i : Int) (hok : ¬ okI U i) : Calls Tryz.prog 167 #[.pointer (some ⟨X.l, 0, none⟩), .int .i64 i] w (SmAct 91 B BC w a g X c P T ⟨st, d, U⟩) := by
  have hfp := field_pc
  have HS0 := spot_w h i
  rw [getS_out hok] at HS0
  have HS := Lib.hid HS0
  have H := Lib.hid h
  clear h hok HS0
  unfold spotV Sp.zero at HS
  go_enter Tryz.func167, Tryz.ntmps167
  go_wp2_with fail
  refine HS.out.mono ?_
  rintro en w1 ⟨rfl, b1⟩
  have HB := Lib.hid b1
  clear b1
  go_wp2
  go_ret
  exact ⟨_, rfl, (H.out.below HB.out).below ((Below.refl _ _).alloc (Nat.le_refl _) _), (Turns.of_below HB.out).alloc _⟩
end
end Go.Proofs.YtkennofbilmbcaaGreat
end
section
set_option linter.unusedVariables false
set_option linter.unusedSimpArgs false
/- Layer 37 (readers): what a step does, over the cohort lock. (printed by gen_sm67.py) -/
namespace Go.Proofs.YtkennofbilmbcaaGreat
open Go.RowKit

/-- behind what a step does: where the thread comes -/
def NextOk (ty : TypeId) (B BC : Nat → Prop) (w : World) (a g : Nat) (X : SmX) (c : CoC) (P T : List Int) (r : Co × Dr × Int) (U : List Sp) (e : Ending) (w' : World) : Prop :=
  e = .returned (.int .i64 r.2.2) ∧ SmIs ty B BC w' a g X c P T r.1 r.2.1 U ∧ Turns (SmS a g X) w w'
section
variable {ty : TypeId}
variable {B BC : Nat → Prop} {w w' w0 : World} {a g : Nat} {X : SmX} {c : CoC} {P T : List Int} {st st' : Co} {d d' : Dr} {U : List Sp} {s' : Ar} {BB : Int}
theorem SmIs.ltsA (h : SmIs ty B BC w a g X c P T st d U) : ∀ r ∈ SmS a g X, r < w.heap.size := by
  intro r hr
  unfold SmS at hr
  simp only [List.mem_cons] at hr
  rcases hr with rfl | rfl | hr
  · exact h.sp.lt
  · exact h.gd.dr.lt
  · exact h.co.lts r hr
theorem SmIs.nodeA (h : SmIs ty B BC w a g X c P T st d U) {n : Nat} (hn : n < T.length) : (c.node n) < (leavesL P).length ∧ (nodesTo P T T.length)[n]? = some ((c.node n : Nat) : Int) := by
  have := h.co.fx.node (i := n) (by rw [h.nT.1]; exact hn)
  rw [h.nT.2.1] at this
  exact this
theorem SmIs.drw (h : SmIs ty B BC w a g X c P T st d U) : SmIs ty B BC w.drew a g X c P T st d U := h.below (Below.refl _ _).drew
end
section
variable {B BC : Nat → Prop} {w w' w0 : World} {a g : Nat} {X : SmX} {c : CoC} {P T : List Int} {st st' : Co} {d d' : Dr} {U : List Sp} {s' : Ar} {BB : Int}
end
end Go.Proofs.YtkennofbilmbcaaGreat
end
section
set_option linter.unusedVariables false
set_option linter.unusedSimpArgs false
/- Layer 38 (writers): what a step does, over the cohort lock. (printed by gen_sm67.py) -/
namespace Go.Proofs.YtkennofbilmbcaaGreat
open Go.RowKit

section
variable {B BC : Nat → Prop} {w w' w0 : World} {a g : Nat} {X : SmX} {c : CoC} {P T : List Int} {st st' : Co} {d d' : Dr} {U : List Sp} {s' : Ar} {BB : Int}
set_option maxRecDepth 100000 in
set_option maxHeartbeats 2000000 in
theorem quiet_w (h : SmIs 91 B BC w a g X c P T st d U) (ho : st.s.ops + 1 ≤ 1000000000000) : Calls Tryz.prog 175 #[.pointer (some ⟨X.l, 0, none⟩)] w fun e w' => e = .returned (.bool (ldW st.s.W (nuFl (leavesL P).length) == 0)) ∧ SmIs 91 B BC w' a g X c P T (onA st (loadA st.s (nuFl (leavesL P).length))) d U ∧ Turns (SmS a g X) w w' := by
  have H := Lib.hid h
  clear h
  obtain ⟨q, hq⟩ : ∃ q, q = ldW st.s.W (nuFl (leavesL P).length) := ⟨_, rfl⟩
  rw [← hq]
  have HQ := Lib.hid hq
  clear hq
  have K0d := Lib.hid H.out.drw
  have HO0 := Lib.hid (load_any (K0d.out).gd.ar (nuFl (leavesL P).length) ho)
  rw [← HQ.out] at HO0
  go_enter Tryz.func175, Tryz.ntmps175
  go_wp2_with fail
  go_region_held3 (fun W => W.cell? ⟨X.l, 0, none⟩ = some (.pointer (some ⟨a, 0, none⟩)) ∧ W.cell? ⟨X.l, 4, none⟩ = some (.int .i64 (2 * ((leavesL P).length : Int) + 1)))
    (first | exact ⟨K0d.out.cs.1, K0d.out.cs.2.2.2.2.1⟩ | exact ⟨K1.out.cs.1, K1.out.cs.2.2.2.2.1⟩)
    (first
      | (go_at_call 117; go_loud (refine HO0.out.mono ?_); rintro en w1 ⟨rfl, a3, t3⟩; have K1 := Lib.hid (K0d.out.arT t3 a3); have T1 := Lib.hid ((Turns.refl (SmS a g X) w).drew.trans (smS_ag t3)); clear a3 t3))
  go_wp2
  go_ret
  exact ⟨rfl, K1.out, T1.out⟩
set_option maxRecDepth 100000 in
set_option maxHeartbeats 2000000 in
theorem read2_w (h : SmIs 91 B BC w a g X c P T st d U) (n : Nat) (hn : n < T.length) {nd : Nat} (hnd : nd < (leavesL P).length) (hnn : (nodesTo P T T.length)[n]? = some ((nd : Nat) : Int)) (ho : st.s.ops + 1 ≤ 1000000000000) : Calls Tryz.prog 174 #[.pointer (some ⟨X.l, 0, none⟩), .int .i64 n, .int .i64 2] w (NextOk 91 B BC w a g X c P T (onA st (addA st.s (2 * (nd : Int) + 1) 1), d, 3) U) := by
  have HND := Lib.hid (nodeF w X.b P T n hn h.tb.f _ hnn)
  have l1 := h.cs.2.1
  have hnd := Lib.hid hnd
  have H := Lib.hid h
  clear h hnn
  go_enter Tryz.func174, Tryz.ntmps174
  go_wp2_with fail
  refine HND.out.mono ?_
  rintro en wn ⟨rfl, rfl⟩
  have K0 := H
  have T0 := Lib.hid (Turns.refl (SmS a g X) w)
  have d2 := K0.out.cs.2.2.1
  go_wp2_with fail
  refine (gaEnter K0.out.gd.ga K0.out.gd.ar nd hnd.out K0.out.gd.n32 ho).mono ?_
  rintro en w1 ⟨rfl, a2, t2⟩
  have K1 := Lib.hid (K0.out.arT t2 a2)
  have T1 := Lib.hid (T0.out.trans (smS_ag t2))
  clear a2 t2
  go_wp2
  go_ret
  exact ⟨rfl, K1.out, T1.out⟩
set_option maxRecDepth 100000 in
set_option maxHeartbeats 2000000 in
theorem read4_w (h : SmIs 91 B BC w a g X c P T st d U) (n : Nat) (hn : n < T.length) {nd : Nat} (hnd : nd < (leavesL P).length) (hnn : (nodesTo P T T.length)[n]? = some ((nd : Nat) : Int)) (ho : st.s.ops + 1 ≤ 1000000000000) : Calls Tryz.prog 174 #[.pointer (some ⟨X.l, 0, none⟩), .int .i64 n, .int .i64 4] w (NextOk 91 B BC w a g X c P T (onA st (addA st.s (2 * (nd : Int) + 1 + 1) 1), d, 1) U) := by
  have HND := Lib.hid (nodeF w X.b P T n hn h.tb.f _ hnn)
  have l1 := h.cs.2.1
  have hnd := Lib.hid hnd
  have H := Lib.hid h
  clear h hnn
  go_enter Tryz.func174, Tryz.ntmps174
  go_wp2_with fail
  refine HND.out.mono ?_
  rintro en wn ⟨rfl, rfl⟩
  have K0 := H
  have T0 := Lib.hid (Turns.refl (SmS a g X) w)
  have d2 := K0.out.cs.2.2.1
  go_wp2_with fail
  refine (gaExit K0.out.gd.ga K0.out.gd.ar nd hnd.out K0.out.gd.n32 ho).mono ?_
  rintro en w1 ⟨rfl, a2, t2⟩
  have K1 := Lib.hid (K0.out.arT t2 a2)
  have T1 := Lib.hid (T0.out.trans (smS_ag t2))
  clear a2 t2
  go_wp2
  go_ret
  exact ⟨rfl, K1.out, T1.out⟩
set_option maxRecDepth 100000 in
set_option maxHeartbeats 2000000 in
theorem read11_w (h : SmIs 91 B BC w a g X c P T st d U) (n : Nat) (hn : n < T.length) {nd : Nat} (hnd : nd < (leavesL P).length) (hnn : (nodesTo P T T.length)[n]? = some ((nd : Nat) : Int)) (ho : st.s.ops + 1 ≤ 1000000000000) : Calls Tryz.prog 174 #[.pointer (some ⟨X.l, 0, none⟩), .int .i64 n, .int .i64 11] w (NextOk 91 B BC w a g X c P T (onA st (addA st.s (2 * (nd : Int) + 1 + 1) 1), d, 0) U) := by
  have HND := Lib.hid (nodeF w X.b P T n hn h.tb.f _ hnn)
  have l1 := h.cs.2.1
  have hnd := Lib.hid hnd
  have H := Lib.hid h
  clear h hnn
  go_enter Tryz.func174, Tryz.ntmps174
  go_wp2_with fail
  refine HND.out.mono ?_
  rintro en wn ⟨rfl, rfl⟩
  have K0 := H
  have T0 := Lib.hid (Turns.refl (SmS a g X) w)
  have d2 := K0.out.cs.2.2.1
  go_wp2_with fail
  refine (gaExit K0.out.gd.ga K0.out.gd.ar nd hnd.out K0.out.gd.n32 ho).mono ?_
  rintro en w1 ⟨rfl, a2, t2⟩
  have K1 := Lib.hid (K0.out.arT t2 a2)
  have T1 := Lib.hid (T0.out.trans (smS_ag t2))
  clear a2 t2
  go_wp2
  go_ret
  exact ⟨rfl, K1.out, T1.out⟩
set_option maxRecDepth 100000 in
set_option maxHeartbeats 2000000 in
theorem read1_w (h : SmIs 91 B BC w a g X c P T st d U) (n : Nat) (hn : n < T.length) {nd : Nat} (hnd : nd < (leavesL P).length) (hnn : (nodesTo P T T.length)[n]? = some ((nd : Nat) : Int)) (ho : st.s.ops + 1 ≤ 1000000000000) : Calls Tryz.prog 174 #[.pointer (some ⟨X.l, 0, none⟩), .int .i64 n, .int .i64 1] w (NextOk 91 B BC w a g X c P T (onA st (loadA st.s (nuFl (leavesL P).length)), d, if ldW st.s.W (nuFl (leavesL P).length) = 0 then 2 else 1) U) := by
  have HND := Lib.hid (nodeF w X.b P T n hn h.tb.f _ hnn)
  have l1 := h.cs.2.1
  have hnd := Lib.hid hnd
  have HQ0 := quiet_w h ho
  obtain ⟨q, hq⟩ : ∃ q, q = ldW st.s.W (nuFl (leavesL P).length) := ⟨_, rfl⟩
  rw [← hq] at HQ0 ⊢
  obtain ⟨v, hv⟩ : ∃ v : Int, v = if q = 0 then 2 else 1 := ⟨_, rfl⟩
  rw [← hv]
  have HV := Lib.hid hv
  have H := Lib.hid h
  clear h hnn hq hv
  cases hz : (q == 0)
  all_goals
    rw [hz] at HQ0
    have HQ := Lib.hid HQ0
    clear HQ0
    go_enter Tryz.func174, Tryz.ntmps174
    go_wp2_with fail
    refine HND.out.mono ?_
    rintro en wn ⟨rfl, rfl⟩
    go_wp2_with fail
    refine HQ.out.mono ?_
    rintro en w1 ⟨rfl, k3, t3⟩
    have HK := Lib.hid (And.intro k3 t3)
    clear k3 t3
    go_wp2
    go_ret
    first
    | (rw [HV.out, if_pos (by simpa using hz)]
       exact ⟨rfl, HK.out.1, HK.out.2⟩)
    | (rw [HV.out, if_neg (by simpa using hz)]
       exact ⟨rfl, HK.out.1, HK.out.2⟩)
set_option maxRecDepth 100000 in
set_option maxHeartbeats 2000000 in
theorem read3_w (h : SmIs 91 B BC w a g X c P T st d U) (n : Nat) (hn : n < T.length) {nd : Nat} (hnd : nd < (leavesL P).length) (hnn : (nodesTo P T T.length)[n]? = some ((nd : Nat) : Int)) (ho : st.s.ops + 1 ≤ 1000000000000) : Calls Tryz.prog 174 #[.pointer (some ⟨X.l, 0, none⟩), .int .i64 n, .int .i64 3] w (NextOk 91 B BC w a g X c P T (onA st (loadA st.s (nuFl (leavesL P).length)), d, if ldW st.s.W (nuFl (leavesL P).length) = 0 then 10 else 4) U) := by
  have HND := Lib.hid (nodeF w X.b P T n hn h.tb.f _ hnn)
  have l1 := h.cs.2.1
  have hnd := Lib.hid hnd
  have HQ0 := quiet_w h ho
  obtain ⟨q, hq⟩ : ∃ q, q = ldW st.s.W (nuFl (leavesL P).length) := ⟨_, rfl⟩
  rw [← hq] at HQ0 ⊢
  obtain ⟨v, hv⟩ : ∃ v : Int, v = if q = 0 then 10 else 4 := ⟨_, rfl⟩
  rw [← hv]
  have HV := Lib.hid hv
  have H := Lib.hid h
  clear h hnn hq hv
  cases hz : (q == 0)
  all_goals
    rw [hz] at HQ0
    have HQ := Lib.hid HQ0
    clear HQ0
    go_enter Tryz.func174, Tryz.ntmps174
    go_wp2_with fail
    refine HND.out.mono ?_
    rintro en wn ⟨rfl, rfl⟩
    go_wp2_with fail
    refine HQ.out.mono ?_
    rintro en w1 ⟨rfl, k3, t3⟩
    have HK := Lib.hid (And.intro k3 t3)
    clear k3 t3
    go_wp2
    go_ret
    first
    | (rw [HV.out, if_pos (by simpa using hz)]
       exact ⟨rfl, HK.out.1, HK.out.2⟩)
    | (rw [HV.out, if_neg (by simpa using hz)]
       exact ⟨rfl, HK.out.1, HK.out.2⟩)
set_option maxRecDepth 100000 in
set_option maxHeartbeats 2000000 in
theorem write5_w (h : SmIs 91 B BC w a g X c P T st d U) (n : Nat) (hn : n < T.length) (ho : st.s.ops + 1 ≤ 1000000000000) : Calls Tryz.prog 173 #[.pointer (some ⟨X.l, 0, none⟩), .int .i64 n, .int .i64 5] w (NextOk 91 B BC w a g X c P T (coAsk c (onA st (addA st.s (nuFl (leavesL P).length) 1)) n, d, 7) U) := by
  have hnx : n < X.x.n := by rw [h.nT.1]; exact hn
  have H := Lib.hid h
  clear h
  go_enter Tryz.func173, Tryz.ntmps173
  have K0 := H
  have T0 := Lib.hid (Turns.refl (SmS a g X) w)
  have K0d := Lib.hid K0.out.drw
  have HO0 := Lib.hid (add_any (K0d.out).gd.ar (nuFl (leavesL P).length) (1) ho)
  obtain ⟨va, hva⟩ : ∃ va : Int, va = (if inR st.s.W (nuFl (leavesL P).length) then IntKind.i64.wrap (ldW st.s.W (nuFl (leavesL P).length) + (1)) else 0) := ⟨_, rfl⟩
  rw [← hva] at HO0
  clear hva
  go_wp2_with fail
  go_region_held3 (fun W => W.cell? ⟨X.l, 0, none⟩ = some (.pointer (some ⟨a, 0, none⟩)) ∧ W.cell? ⟨X.l, 4, none⟩ = some (.int .i64 (2 * ((leavesL P).length : Int) + 1)))
    (first | exact ⟨K0d.out.cs.1, K0d.out.cs.2.2.2.2.1⟩ | exact ⟨K1.out.cs.1, K1.out.cs.2.2.2.2.1⟩)
    (first
      | (go_at_call 145; go_loud (refine HO0.out.mono ?_); rintro en w1 ⟨rfl, a3, t3⟩; have K1 := Lib.hid (K0d.out.arT t3 a3); have T1 := Lib.hid (T0.out.drew.trans (smS_ag t3)); clear a3 t3))
  have l5 := K1.out.cs.2.2.2.2.2.1
  go_wp2_with fail
  refine (askCo K1.out.co n hnx).mono ?_
  rintro en w2 ⟨rfl, k3, t3⟩
  have K2 := Lib.hid (K1.out.coT t3 k3)
  have T2 := Lib.hid (T1.out.trans (smS_co t3))
  clear k3 t3 l5
  go_wp2
  go_ret
  exact ⟨rfl, K2.out, T2.out⟩
set_option maxRecDepth 100000 in
set_option maxHeartbeats 2000000 in
theorem write12_w (h : SmIs 91 B BC w a g X c P T st d U) (n : Nat) (hn : n < T.length) (ho : st.s.ops + 1 ≤ 1000000000000) : Calls Tryz.prog 173 #[.pointer (some ⟨X.l, 0, none⟩), .int .i64 n, .int .i64 12] w (NextOk 91 B BC w a g X c P T (coLeave (onA st (addA st.s (nuFl (leavesL P).length) (-1))) n, d, 13) U) := by
  have hnx : n < X.x.n := by rw [h.nT.1]; exact hn
  have H := Lib.hid h
  clear h
  go_enter Tryz.func173, Tryz.ntmps173
  have K0 := H
  have T0 := Lib.hid (Turns.refl (SmS a g X) w)
  have K0d := Lib.hid K0.out.drw
  have HO0 := Lib.hid (add_any (K0d.out).gd.ar (nuFl (leavesL P).length) (-1) ho)
  obtain ⟨va, hva⟩ : ∃ va : Int, va = (if inR st.s.W (nuFl (leavesL P).length) then IntKind.i64.wrap (ldW st.s.W (nuFl (leavesL P).length) + (-1)) else 0) := ⟨_, rfl⟩
  rw [← hva] at HO0
  clear hva
  go_wp2_with fail
  go_region_held3 (fun W => W.cell? ⟨X.l, 0, none⟩ = some (.pointer (some ⟨a, 0, none⟩)) ∧ W.cell? ⟨X.l, 4, none⟩ = some (.int .i64 (2 * ((leavesL P).length : Int) + 1)))
    (first | exact ⟨K0d.out.cs.1, K0d.out.cs.2.2.2.2.1⟩ | exact ⟨K1.out.cs.1, K1.out.cs.2.2.2.2.1⟩)
    (first
      | (go_at_call 145; go_loud (refine HO0.out.mono ?_); rintro en w1 ⟨rfl, a3, t3⟩; have K1 := Lib.hid (K0d.out.arT t3 a3); have T1 := Lib.hid (T0.out.drew.trans (smS_ag t3)); clear a3 t3))
  have l5 := K1.out.cs.2.2.2.2.2.1
  go_wp2_with fail
  refine (leaveCo K1.out.co n hnx).mono ?_
  rintro en w2 ⟨rfl, k3, t3⟩
  have K2 := Lib.hid (K1.out.coT t3 k3)
  have T2 := Lib.hid (T1.out.trans (smS_co t3))
  clear k3 t3 l5
  go_wp2
  go_ret
  exact ⟨rfl, K2.out, T2.out⟩
set_option maxRecDepth 100000 in
set_option maxHeartbeats 2000000 in
theorem write13_w (h : SmIs 91 B BC w a g X c P T st d U) (n : Nat) (hn : n < T.length) (C : CoPre BB X.x c st) (ho : st.s.ops + 1 ≤ 1000000000000) : Calls Tryz.prog 173 #[.pointer (some ⟨X.l, 0, none⟩), .int .i64 n, .int .i64 13] w (NextOk 91 B BC w a g X c P T (coStep c st n, d, if cameK (sv st.T n) (sv (coStep c st n).T n) then 0 else 13) U) := by
  have hnx : n < X.x.n := by rw [h.nT.1]; exact hn
  have HS0 := stepCo h.co C n hnx
  obtain ⟨q, hq⟩ : ∃ q, q = cameK (sv st.T n) (sv (coStep c st n).T n) := ⟨_, rfl⟩
  rw [← hq] at HS0 ⊢
  have HS := Lib.hid HS0
  have l5 := h.cs.2.2.2.2.2.1
  have H := Lib.hid h
  clear h hq HS0
  cases q
  all_goals
    go_enter Tryz.func173, Tryz.ntmps173
    go_wp2_with fail
    refine HS.out.mono ?_
    rintro en w1 ⟨rfl, k3, t3⟩
    have K1 := Lib.hid (H.out.coT t3 k3)
    have T1 := Lib.hid (smS_co (X := X) t3)
    clear k3 t3
    go_wp2
    go_ret
    exact ⟨rfl, K1.out, T1.out⟩
set_option maxRecDepth 100000 in
set_option maxHeartbeats 2000000 in
theorem write7_w (h : SmIs 91 B BC w a g X c P T st d U) (n : Nat) (hn : n < T.length) (C : CoPre BB X.x c st) (hN : 1 ≤ (leavesL P).length) (ho : st.s.ops + 1 ≤ 1000000000000) : Calls Tryz.prog 173 #[.pointer (some ⟨X.l, 0, none⟩), .int .i64 n, .int .i64 7] w (NextOk 91 B BC w a g X c P T (coStep c st n, if cameK (sv st.T n) (sv (coStep c st n).T n) then drBeg d (leavesL P).length false else d, if cameK (sv st.T n) (sv (coStep c st n).T n) then 9 else 7) U) := by
  have hnx : n < X.x.n := by rw [h.nT.1]; exact hn
  have HS0 := stepCo h.co C n hnx
  obtain ⟨q, hq⟩ : ∃ q, q = cameK (sv st.T n) (sv (coStep c st n).T n) := ⟨_, rfl⟩
  rw [← hq] at HS0 ⊢
  have HS := Lib.hid HS0
  have l5 := h.cs.2.2.2.2.2.1
  have H := Lib.hid h
  clear h hq HS0
  cases q
  · go_enter Tryz.func173, Tryz.ntmps173
    go_wp2_with fail
    refine HS.out.mono ?_
    rintro en w1 ⟨rfl, k3, t3⟩
    have K1 := Lib.hid (H.out.coT t3 k3)
    have T1 := Lib.hid (smS_co (X := X) t3)
    clear k3 t3
    go_wp2
    go_ret
    exact ⟨rfl, K1.out, T1.out⟩
  · go_enter Tryz.func173, Tryz.ntmps173
    go_wp2_with fail
    refine HS.out.mono ?_
    rintro en w1 ⟨rfl, k3, t3⟩
    have K1 := Lib.hid (H.out.coT t3 k3)
    have T1 := Lib.hid (smS_co (X := X) t3)
    clear k3 t3
    have K1d := Lib.hid K1.out.drw
    have HB1 := Lib.hid (drBegin (K1d.out).gd hN false)
    have HN1 := Lib.hid (nodesFQ _ X.b P T (K1d.out).tb.f)
    go_wp2_with fail
    go_region_held3 (fun W => W.cell? ⟨X.l, 3, none⟩ = some (.pointer (some ⟨X.dd, 0, none⟩)) ∧ W.cell? ⟨X.l, 1, none⟩ = some (.pointer (some ⟨X.b, 0, none⟩)))
      (first | exact ⟨K1d.out.cs.2.2.2.1, K1d.out.cs.2.1⟩ | exact ⟨K2.out.cs.2.2.2.1, K2.out.cs.2.1⟩)
      (first
        | (go_at_call 29; go_loud (refine HN1.out.mono ?_); rintro en wn ⟨rfl, rfl⟩)
        | (go_at_call 130; go_loud (refine HB1.out.mono ?_); rintro en w2 ⟨rfl, k4, t4⟩; have K2 := Lib.hid (K1d.out.gdT t4 k4); have T2 := Lib.hid (T1.out.drew.trans (smS_gd t4)); clear k4 t4))
    go_wp2
    go_ret
    exact ⟨rfl, K2.out, T2.out⟩
set_option maxRecDepth 100000 in
set_option maxHeartbeats 2000000 in
theorem write9_w (h : SmIs 91 B BC w a g X c P T st d U) (hb : d.busy = true → d.at_ < (leavesL P).length) (n : Nat) (ho : st.s.ops + 1 ≤ 1000000000000) : Calls Tryz.prog 173 #[.pointer (some ⟨X.l, 0, none⟩), .int .i64 n, .int .i64 9] w (NextOk 91 B BC w a g X c P T (onA st (drStep st.s d).1, (drStep st.s d).2.1, if (drStep st.s d).2.2 = true then 10 else 9) U) := by
  obtain ⟨r, hr⟩ : ∃ r, r = drStep st.s d := ⟨_, rfl⟩
  have HD0 := drStepW h.gd hb ho
  rw [← hr] at HD0 ⊢
  obtain ⟨s1, d1, q⟩ := r
  simp only at HD0 ⊢
  have HD := Lib.hid HD0
  have H := Lib.hid h
  clear h hr hb HD0
  cases q
  all_goals
    go_enter Tryz.func173, Tryz.ntmps173
    have d3 := H.out.cs.2.2.2.1
    go_wp2_with fail
    refine HD.out.mono ?_
    rintro en w1 ⟨rfl, k4, t4⟩
    have K1 := Lib.hid (H.out.gdT t4 k4)
    have T1 := Lib.hid (smS_gd (X := X) t4)
    clear k4 t4
    go_wp2
    go_ret
    exact ⟨rfl, K1.out, T1.out⟩
end
end Go.Proofs.YtkennofbilmbcaaGreat
end
section
set_option linter.unusedVariables false
set_option linter.unusedSimpArgs false
/- Layer 38 (writers): Step, over the cohort lock. (printed by gen_sm67.py) -/
namespace Go.Proofs.YtkennofbilmbcaaGreat
open Go.RowKit

section
variable {B BC : Nat → Prop} {w w' w0 : World} {a g : Nat} {X : SmX} {c : CoC} {P T : List Int} {st st' : Co} {d d' : Dr} {U : List Sp} {s' : Ar} {BB : Int}
theorem step_w0 (h : SmIs 91 B BC w a g X c P T st d U) (n : Nat) (hn : n < T.length) (hc : (sv U n).pc = 0 ∨ (sv U n).pc = 10) : Calls Tryz.prog 170 #[.pointer (some ⟨X.l, 0, none⟩), .int .i64 n] w (SmAct 91 B BC w a g X c P T (wsStep c (leavesL P).length ⟨st, d, U⟩ n)) := by
  have hfp := field_pc
  have HS0 := spot_w h n
  have hp := h.thr hn
  have hg : getS U (n : Int) = sv U n := by
    unfold getS sv
    rw [if_pos ⟨by omega, by rw [h.lU]; omega⟩, Int.toNat_natCast]
  rw [hg] at HS0
  have H := Lib.hid h
  have t2 : ¬ (n : Int) < 0 := by omega
  have hn32 := h.nT.2.2.1
  have hx' : wsStep c (leavesL P).length ⟨st, d, U⟩ n = ⟨st, d, U⟩ := by
    unfold wsStep
    rw [if_pos hc]
  obtain ⟨p, hpp⟩ : ∃ p, p = sv U n := ⟨_, rfl⟩
  rw [← hpp] at hc HS0
  have HS := Lib.hid HS0
  have HX := Lib.hid hx'
  clear h hp hpp hx' hg HS0
  obtain ⟨pc, u, b, z⟩ := p
  simp only at hc
  unfold spotV at HS
  rcases hc with rfl | rfl
  all_goals
    go_enter Tryz.func170, Tryz.ntmps170
    go_wp2_with fail
    refine HS.out.mono ?_
    rintro en w1 ⟨rfl, b1⟩
    have HB := Lib.hid b1
    clear b1
    go_wp2
    go_ret
    rw [HX.out]
    exact ⟨_, rfl, (H.out.below HB.out).below ((Below.refl _ _).alloc (Nat.le_refl _) _), (Turns.of_below HB.out).alloc _⟩
theorem step_w_out (h : SmIs 91 B BC w a g X c P T st d U) (i : Int) (hok : ¬ okI U i) : Calls Tryz.prog 170 #[.pointer (some ⟨X.l, 0, none⟩), .int .i64 i] w (SmAct 91 B BC w a g X c P T ⟨st, d, U⟩) := by
  have hfp := field_pc
  have HS0 := spot_w h i
  rw [getS_out hok] at HS0
  have HS := Lib.hid HS0
  have H := Lib.hid h
  clear h hok HS0
  unfold spotV Sp.zero at HS
  go_enter Tryz.func170, Tryz.ntmps170
  go_wp2_with fail
  refine HS.out.mono ?_
  rintro en w1 ⟨rfl, b1⟩
  have HB := Lib.hid b1
  clear b1
  go_wp2
  go_ret
  exact ⟨_, rfl, (H.out.below HB.out).below ((Below.refl _ _).alloc (Nat.le_refl _) _), (Turns.of_below HB.out).alloc _⟩
set_option maxRecDepth 100000 in
set_option maxHeartbeats 4000000 in
theorem step_w_a1 (h : SmIs 91 B BC w a g X c P T st d U) (n : Nat) (hn : n < T.length) (pc b z : Int) (hU : sv U n = ⟨pc, 1, b, z⟩) (hc : pc ≠ 0 ∧ pc ≠ 10)
    (hD : ∀ W, SmIs 91 B BC W a g X c P T st d U → Calls Tryz.prog 174 #[.pointer (some ⟨X.l, 0, none⟩), .int .i64 n, .int .i64 pc] W (NextOk 91 B BC W a g X c P T (wsDoes c (leavesL P).length ⟨st, d, U⟩ n ⟨pc, 1, b, z⟩) U)) : Calls Tryz.prog 170 #[.pointer (some ⟨X.l, 0, none⟩), .int .i64 n] w (SmAct 91 B BC w a g X c P T (wsStep c (leavesL P).length ⟨st, d, U⟩ n)) := by
  have hfp := field_pc
  have HS0 := spot_w h n
  have hp := h.thr hn
  have hg : getS U (n : Int) = sv U n := by
    unfold getS sv
    rw [if_pos ⟨by omega, by rw [h.lU]; omega⟩, Int.toNat_natCast]
  rw [hg] at HS0
  have H := Lib.hid h
  have t2 : ¬ (n : Int) < 0 := by omega
  have hn32 := h.nT.2.2.1
  obtain ⟨r, hr⟩ : ∃ r, r = wsDoes c (leavesL P).length ⟨st, d, U⟩ n ⟨pc, 1, b, z⟩ := ⟨_, rfl⟩
  have hx' : wsStep c (leavesL P).length ⟨st, d, U⟩ n = ⟨r.1, r.2.1, U.set n ⟨r.2.2, 1, b, z⟩⟩ := by
    unfold wsStep
    rw [if_neg (by rw [hU]; simp only; omega), hr, hU]
  rw [← hr] at hD
  rw [hU] at hp HS0
  obtain ⟨s1, d1, v⟩ := r
  simp only at hx'
  have u0 : (pc == 0) = false := by simpa using hc.1
  have u1 : (pc == 10) = false := by simpa using hc.2
  have HX := Lib.hid hx'
  have HS := Lib.hid HS0
  have HP := Lib.hid hp
  have HD := Lib.hid hD
  clear h hp hx' hg HS0 hD hr hU hc
  unfold spotV at HS
  cases v1 : (v == 10) <;> cases v2 : (v == 0)
  all_goals
    go_enter Tryz.func170, Tryz.ntmps170
    go_wp2_with fail
    refine HS.out.mono ?_
    rintro en w1 ⟨rfl, b1⟩
    have K1 := Lib.hid (H.out.below b1)
    have T1 := Lib.hid (Turns.of_below (S := SmS a g X) b1)
    clear b1
    go_upto_region 2 with fail
    obtain ⟨sb, hsb⟩ : ∃ y, y = w1.heap.size := ⟨_, rfl⟩
    obtain ⟨wa, hwa⟩ : ∃ W, W = w1.alloc (.cells #[.int .i64 pc, .int .i64 1, .int .i64 b, .int .i64 z] 35) := ⟨_, rfl⟩
    rw [← hwa, ← hsb]
    have HA1 := Lib.hid (show SmIs 91 B BC wa a g X c P T st d U ∧ Turns (SmS a g X) w wa ∧ Blk wa sb 35 #[.int .i64 pc, .int .i64 1, .int .i64 b, .int .i64 z] ∧ sb ∉ SmS a g X from ⟨by rw [hwa]; exact (K1.out).below ((Below.refl _ _).alloc (Nat.le_refl _) _), by rw [hwa]; exact T1.out.alloc _, by rw [hwa, hsb]; exact Blk.new _ _ _, fun k => by have := K1.out.ltsA _ k; omega⟩)
    clear hwa hsb K1 T1
    have v0 : wa.cell? ⟨sb, 0, none⟩ = some (.int .i64 pc) := HA1.out.2.2.1.cell 0
    have va : wa.cell? ⟨sb, 1, none⟩ = some (.int .i64 1) := HA1.out.2.2.1.cell 1
    go_wp2_with fail
    refine (HD.out _ HA1.out.1).mono ?_
    rintro en w3 ⟨rfl, k3, t3⟩
    have K3 := Lib.hid k3
    have T3 := Lib.hid (HA1.out.2.1.trans t3)
    clear k3 t3
  all_goals
    have e0 := K3.out.sp.cell HP.out 0 _ rfl
    have z0 := K3.out.sp.free (n * 4)
    have d6 := K3.out.cs.2.2.2.2.2.2
    simp only [Nat.add_zero] at e0
    have K4 := Lib.hid (K3.out.put0 HP.out (p' := (⟨v, 1, b, z⟩ : Sp)) (u := .int .i64 v) rfl)
    go_wp2
    go_ret
    rw [HX.out]
    exact ⟨_, rfl, K4.out, T3.out.trans (smS_q _ _)⟩
set_option maxRecDepth 100000 in
set_option maxHeartbeats 4000000 in
theorem step_w_a0 (h : SmIs 91 B BC w a g X c P T st d U) (n : Nat) (hn : n < T.length) (pc b z : Int) (hU : sv U n = ⟨pc, 0, b, z⟩) (hc : pc ≠ 0 ∧ pc ≠ 10)
    (hD : ∀ W, SmIs 91 B BC W a g X c P T st d U → Calls Tryz.prog 173 #[.pointer (some ⟨X.l, 0, none⟩), .int .i64 n, .int .i64 pc] W (NextOk 91 B BC W a g X c P T (wsDoes c (leavesL P).length ⟨st, d, U⟩ n ⟨pc, 0, b, z⟩) U)) : Calls Tryz.prog 170 #[.pointer (some ⟨X.l, 0, none⟩), .int .i64 n] w (SmAct 91 B BC w a g X c P T (wsStep c (leavesL P).length ⟨st, d, U⟩ n)) := by
  have hfp := field_pc
  have HS0 := spot_w h n
  have hp := h.thr hn
  have hg : getS U (n : Int) = sv U n := by
    unfold getS sv
    rw [if_pos ⟨by omega, by rw [h.lU]; omega⟩, Int.toNat_natCast]
  rw [hg] at HS0
  have H := Lib.hid h
  have t2 : ¬ (n : Int) < 0 := by omega
  have hn32 := h.nT.2.2.1
  obtain ⟨r, hr⟩ : ∃ r, r = wsDoes c (leavesL P).length ⟨st, d, U⟩ n ⟨pc, 0, b, z⟩ := ⟨_, rfl⟩
  have hx' : wsStep c (leavesL P).length ⟨st, d, U⟩ n = ⟨r.1, r.2.1, U.set n ⟨r.2.2, 0, b, z⟩⟩ := by
    unfold wsStep
    rw [if_neg (by rw [hU]; simp only; omega), hr, hU]
  rw [← hr] at hD
  rw [hU] at hp HS0
  obtain ⟨s1, d1, v⟩ := r
  simp only at hx'
  have u0 : (pc == 0) = false := by simpa using hc.1
  have u1 : (pc == 10) = false := by simpa using hc.2
  have HX := Lib.hid hx'
  have HS := Lib.hid HS0
  have HP := Lib.hid hp
  have HD := Lib.hid hD
  clear h hp hx' hg HS0 hD hr hU hc
  unfold spotV at HS
  cases v1 : (v == 10) <;> cases v2 : (v == 0)
  all_goals
    go_enter Tryz.func170, Tryz.ntmps170
    go_wp2_with fail
    refine HS.out.mono ?_
    rintro en w1 ⟨rfl, b1⟩
    have K1 := Lib.hid (H.out.below b1)
    have T1 := Lib.hid (Turns.of_below (S := SmS a g X) b1)
    clear b1
    go_upto_region 2 with fail
    obtain ⟨sb, hsb⟩ : ∃ y, y = w1.heap.size := ⟨_, rfl⟩
    obtain ⟨wa, hwa⟩ : ∃ W, W = w1.alloc (.cells #[.int .i64 pc, .int .i64 0, .int .i64 b, .int .i64 z] 35) := ⟨_, rfl⟩
    rw [← hwa, ← hsb]
    have HA1 := Lib.hid (show SmIs 91 B BC wa a g X c P T st d U ∧ Turns (SmS a g X) w wa ∧ Blk wa sb 35 #[.int .i64 pc, .int .i64 0, .int .i64 b, .int .i64 z] ∧ sb ∉ SmS a g X from ⟨by rw [hwa]; exact (K1.out).below ((Below.refl _ _).alloc (Nat.le_refl _) _), by rw [hwa]; exact T1.out.alloc _, by rw [hwa, hsb]; exact Blk.new _ _ _, fun k => by have := K1.out.ltsA _ k; omega⟩)
    clear hwa hsb K1 T1
    have v0 : wa.cell? ⟨sb, 0, none⟩ = some (.int .i64 pc) := HA1.out.2.2.1.cell 0
    have va : wa.cell? ⟨sb, 1, none⟩ = some (.int .i64 0) := HA1.out.2.2.1.cell 1
    go_wp2_with fail
    refine (HD.out _ HA1.out.1).mono ?_
    rintro en w3 ⟨rfl, k3, t3⟩
    have K3 := Lib.hid k3
    have T3 := Lib.hid (HA1.out.2.1.trans t3)
    clear k3 t3
  all_goals
    have e0 := K3.out.sp.cell HP.out 0 _ rfl
    have z0 := K3.out.sp.free (n * 4)
    have d6 := K3.out.cs.2.2.2.2.2.2
    simp only [Nat.add_zero] at e0
    have K4 := Lib.hid (K3.out.put0 HP.out (p' := (⟨v, 0, b, z⟩ : Sp)) (u := .int .i64 v) rfl)
    go_wp2
    go_ret
    rw [HX.out]
    exact ⟨_, rfl, K4.out, T3.out.trans (smS_q _ _)⟩
theorem step_wAll (h : SmIs 91 B BC w a g X c P T st d U) (n : Nat) (hn : n < T.length) (hc : linkW (sv U n) (sv st.T n)) (ho : st.s.ops + 1 ≤ 1000000000000) (hN : 1 ≤ (leavesL P).length) (hb : ((sv U n).a = 0 → (sv U n).pc = 9 → d.busy = true → d.at_ < (leavesL P).length)) (C : CoPre BB X.x c st) :
    Calls Tryz.prog 170 #[.pointer (some ⟨X.l, 0, none⟩), .int .i64 n] w (SmAct 91 B BC w a g X c P T (wsStep c (leavesL P).length ⟨st, d, U⟩ n)) := by
  obtain ⟨p, hpp⟩ : ∃ p, p = sv U n := ⟨_, rfl⟩
  have hcs : p.pc = 0 ∨ p.pc = 10 ∨ (p.a = 1 ∧ p.pc = 1) ∨ (p.a = 1 ∧ p.pc = 2) ∨ (p.a = 1 ∧ p.pc = 3) ∨ (p.a = 1 ∧ p.pc = 4) ∨ (p.a = 1 ∧ p.pc = 11) ∨ (p.a = 0 ∧ p.pc = 5) ∨ (p.a = 0 ∧ p.pc = 7) ∨ (p.a = 0 ∧ p.pc = 9) ∨ (p.a = 0 ∧ p.pc = 12) ∨ (p.a = 0 ∧ p.pc = 13) := by
    rw [← hpp] at hc
    unfold linkW at hc
    rcases hc with ⟨q1, _⟩ | ⟨q1, q2, _⟩ | ⟨q1, q2, _⟩ | ⟨q1, q2, _⟩ | ⟨q1, q2, _⟩ | ⟨q1, q2, _⟩
    all_goals omega
  have hb' := hb
  rw [← hpp] at hb'
  obtain ⟨pc, u, b, z⟩ := p
  have hpc : (sv U n).pc = pc := by rw [← hpp]
  simp only at hcs hb'
  have hnd := h.nodeA hn
  rcases hcs with rfl | rfl | ⟨rfl, rfl⟩ | ⟨rfl, rfl⟩ | ⟨rfl, rfl⟩ | ⟨rfl, rfl⟩ | ⟨rfl, rfl⟩ | ⟨rfl, rfl⟩ | ⟨rfl, rfl⟩ | ⟨rfl, rfl⟩ | ⟨rfl, rfl⟩ | ⟨rfl, rfl⟩
  · exact step_w0 h n hn (.inl hpc)
  · exact step_w0 h n hn (.inr hpc)
  · exact step_w_a1 h n hn _ b z hpp.symm (by decide) (fun W k => read1_w k n hn hnd.1 hnd.2 ho)
  · exact step_w_a1 h n hn _ b z hpp.symm (by decide) (fun W k => read2_w k n hn hnd.1 hnd.2 ho)
  · exact step_w_a1 h n hn _ b z hpp.symm (by decide) (fun W k => read3_w k n hn hnd.1 hnd.2 ho)
  · refine step_w_a1 h n hn _ b z hpp.symm (by decide) (fun W k => ?_)
    have k9 := read4_w k n hn hnd.1 hnd.2 ho
    rw [show 2 * ((c.node n : Nat) : Int) + 1 + 1 = gaW (c.node n) by unfold gaW; omega] at k9
    exact k9
  · refine step_w_a1 h n hn _ b z hpp.symm (by decide) (fun W k => ?_)
    have k9 := read11_w k n hn hnd.1 hnd.2 ho
    rw [show 2 * ((c.node n : Nat) : Int) + 1 + 1 = gaW (c.node n) by unfold gaW; omega] at k9
    exact k9
  · exact step_w_a0 h n hn _ b z hpp.symm (by decide) (fun W k => write5_w k n hn ho)
  · exact step_w_a0 h n hn _ b z hpp.symm (by decide) (fun W k => write7_w k n hn C hN ho)
  · exact step_w_a0 h n hn _ b z hpp.symm (by decide) (fun W k => write9_w k (hb' rfl rfl) n ho)
  · exact step_w_a0 h n hn _ b z hpp.symm (by decide) (fun W k => write12_w k n hn ho)
  · exact step_w_a0 h n hn _ b z hpp.symm (by decide) (fun W k => write13_w k n hn C ho)
end
end Go.Proofs.YtkennofbilmbcaaGreat
end
