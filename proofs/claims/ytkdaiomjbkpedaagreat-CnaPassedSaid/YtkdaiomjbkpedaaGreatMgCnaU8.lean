/- Joined: Cw2, Cw3, Cw4, Cw5. -/
import Derived.Test.YtkdaiomjbkpedaaGreatMgCnaU2
import Derived.Test.YtkdaiomjbkpedaaGreatMgCnaU7
section
/- Layer 31 (cna): how the lock lies in memory; Threads, Spot, begin, Ask, Leave, the words' numbers, pick. -/
namespace Go.Proofs.YtkdaiomjbkpedaaGreat
open Go.RowKit

/-- the blocks: lock, arena, its words, spots, walk, the walk's nodes, the lock's nodes, what the walk's closure captured -/
structure Cx where
  l : Nat
  a : Nat
  g : Nat
  q : Nat
  k : Nat
  n1 : Nat
  nb : Nat
  b0 : Nat
  b1 : Nat
  b2 : Nat
def lkC (c : Cx) (cap : Nat) (bud : Int) (n : Nat) : Array Value := #[.pointer (some ⟨c.a, 0, none⟩), .int .i64 1, .int .i64 bud, .slice (some ⟨c.nb, 0, none⟩) n cap, .pointer (some ⟨c.k, 0, none⟩), .slice (some ⟨c.q, 0, none⟩) n n]
def behV (c : Cx) : Value := .func (.func 124) #[] #[.pointer (some ⟨c.b0, 0, none⟩), .pointer (some ⟨c.b1, 0, none⟩), .pointer (some ⟨c.b2, 0, none⟩)]
structure CnIs (w : World) (c : Cx) (cap : Nat) (bud : Int) (nd : List Int) (h : Cn) : Prop where
  ar : ArIs w c.a c.g h.ar
  lk : Blk w c.l 85 (lkC c cap bud nd.length)
  sp : SpIs w c.q h.S
  wk : WkIs w c.k c.n1 (behV c) nd h.wk
  row : ∀ m, m < nd.length → w.cell? ⟨c.nb, m, none⟩ = some (.int .i64 (ndf nd m))
  p0 : Blk w c.b0 27 #[.pointer (some ⟨c.a, 0, none⟩)]
  p1 : Blk w c.b1 3 #[.int .i64 3]
  p2 : Blk w c.b2 3 #[.int .i64 3]
  sl : h.S.length = nd.length
  n32 : 1 ≤ nd.length ∧ nd.length ≤ 32
  nd4 : [c.a, c.g, c.q, c.k].Nodup
  st : ∀ x ∈ [c.l, c.n1, c.nb, c.b0, c.b1, c.b2], x ∉ [c.a, c.g, c.q, c.k]
theorem Turns.cell {S : List Nat} {w w' : World} (t : Turns S w w') {p : Addr} (hp : p.block < w.heap.size) (hn : p.block ∉ S) : w'.cell? p = w.cell? p := by
  unfold World.cell?
  rw [t.block _ hp hn]
section
variable {w w' : World} {c : Cx} {cap : Nat} {bud : Int} {nd : List Int} {h : Cn}
theorem CnIs.next (k : CnIs w c cap bud nd h) {ar' : Ar} {wk' : Wk} {S' : List Sp} (t : Turns [c.a, c.g, c.q, c.k] w w') (h1 : ArIs w' c.a c.g ar') (h2 : SpIs w' c.q S') (h3 : WkIs w' c.k c.n1 (behV c) nd wk') (h4 : S'.length = nd.length) : CnIs w' c cap bud nd ⟨ar', wk', S'⟩ := by
  refine ⟨h1, t.blk k.lk (k.st _ (by simp)), h2, h3, fun m hm => ?_, t.blk k.p0 (k.st _ (by simp)), t.blk k.p1 (k.st _ (by simp)), t.blk k.p2 (k.st _ (by simp)), h4, k.n32, k.nd4, k.st⟩
  rw [t.cell (block_lt_of_cell (k.row m hm)) (k.st _ (by simp))]
  exact k.row m hm
theorem CnIs.below (k : CnIs w c cap bud nd h) (t : Below w.heap.size w w') : CnIs w' c cap bud nd h := by
  have t0 := Turns.of_below (S := []) t
  exact k.next (t0.mono (by simp)) (k.ar.turns t0 (by simp) (by simp)) (k.sp.turns t0 (by simp)) (k.wk.below t) k.sl
theorem CnIs.n1k (k : CnIs w c cap bud nd h) : c.n1 ∉ [c.a, c.g, c.q, c.k] := k.st _ (by simp)
/-- the arena alone turns -/
theorem CnIs.op (k : CnIs w c cap bud nd h) {ar' : Ar} (t : Turns [c.a, c.g] w w') (h1 : ArIs w' c.a c.g ar') : CnIs w' c cap bud nd ⟨ar', h.wk, h.S⟩ := by
  have hnd := k.nd4
  have hn1 := k.n1k
  simp at hnd hn1
  exact k.next (t.mono (by simp)) h1 (k.sp.turns t (by simp; omega)) (k.wk.turns t (by simp; omega) (by simp; omega)) k.sl
/-- the spots alone turn -/
theorem CnIs.spot (k : CnIs w c cap bud nd h) {S' : List Sp} (hs : SpIs w' c.q S') (hl : S'.length = nd.length) (t : Turns [c.q] w w') : CnIs w' c cap bud nd ⟨h.ar, h.wk, S'⟩ := by
  have hnd := k.nd4
  have hn1 := k.n1k
  simp at hnd hn1
  exact k.next (t.mono (by simp)) (k.ar.turns t (by simp; omega) (by simp; omega)) hs (k.wk.turns t (by simp; omega) (by simp; omega)) hl
/-- the walk alone turns -/
theorem CnIs.walk (k : CnIs w c cap bud nd h) {wk' : Wk} (h3 : WkIs w' c.k c.n1 (behV c) nd wk') (t : Turns [c.k] w w') : CnIs w' c cap bud nd ⟨h.ar, wk', h.S⟩ := by
  have hnd := k.nd4
  simp at hnd
  exact k.next (t.mono (by simp)) (k.ar.turns t (by simp; omega) (by simp; omega)) (k.sp.turns t (by simp; omega)) h3 k.sl
theorem CnIs.putS (k : CnIs w c cap bud nd h) {i : Nat} {p p' : Sp} (hp : h.S[i]? = some p) {j : Nat} {v : Value} (hj : j < 4) (he : (encP4 p).set j v = encP4 p') : CnIs (w.setCell ⟨c.q, i * 4 + j, none⟩ v) c cap bud nd ⟨h.ar, h.wk, h.S.set i p'⟩ :=
  k.spot (k.sp.put hp hj he) (by simp [k.sl]) ((Turns.refl _ _).setCell (.inl (by simp)) _)
theorem turns_cq {w : World} {c : Cx} (p : Addr) (v : Value) (hp : p.block = c.q) : Turns [c.a, c.g, c.q, c.k] w (w.setCell p v) := (Turns.refl _ _).setCell (.inl (by simp [hp])) _
theorem CnIs.l0 (k : CnIs w c cap bud nd h) : w.cell? ⟨c.l, 0, none⟩ = some (.pointer (some ⟨c.a, 0, none⟩)) := k.lk.cell 0
theorem CnIs.l1 (k : CnIs w c cap bud nd h) : w.cell? ⟨c.l, 1, none⟩ = some (.int .i64 1) := k.lk.cell 1
theorem CnIs.l2 (k : CnIs w c cap bud nd h) : w.cell? ⟨c.l, 2, none⟩ = some (.int .i64 bud) := k.lk.cell 2
theorem CnIs.l3 (k : CnIs w c cap bud nd h) : w.cell? ⟨c.l, 3, none⟩ = some (.slice (some ⟨c.nb, 0, none⟩) nd.length cap) := k.lk.cell 3
theorem CnIs.l4 (k : CnIs w c cap bud nd h) : w.cell? ⟨c.l, 4, none⟩ = some (.pointer (some ⟨c.k, 0, none⟩)) := k.lk.cell 4
theorem CnIs.l5 (k : CnIs w c cap bud nd h) : w.cell? ⟨c.l, 5, none⟩ = some (.slice (some ⟨c.q, 0, none⟩) nd.length nd.length) := k.lk.cell 5
theorem threadsC (k : CnIs w c cap bud nd h) : Calls Tryz.prog 51 #[.pointer (some ⟨c.l, 0, none⟩)] w fun e w' => e = .returned (.int .i64 nd.length) ∧ w = w' := by
  have c5 := k.l5
  clear k
  go_enter Tryz.func51, Tryz.ntmps51
  go_wp2
  go_ret
  exact ⟨rfl, rfl⟩
set_option maxHeartbeats 400000 in
theorem spotC (k : CnIs w c cap bud nd h) (i : Int) :
    Calls Tryz.prog 20 #[.pointer (some ⟨c.l, 0, none⟩), .int .i64 i] w fun e w' => e = .returned (spotV (getS h.S i)) ∧ Below w.heap.size w w' := by
  obtain ⟨_, HN⟩ := k.n32
  have hsl := k.sl
  by_cases hok : okI h.S i
  · have hp := getS_in hok
    obtain ⟨p, hpp⟩ : ∃ p, p = getS h.S i := ⟨_, rfl⟩
    rw [← hpp] at hp ⊢
    have c2 := k.l5
    have a0 := k.sp.cell hp 0 _ rfl
    have a1 := k.sp.cell hp 1 _ rfl
    have a2 := k.sp.cell hp 2 _ rfl
    have a3 := k.sp.cell hp 3 _ rfl
    simp only [Nat.add_zero] at a0
    obtain ⟨h0, h1⟩ := hok
    rw [hsl] at h1
    obtain ⟨n, rfl⟩ := Int.eq_ofNat_of_zero_le h0
    simp only [Int.toNat_natCast] at a0 a1 a2 a3
    have hs1 := k.lk.lt
    have hs2 := k.sp.lt
    have t2 : ¬ (n : Int) < 0 := by omega
    have t3 : ¬ ((nd.length : Nat) : Int) ≤ (n : Int) := by omega
    have t4 : n < nd.length := by omega
    have H : Hid (CnIs (w.alloc (.cells #[.int .i64 0, .int .i64 0, .int .i64 0, .int .i64 0] 35)) c cap bud nd h) := Lib.hid (k.below ((Below.refl _ _).alloc (Nat.le_refl _) _))
    clear k hp hpp h0 h1 hsl
    go_enter Tryz.func20, Tryz.ntmps20
    go_wp2_with (go_at_call 51; refine (threadsC H.out).mono ?_; rintro e w' ⟨rfl, rfl⟩)
    exact bodyPost_ret (results_cell_row (by rfl) _ _ w.heap.size 35 _ (0, 0) _ (by rfl) (heap_alloc_new w _) Tryz.underlying35 rfl (by kernel_rfl)) rfl ⟨rfl, (Below.refl _ _).alloc (Nat.le_refl _) _⟩
  · have H : Hid (CnIs (w.alloc (.cells #[.int .i64 0, .int .i64 0, .int .i64 0, .int .i64 0] 35)) c cap bud nd h) := Lib.hid (k.below ((Below.refl _ _).alloc (Nat.le_refl _) _))
    rw [getS_out hok]
    unfold okI at hok
    rw [hsl] at hok
    clear k hsl
    by_cases h0 : i < 0
    · go_enter Tryz.func20, Tryz.ntmps20
      go_wp2
      exact bodyPost_ret (results_cell_row (by rfl) _ _ w.heap.size 35 _ (0, 0) _ (by rfl) (heap_alloc_new w _) Tryz.underlying35 rfl (by kernel_rfl)) rfl ⟨rfl, (Below.refl _ _).alloc (Nat.le_refl _) _⟩
    · have t3 : ((nd.length : Nat) : Int) ≤ i := by omega
      clear hok
      go_enter Tryz.func20, Tryz.ntmps20
      go_wp2_with (go_at_call 51; refine (threadsC H.out).mono ?_; rintro e w' ⟨rfl, rfl⟩)
      exact bodyPost_ret (results_cell_row (by rfl) _ _ w.heap.size 35 _ (0, 0) _ (by rfl) (heap_alloc_new w _) Tryz.underlying35 rfl (by kernel_rfl)) rfl ⟨rfl, (Below.refl _ _).alloc (Nat.le_refl _) _⟩
def COp (w : World) (c : Cx) (cap : Nat) (bud : Int) (nd : List Int) (x : Cn × Bool) (e : Ending) (w' : World) : Prop := e = .returned (.bool x.2) ∧ CnIs w' c cap bud nd x.1 ∧ Turns [c.a, c.g, c.q, c.k] w w'
set_option maxHeartbeats 800000 in
theorem beginCn (k : CnIs w c cap bud nd h) (i from_ to_ : Int) :
    Calls Tryz.prog 57 #[.pointer (some ⟨c.l, 0, none⟩), .int .i64 i, .int .i64 from_, .int .i64 to_] w (COp w c cap bud nd (beginC h i from_ to_)) := by
  have H := Lib.hid k
  obtain ⟨_, hlen⟩ := k.n32
  have hsl := k.sl
  by_cases hi : okI h.S i
  · have hp := getS_in hi
    obtain ⟨p, hpp⟩ : ∃ p, p = getS h.S i := ⟨_, rfl⟩
    rw [← hpp] at hp
    have c2 := k.l5
    have a0 := k.sp.cell hp 0 _ rfl
    have f0 := k.sp.free (i.toNat * 4)
    simp only [Nat.add_zero] at a0
    obtain ⟨h0, h1⟩ := id hi
    rw [hsl] at h1
    obtain ⟨n, rfl⟩ := Int.eq_ofNat_of_zero_le h0
    simp only [Int.toNat_natCast] at a0 f0 hp
    have t2 : ¬ (n : Int) < 0 := by omega
    have t3 : ¬ ((nd.length : Nat) : Int) ≤ (n : Int) := by omega
    have t4 : n < nd.length := by omega
    have HP := Lib.hid (And.intro hi (And.intro hpp hp))
    clear k hp hpp h0 h1 hi hsl
    cases hc : (p.pc != from_)
    · have hb : Hid (beginC h n from_ to_ = (⟨h.ar, h.wk, h.S.set n { p with pc := to_ }⟩, true)) := Lib.hid (by
        unfold beginC
        have e : p.pc = from_ := by simpa using hc
        rw [← HP.out.2.1, if_pos ⟨HP.out.1, e⟩]; simp)
      go_enter Tryz.func57, Tryz.ntmps57
      go_wp2_with (go_at_call 51; refine (threadsC H.out).mono ?_; rintro e w' ⟨rfl, rfl⟩)
      go_ret
      rw [hb.out]
      have ht : Turns [c.q] w (w.setCell ⟨c.q, n * 4, none⟩ (.int .i64 to_)) := (Turns.refl _ _).setCell (.inl (by simp)) _
      exact ⟨rfl, H.out.spot (H.out.sp.put HP.out.2.2 (j := 0) (by decide) rfl) (by simp [H.out.sl]) ht, ht.mono (by simp)⟩
    · have hb : Hid (beginC h n from_ to_ = (h, false)) := Lib.hid (by
        unfold beginC
        have e : ¬ p.pc = from_ := by simpa using hc
        rw [← HP.out.2.1, if_neg (fun h => e h.2)])
      go_enter Tryz.func57, Tryz.ntmps57
      go_wp2_with (go_at_call 51; refine (threadsC H.out).mono ?_; rintro e w' ⟨rfl, rfl⟩)
      go_ret
      rw [hb.out]
      exact ⟨rfl, H.out, Turns.refl _ _⟩
  · have hb : Hid (beginC h i from_ to_ = (h, false)) := Lib.hid (by
      unfold beginC
      rw [if_neg (fun h => hi h.1)])
    unfold okI at hi
    rw [hsl] at hi
    clear k hsl
    by_cases h0 : i < 0
    · go_enter Tryz.func57, Tryz.ntmps57
      go_wp2
      go_ret
      rw [hb.out]
      exact ⟨rfl, H.out, Turns.refl _ _⟩
    · have t3 : ((nd.length : Nat) : Int) ≤ i := by omega
      clear hi
      go_enter Tryz.func57, Tryz.ntmps57
      go_wp2_with (go_at_call 51; refine (threadsC H.out).mono ?_; rintro e w' ⟨rfl, rfl⟩)
      go_ret
      rw [hb.out]
      exact ⟨rfl, H.out, Turns.refl _ _⟩
theorem askCn (k : CnIs w c cap bud nd h) (i : Int) :
    Calls Tryz.prog 49 #[.pointer (some ⟨c.l, 0, none⟩), .int .i64 i] w (COp w c cap bud nd (beginC h i 0 1)) := by
  obtain ⟨x, hx⟩ : ∃ x, x = beginC h i 0 1 := ⟨_, rfl⟩
  have H := Lib.hid (beginCn k i 0 1)
  rw [← hx] at H ⊢
  obtain ⟨x1, x2⟩ := x
  clear k hx
  go_enter Tryz.func49, Tryz.ntmps49
  go_wp2_with fail
  refine H.out.mono ?_
  rintro en w1 ⟨rfl, h1, t1⟩
  have H1 := Lib.hid (And.intro h1 t1)
  clear h1 t1
  go_wp2
  go_ret
  exact ⟨rfl, H1.out⟩
theorem leaveCn (k : CnIs w c cap bud nd h) (i : Int) :
    Calls Tryz.prog 24 #[.pointer (some ⟨c.l, 0, none⟩), .int .i64 i] w (COp w c cap bud nd (beginC h i 10 11)) := by
  obtain ⟨x, hx⟩ : ∃ x, x = beginC h i 10 11 := ⟨_, rfl⟩
  have H := Lib.hid (beginCn k i 10 11)
  rw [← hx] at H ⊢
  obtain ⟨x1, x2⟩ := x
  clear k hx
  go_enter Tryz.func24, Tryz.ntmps24
  go_wp2_with fail
  refine H.out.mono ?_
  rintro en w1 ⟨rfl, h1, t1⟩
  have H1 := Lib.hid (And.intro h1 t1)
  clear h1 t1
  go_wp2
  go_ret
  exact ⟨rfl, H1.out⟩
/- the words' numbers -/
theorem nextC (k : CnIs w c cap bud nd h) (x : Int) (hx : -5 ≤ x ∧ x ≤ 100000) : Calls Tryz.prog 88 #[.pointer (some ⟨c.l, 0, none⟩), .int .i64 x] w fun e w' => e = .returned (.int .i64 (cN x)) ∧ w = w' := by
  have c1 := k.l1
  obtain ⟨h0, h1⟩ := hx
  have x1 : IntKind.i64.wrap (3 * x) = 3 * x := IntWalk.i64_in _ (by omega)
  have x2 : IntKind.i64.wrap (1 + 3 * x) = 1 + 3 * x := IntWalk.i64_in _ (by omega)
  have x3 : IntKind.i64.wrap (1 + 3 * x - 1) = 3 * x := by rw [show 1 + 3 * x - 1 = 3 * x by omega]; exact x1
  clear k
  unfold cN
  go_enter Tryz.func88, Tryz.ntmps88
  go_wp2
  go_ret
  exact ⟨ret_int (by omega), rfl⟩
theorem spinC (k : CnIs w c cap bud nd h) (x : Int) (hx : -5 ≤ x ∧ x ≤ 100000) : Calls Tryz.prog 91 #[.pointer (some ⟨c.l, 0, none⟩), .int .i64 x] w fun e w' => e = .returned (.int .i64 (cS x)) ∧ w = w' := by
  have c1 := k.l1
  obtain ⟨h0, h1⟩ := hx
  have x1 : IntKind.i64.wrap (3 * x) = 3 * x := IntWalk.i64_in _ (by omega)
  have x2 : IntKind.i64.wrap (1 + 3 * x) = 1 + 3 * x := IntWalk.i64_in _ (by omega)
  clear k
  unfold cS
  go_enter Tryz.func91, Tryz.ntmps91
  go_wp2
  go_ret
  exact ⟨ret_int (by omega), rfl⟩
theorem lastC (k : CnIs w c cap bud nd h) (x : Int) (hx : -5 ≤ x ∧ x ≤ 100000) : Calls Tryz.prog 96 #[.pointer (some ⟨c.l, 0, none⟩), .int .i64 x] w fun e w' => e = .returned (.int .i64 (cL x)) ∧ w = w' := by
  have c1 := k.l1
  obtain ⟨h0, h1⟩ := hx
  have x1 : IntKind.i64.wrap (3 * x) = 3 * x := IntWalk.i64_in _ (by omega)
  have x2 : IntKind.i64.wrap (1 + 3 * x) = 1 + 3 * x := IntWalk.i64_in _ (by omega)
  have x3 : IntKind.i64.wrap (1 + 3 * x + 1) = 1 + 3 * x + 1 := IntWalk.i64_in _ (by omega)
  clear k
  unfold cL
  go_enter Tryz.func96, Tryz.ntmps96
  go_wp2
  go_ret
  exact ⟨ret_int (by omega), rfl⟩
theorem countC (k : CnIs w c cap bud nd h) : Calls Tryz.prog 97 #[.pointer (some ⟨c.l, 0, none⟩)] w fun e w' => e = .returned (.int .i64 2) ∧ w = w' := by
  have c1 := k.l1
  clear k
  go_enter Tryz.func97, Tryz.ntmps97
  go_wp2
  go_ret
  exact ⟨rfl, rfl⟩
theorem pickC (w : World) (b : Bool) (x y v : Int) (hv : v = if b then x else y) : Calls Tryz.prog 93 #[.bool b, .int .i64 x, .int .i64 y] w fun e w' => e = .returned (.int .i64 v) ∧ w = w' := by
  cases b
  · have HV := Lib.hid hv
    clear hv
    go_enter Tryz.func93, Tryz.ntmps93
    go_wp2
    go_ret
    exact ⟨ret_int HV.out.symm, rfl⟩
  · have HV := Lib.hid hv
    clear hv
    go_enter Tryz.func93, Tryz.ntmps93
    go_wp2
    go_ret
    exact ⟨ret_int HV.out.symm, rfl⟩
/-- who is behind a thing: what the walk's closure reads -/
theorem behindC (k : CnIs w c cap bud nd h) (y : Int) (hy : -5 ≤ y ∧ y ≤ 100000) (ho : h.ar.ops + 1 ≤ 1000000000000) : Calls Tryz.prog 124 #[.int .i64 y, .pointer (some ⟨c.b0, 0, none⟩), .pointer (some ⟨c.b1, 0, none⟩), .pointer (some ⟨c.b2, 0, none⟩)] w (OpDone w c.a c.g (loadA h.ar (cN y)) (.int .i64 (ldW h.ar.W (cN y)))) := by
  have d0 : w.cell? ⟨c.b0, 0, none⟩ = _ := k.p0.cell 0
  have d1 : w.cell? ⟨c.b1, 0, none⟩ = _ := k.p1.cell 0
  have d2 : w.cell? ⟨c.b2, 0, none⟩ = _ := k.p2.cell 0
  simp at d0 d1 d2
  obtain ⟨h0, h1⟩ := hy
  have x0 : IntKind.i64.wrap (y - 1) = y - 1 := IntWalk.i64_in _ (by omega)
  have x1 : IntKind.i64.wrap (3 * (y - 1)) = 3 * (y - 1) := IntWalk.i64_in _ (by omega)
  have x2 : IntKind.i64.wrap (3 + 3 * (y - 1)) = cN y := by unfold cN; rw [show 3 + 3 * (y - 1) = 3 * y by omega]; exact IntWalk.i64_in _ (by omega)
  have HL := Lib.hid (load_any k.ar (cN y) ho)
  obtain ⟨v, hv⟩ : ∃ v, v = ldW h.ar.W (cN y) := ⟨_, rfl⟩
  rw [← hv] at HL ⊢
  obtain ⟨z, hz⟩ : ∃ z, z = cN y := ⟨_, rfl⟩
  rw [← hz] at HL ⊢ x2
  clear k hv hz
  go_enter Tryz.func124, Tryz.ntmps124
  go_wp2_with fail
  refine HL.out.mono ?_
  rintro en w1 ⟨rfl, a1, t1⟩
  have H1 := Lib.hid (And.intro a1 t1)
  clear a1 t1
  go_wp2
  go_ret
  exact ⟨rfl, H1.out⟩
end
end Go.Proofs.YtkdaiomjbkpedaaGreat
end
section
/- Layer 31 (cna): in, a step at a time (printed by gen_cw.py). -/
namespace Go.Proofs.YtkdaiomjbkpedaaGreat
open Go.RowKit

section
variable {w w' : World} {c : Cx} {cap : Nat} {bud : Int} {nd : List Int} {h : Cn}
def MidC (w : World) (c : Cx) (cap : Nat) (bud : Int) (nd : List Int) (h : Cn) (i : Nat) (p : Sp) (x : Ar × Wk × Sp) (e : Ending) (w' : World) : Prop :=
  e = .returned (.int .i64 x.2.2.pc) ∧ CnIs w' c cap bud nd ⟨x.1, x.2.1, h.S.set i { x.2.2 with pc := p.pc }⟩ ∧ Turns [c.a, c.g, c.q, c.k] w w'
theorem setS_same {S : List Sp} {i : Nat} {p : Sp} (hp : S[i]? = some p) : S.set i p = S := by
  apply List.ext_getElem?
  intro j
  rw [List.getElem?_set]
  by_cases e : i = j
  · subst e
    have := (List.getElem?_eq_some_iff.1 hp).1
    rw [if_pos rfl, if_pos this, hp]
  · rw [if_neg e]
theorem CnIs.samS {ar' : Ar} {wk' : Wk} {i : Nat} {p : Sp} (k : CnIs w c cap bud nd ⟨ar', wk', h.S⟩) (hp : h.S[i]? = some p) : CnIs w c cap bud nd ⟨ar', wk', h.S.set i p⟩ := by
  rw [setS_same hp]; exact k
set_option maxRecDepth 100000 in
set_option maxHeartbeats 2000000 in
theorem c_in1 (k : CnIs w c cap bud nd h) (i : Nat) (hin : i < nd.length) (a b z : Int) (hp : h.S[i]? = some (⟨1, a, b, z⟩ : Sp)) (ho : h.ar.ops + 1 ≤ 1000000000000) :
    Calls Tryz.prog 53 #[.pointer (some ⟨c.l, 0, none⟩), .pointer (some ⟨c.q, i * 4, none⟩), .int .i64 ((i : Int) + 1)] w (MidC w c cap bud nd h i (⟨1, a, b, z⟩ : Sp) (stepCp nd.length (ndf nd) bud h i (⟨1, a, b, z⟩ : Sp))) := by
  obtain ⟨_, hn⟩ := k.n32
  have e0 := k.sp.cell hp 0 _ rfl
  simp only [Nat.add_zero] at e0
  obtain ⟨ar', har⟩ : ∃ s, s = storeA h.ar (cN ((i : Int) + 1)) 0 := ⟨_, rfl⟩
  have HX : Hid (stepCp nd.length (ndf nd) bud h i (⟨1, a, b, z⟩ : Sp) = (ar', h.wk, ⟨2, a, b, z⟩)) := Lib.hid (by rw [stp1 rfl, har] <;> rfl)
  have HF := Lib.hid (fun W (k : CnIs W c cap bud nd h) => nextC k ((i : Int) + 1) (by omega))
  have HO0 := (fun W (k : CnIs W c cap bud nd h) => store_any k.ar (cN ((i : Int) + 1)) 0 ho)
  rw [← har] at HO0
  have HO := Lib.hid HO0
  have HC := Lib.hid (fun W (h : Cn) (k : CnIs W c cap bud nd h) (hp : h.S[i]? = some (⟨1, a, b, z⟩ : Sp)) => k.l0)
  have HP := Lib.hid hp
  have HL := Lib.hid (show i < h.S.length by rw [k.sl]; exact hin)
  have K1 := Lib.hid (k.below ((Below.refl _ w).drew))
  clear HO0 k hp har
  go_enter Tryz.func53, Tryz.ntmps53
  go_wp2_with fail
  go_region_held3 (fun W => W.cell? ⟨c.l, 0, none⟩ = some (.pointer (some ⟨c.a, 0, none⟩)))
    (first | with_reducible exact HC.out _ _ K1.out HP.out | with_reducible exact HC.out _ _ K2.out HP.out)
    (first
      | (go_at_call 88; go_loud (refine (HF.out _ K1.out).mono ?_); rintro en w2 ⟨rfl, rfl⟩)
      | (go_at_call 90; go_loud (refine (HO.out _ K1.out).mono ?_); rintro en w3 ⟨rfl, a3, t3⟩; have K2 := Lib.hid (K1.out.op t3 a3); have T2 := Lib.hid (((Turns.refl [c.a, c.g, c.q, c.k] w).drew).trans (t3.mono (T := [c.a, c.g, c.q, c.k]) (by simp))); clear a3 t3))
  all_goals
    go_wp2
    go_ret
    rw [HX.out]
    exact ⟨rfl, K2.out.samS HP.out, T2.out⟩
set_option maxRecDepth 100000 in
set_option maxHeartbeats 2000000 in
theorem c_in2 (k : CnIs w c cap bud nd h) (i : Nat) (hin : i < nd.length) (a b z : Int) (hp : h.S[i]? = some (⟨2, a, b, z⟩ : Sp)) (ho : h.ar.ops + 1 ≤ 1000000000000) :
    Calls Tryz.prog 53 #[.pointer (some ⟨c.l, 0, none⟩), .pointer (some ⟨c.q, i * 4, none⟩), .int .i64 ((i : Int) + 1)] w (MidC w c cap bud nd h i (⟨2, a, b, z⟩ : Sp) (stepCp nd.length (ndf nd) bud h i (⟨2, a, b, z⟩ : Sp))) := by
  obtain ⟨_, hn⟩ := k.n32
  have e0 := k.sp.cell hp 0 _ rfl
  simp only [Nat.add_zero] at e0
  obtain ⟨ar', har⟩ : ∃ s, s = storeA h.ar (cS ((i : Int) + 1)) 0 := ⟨_, rfl⟩
  have HX : Hid (stepCp nd.length (ndf nd) bud h i (⟨2, a, b, z⟩ : Sp) = (ar', h.wk, ⟨3, a, b, z⟩)) := Lib.hid (by rw [stp2 rfl, har] <;> rfl)
  have HF := Lib.hid (fun W (k : CnIs W c cap bud nd h) => spinC k ((i : Int) + 1) (by omega))
  have HO0 := (fun W (k : CnIs W c cap bud nd h) => store_any k.ar (cS ((i : Int) + 1)) 0 ho)
  rw [← har] at HO0
  have HO := Lib.hid HO0
  have HC := Lib.hid (fun W (h : Cn) (k : CnIs W c cap bud nd h) (hp : h.S[i]? = some (⟨2, a, b, z⟩ : Sp)) => k.l0)
  have HP := Lib.hid hp
  have HL := Lib.hid (show i < h.S.length by rw [k.sl]; exact hin)
  have K1 := Lib.hid (k.below ((Below.refl _ w).drew))
  clear HO0 k hp har
  go_enter Tryz.func53, Tryz.ntmps53
  go_wp2_with fail
  go_region_held3 (fun W => W.cell? ⟨c.l, 0, none⟩ = some (.pointer (some ⟨c.a, 0, none⟩)))
    (first | with_reducible exact HC.out _ _ K1.out HP.out | with_reducible exact HC.out _ _ K2.out HP.out)
    (first
      | (go_at_call 91; go_loud (refine (HF.out _ K1.out).mono ?_); rintro en w2 ⟨rfl, rfl⟩)
      | (go_at_call 90; go_loud (refine (HO.out _ K1.out).mono ?_); rintro en w3 ⟨rfl, a3, t3⟩; have K2 := Lib.hid (K1.out.op t3 a3); have T2 := Lib.hid (((Turns.refl [c.a, c.g, c.q, c.k] w).drew).trans (t3.mono (T := [c.a, c.g, c.q, c.k]) (by simp))); clear a3 t3))
  all_goals
    go_wp2
    go_ret
    rw [HX.out]
    exact ⟨rfl, K2.out.samS HP.out, T2.out⟩
set_option maxRecDepth 100000 in
set_option maxHeartbeats 2000000 in
theorem c_in4 (k : CnIs w c cap bud nd h) (i : Nat) (hin : i < nd.length) (a b z : Int) (hp : h.S[i]? = some (⟨4, a, b, z⟩ : Sp)) (ho : h.ar.ops + 1 ≤ 1000000000000) (ha : -5 ≤ a ∧ a ≤ 100000) :
    Calls Tryz.prog 53 #[.pointer (some ⟨c.l, 0, none⟩), .pointer (some ⟨c.q, i * 4, none⟩), .int .i64 ((i : Int) + 1)] w (MidC w c cap bud nd h i (⟨4, a, b, z⟩ : Sp) (stepCp nd.length (ndf nd) bud h i (⟨4, a, b, z⟩ : Sp))) := by
  obtain ⟨_, hn⟩ := k.n32
  have e0 := k.sp.cell hp 0 _ rfl
  simp only [Nat.add_zero] at e0
  obtain ⟨ar', har⟩ : ∃ s, s = storeA h.ar (cN a) ((i : Int) + 1) := ⟨_, rfl⟩
  have HX : Hid (stepCp nd.length (ndf nd) bud h i (⟨4, a, b, z⟩ : Sp) = (ar', h.wk, ⟨5, a, b, z⟩)) := Lib.hid (by rw [stp4 rfl, har] <;> rfl)
  have HF := Lib.hid (fun W (k : CnIs W c cap bud nd h) => nextC k a (by exact ha))
  have HO0 := (fun W (k : CnIs W c cap bud nd h) => store_any k.ar (cN a) ((i : Int) + 1) ho)
  rw [← har] at HO0
  have HO := Lib.hid HO0
  have HC := Lib.hid (fun W (h : Cn) (k : CnIs W c cap bud nd h) (hp : h.S[i]? = some (⟨4, a, b, z⟩ : Sp)) => And.intro k.l0 (k.sp.cell hp 1 _ rfl))
  have HP := Lib.hid hp
  have HL := Lib.hid (show i < h.S.length by rw [k.sl]; exact hin)
  have K1 := Lib.hid (k.below ((Below.refl _ w).drew))
  clear HO0 k hp har
  go_enter Tryz.func53, Tryz.ntmps53
  go_wp2_with fail
  go_region_held3 (fun W => W.cell? ⟨c.l, 0, none⟩ = some (.pointer (some ⟨c.a, 0, none⟩)) ∧ W.cell? ⟨c.q, i * 4 + 1, none⟩ = some (.int .i64 a))
    (first | with_reducible exact HC.out _ _ K1.out HP.out | with_reducible exact HC.out _ _ K2.out HP.out)
    (first
      | (go_at_call 88; go_loud (refine (HF.out _ K1.out).mono ?_); rintro en w2 ⟨rfl, rfl⟩)
      | (go_at_call 90; go_loud (refine (HO.out _ K1.out).mono ?_); rintro en w3 ⟨rfl, a3, t3⟩; have K2 := Lib.hid (K1.out.op t3 a3); have T2 := Lib.hid (((Turns.refl [c.a, c.g, c.q, c.k] w).drew).trans (t3.mono (T := [c.a, c.g, c.q, c.k]) (by simp))); clear a3 t3))
  all_goals
    go_wp2
    go_ret
    rw [HX.out]
    exact ⟨rfl, K2.out.samS HP.out, T2.out⟩
set_option maxRecDepth 100000 in
set_option maxHeartbeats 2000000 in
theorem c_in6 (k : CnIs w c cap bud nd h) (i : Nat) (hin : i < nd.length) (a b z : Int) (hp : h.S[i]? = some (⟨6, a, b, z⟩ : Sp)) (ho : h.ar.ops + 1 ≤ 1000000000000) :
    Calls Tryz.prog 53 #[.pointer (some ⟨c.l, 0, none⟩), .pointer (some ⟨c.q, i * 4, none⟩), .int .i64 ((i : Int) + 1)] w (MidC w c cap bud nd h i (⟨6, a, b, z⟩ : Sp) (stepCp nd.length (ndf nd) bud h i (⟨6, a, b, z⟩ : Sp))) := by
  obtain ⟨_, hn⟩ := k.n32
  have e0 := k.sp.cell hp 0 _ rfl
  simp only [Nat.add_zero] at e0
  obtain ⟨ar', har⟩ : ∃ s, s = storeA h.ar (cS ((i : Int) + 1)) (-1) := ⟨_, rfl⟩
  have HX : Hid (stepCp nd.length (ndf nd) bud h i (⟨6, a, b, z⟩ : Sp) = (ar', h.wk, ⟨10, a, b, z⟩)) := Lib.hid (by rw [stp6 rfl, har] <;> rfl)
  have HF := Lib.hid (fun W (k : CnIs W c cap bud nd h) => spinC k ((i : Int) + 1) (by omega))
  have HO0 := (fun W (k : CnIs W c cap bud nd h) => store_any k.ar (cS ((i : Int) + 1)) (-1) ho)
  rw [← har] at HO0
  have HO := Lib.hid HO0
  have HC := Lib.hid (fun W (h : Cn) (k : CnIs W c cap bud nd h) (hp : h.S[i]? = some (⟨6, a, b, z⟩ : Sp)) => k.l0)
  have HP := Lib.hid hp
  have HL := Lib.hid (show i < h.S.length by rw [k.sl]; exact hin)
  have K1 := Lib.hid (k.below ((Below.refl _ w).drew))
  clear HO0 k hp har
  go_enter Tryz.func53, Tryz.ntmps53
  go_wp2_with fail
  go_region_held3 (fun W => W.cell? ⟨c.l, 0, none⟩ = some (.pointer (some ⟨c.a, 0, none⟩)))
    (first | with_reducible exact HC.out _ _ K1.out HP.out | with_reducible exact HC.out _ _ K2.out HP.out)
    (first
      | (go_at_call 91; go_loud (refine (HF.out _ K1.out).mono ?_); rintro en w2 ⟨rfl, rfl⟩)
      | (go_at_call 90; go_loud (refine (HO.out _ K1.out).mono ?_); rintro en w3 ⟨rfl, a3, t3⟩; have K2 := Lib.hid (K1.out.op t3 a3); have T2 := Lib.hid (((Turns.refl [c.a, c.g, c.q, c.k] w).drew).trans (t3.mono (T := [c.a, c.g, c.q, c.k]) (by simp))); clear a3 t3))
  all_goals
    go_wp2
    go_ret
    rw [HX.out]
    exact ⟨rfl, K2.out.samS HP.out, T2.out⟩
set_option maxRecDepth 100000 in
set_option maxHeartbeats 2000000 in
theorem c_in3 (k : CnIs w c cap bud nd h) (i : Nat) (hin : i < nd.length) (a b z : Int) (hp : h.S[i]? = some (⟨3, a, b, z⟩ : Sp)) (ho : h.ar.ops + 1 ≤ 1000000000000) :
    Calls Tryz.prog 53 #[.pointer (some ⟨c.l, 0, none⟩), .pointer (some ⟨c.q, i * 4, none⟩), .int .i64 ((i : Int) + 1)] w (MidC w c cap bud nd h i (⟨3, a, b, z⟩ : Sp) (stepCp nd.length (ndf nd) bud h i (⟨3, a, b, z⟩ : Sp))) := by
  obtain ⟨_, hn⟩ := k.n32
  have e0 := k.sp.cell hp 0 _ rfl
  simp only [Nat.add_zero] at e0
  obtain ⟨ar', har⟩ : ∃ s, s = swapA h.ar 1 ((i : Int) + 1) := ⟨_, rfl⟩
  obtain ⟨v, hv⟩ : ∃ v, v = ldW h.ar.W 1 := ⟨_, rfl⟩
  have HX : Hid (stepCp nd.length (ndf nd) bud h i (⟨3, a, b, z⟩ : Sp) = (ar', h.wk, (⟨if v = 0 then 6 else 4, v, b, z⟩ : Sp))) := Lib.hid (by rw [stp3 rfl, har, hv] <;> rfl)
  have HO0 := (fun W (k : CnIs W c cap bud nd h) => swap_any k.ar 1 ((i : Int) + 1) ho)
  rw [← har, ← hv] at HO0
  have HO := Lib.hid HO0
  have HC := Lib.hid (fun W (h : Cn) (u : Int) (k : CnIs W c cap bud nd h) (hp : h.S[i]? = some (⟨3, u, b, z⟩ : Sp)) => And.intro k.l0 k.l1)
  have HP := Lib.hid hp
  have HL := Lib.hid (show i < h.S.length by rw [k.sl]; exact hin)
  have K1 := Lib.hid (k.below ((Below.refl _ w).drew))
  clear HO0 k hp har hv
  have HPk := Lib.hid (fun w b x y v hv => pickC w b x y v hv)
  by_cases hv0 : v = 0
  all_goals
    have t0 : (v == 0) = decide (v = 0) := by by_cases h : v = 0 <;> simp [h]
    first
      | rw [decide_eq_true hv0] at t0
      | rw [decide_eq_false hv0] at t0
    have HV := Lib.hid hv0
    clear hv0
    go_enter Tryz.func53, Tryz.ntmps53
    go_wp2_with fail
    go_region_held3 (fun W => W.cell? ⟨c.l, 0, none⟩ = some (.pointer (some ⟨c.a, 0, none⟩)) ∧ W.cell? ⟨c.l, 1, none⟩ = some (.int .i64 1))
      (first | with_reducible exact HC.out _ _ _ K1.out HP.out | with_reducible exact HC.out _ _ _ K2.out HP.out | with_reducible exact HC3.out)
      (first
        | (go_at_call 92; go_loud (refine (HO.out _ K1.out).mono ?_); rintro en w3 ⟨rfl, a3, t3⟩; have K2 := Lib.hid (K1.out.op t3 a3); have T2 := Lib.hid (((Turns.refl [c.a, c.g, c.q, c.k] w).drew).trans (t3.mono (T := [c.a, c.g, c.q, c.k]) (by simp))); have K3 := Lib.hid (K2.out.putS (p' := (⟨3, v, b, z⟩ : Sp)) HP.out (j := 1) (v := .int .i64 v) (by decide) rfl); have HC3 := Lib.hid (HC.out _ _ v K3.out (by simp [HL.out])); have e1 := K2.out.sp.cell HP.out 1 _ rfl; have z1 := K2.out.sp.free (i * 4 + 1); clear a3 t3))
    all_goals
      go_wp2_with fail
      first
        | refine (HPk.out _ true 6 4 6 rfl).mono ?_
        | refine (HPk.out _ false 6 4 4 rfl).mono ?_
      rintro en w5 ⟨rfl, rfl⟩
      go_wp2
      go_ret
      rw [HX.out]
      first
        | exact ⟨by rw [if_pos HV.out]; rfl, K3.out, T2.out.trans (turns_cq ⟨c.q, i * 4 + 1, none⟩ _ rfl)⟩
        | exact ⟨by rw [if_neg HV.out]; rfl, K3.out, T2.out.trans (turns_cq ⟨c.q, i * 4 + 1, none⟩ _ rfl)⟩
set_option maxRecDepth 100000 in
set_option maxHeartbeats 2000000 in
theorem c_in5 (k : CnIs w c cap bud nd h) (i : Nat) (hin : i < nd.length) (a b z : Int) (hp : h.S[i]? = some (⟨5, a, b, z⟩ : Sp)) (ho : h.ar.ops + 1 ≤ 1000000000000) :
    Calls Tryz.prog 53 #[.pointer (some ⟨c.l, 0, none⟩), .pointer (some ⟨c.q, i * 4, none⟩), .int .i64 ((i : Int) + 1)] w (MidC w c cap bud nd h i (⟨5, a, b, z⟩ : Sp) (stepCp nd.length (ndf nd) bud h i (⟨5, a, b, z⟩ : Sp))) := by
  obtain ⟨_, hn⟩ := k.n32
  have e0 := k.sp.cell hp 0 _ rfl
  simp only [Nat.add_zero] at e0
  obtain ⟨ar', har⟩ : ∃ s, s = loadA h.ar (cS ((i : Int) + 1))  := ⟨_, rfl⟩
  obtain ⟨v, hv⟩ : ∃ v, v = ldW h.ar.W (cS ((i : Int) + 1)) := ⟨_, rfl⟩
  have HX : Hid (stepCp nd.length (ndf nd) bud h i (⟨5, a, b, z⟩ : Sp) = (ar', h.wk, (⟨if v ≠ 0 then 10 else 5, v, b, z⟩ : Sp))) := Lib.hid (by rw [stp5 rfl, har, hv] <;> rfl)
  have HF := Lib.hid (fun W (k : CnIs W c cap bud nd h) => spinC k ((i : Int) + 1) (by omega))
  have HO0 := (fun W (k : CnIs W c cap bud nd h) => load_any k.ar (cS ((i : Int) + 1))  ho)
  rw [← har, ← hv] at HO0
  have HO := Lib.hid HO0
  have HC := Lib.hid (fun W (h : Cn) (u : Int) (k : CnIs W c cap bud nd h) (hp : h.S[i]? = some (⟨5, u, b, z⟩ : Sp)) => k.l0)
  have HP := Lib.hid hp
  have HL := Lib.hid (show i < h.S.length by rw [k.sl]; exact hin)
  have K1 := Lib.hid (k.below ((Below.refl _ w).drew))
  clear HO0 k hp har hv
  have HPk := Lib.hid (fun w b x y v hv => pickC w b x y v hv)
  by_cases hv0 : v ≠ 0
  all_goals
    have t0 : (v != 0) = decide (v ≠ 0) := by by_cases h : v = 0 <;> simp [h]
    first
      | rw [decide_eq_true hv0] at t0
      | rw [decide_eq_false hv0] at t0
    have HV := Lib.hid hv0
    clear hv0
    go_enter Tryz.func53, Tryz.ntmps53
    go_wp2_with fail
    go_region_held3 (fun W => W.cell? ⟨c.l, 0, none⟩ = some (.pointer (some ⟨c.a, 0, none⟩)))
      (first | with_reducible exact HC.out _ _ _ K1.out HP.out | with_reducible exact HC.out _ _ _ K2.out HP.out | with_reducible exact HC3.out)
      (first
        | (go_at_call 91; go_loud (refine (HF.out _ K1.out).mono ?_); rintro en w2 ⟨rfl, rfl⟩)
        | (go_at_call 94; go_loud (refine (HO.out _ K1.out).mono ?_); rintro en w3 ⟨rfl, a3, t3⟩; have K2 := Lib.hid (K1.out.op t3 a3); have T2 := Lib.hid (((Turns.refl [c.a, c.g, c.q, c.k] w).drew).trans (t3.mono (T := [c.a, c.g, c.q, c.k]) (by simp))); have K3 := Lib.hid (K2.out.putS (p' := (⟨5, v, b, z⟩ : Sp)) HP.out (j := 1) (v := .int .i64 v) (by decide) rfl); have HC3 := Lib.hid (HC.out _ _ v K3.out (by simp [HL.out])); have e1 := K2.out.sp.cell HP.out 1 _ rfl; have z1 := K2.out.sp.free (i * 4 + 1); clear a3 t3))
    all_goals
      go_wp2_with fail
      first
        | refine (HPk.out _ true 10 5 10 rfl).mono ?_
        | refine (HPk.out _ false 10 5 5 rfl).mono ?_
      rintro en w5 ⟨rfl, rfl⟩
      go_wp2
      go_ret
      rw [HX.out]
      first
        | exact ⟨by rw [if_pos HV.out]; rfl, K3.out, T2.out.trans (turns_cq ⟨c.q, i * 4 + 1, none⟩ _ rfl)⟩
        | exact ⟨by rw [if_neg HV.out]; rfl, K3.out, T2.out.trans (turns_cq ⟨c.q, i * 4 + 1, none⟩ _ rfl)⟩
end
end Go.Proofs.YtkdaiomjbkpedaaGreat
end
section
/- Layer 31 (cna): ends, a step at a time (printed by gen_cw.py). -/
namespace Go.Proofs.YtkdaiomjbkpedaaGreat
open Go.RowKit

section
variable {w w' : World} {c : Cx} {cap : Nat} {bud : Int} {nd : List Int} {h : Cn}
set_option maxRecDepth 100000 in
set_option maxHeartbeats 2000000 in
theorem c_ends11 (k : CnIs w c cap bud nd h) (i : Nat) (hin : i < nd.length) (a b z : Int) (hp : h.S[i]? = some (⟨11, a, b, z⟩ : Sp)) (ho : h.ar.ops + 1 ≤ 1000000000000) :
    Calls Tryz.prog 54 #[.pointer (some ⟨c.l, 0, none⟩), .pointer (some ⟨c.q, i * 4, none⟩), .int .i64 ((i : Int) + 1)] w (MidC w c cap bud nd h i (⟨11, a, b, z⟩ : Sp) (stepCp nd.length (ndf nd) bud h i (⟨11, a, b, z⟩ : Sp))) := by
  obtain ⟨_, hn⟩ := k.n32
  have e0 := k.sp.cell hp 0 _ rfl
  simp only [Nat.add_zero] at e0
  obtain ⟨ar', har⟩ : ∃ s, s = loadA h.ar (cS ((i : Int) + 1))  := ⟨_, rfl⟩
  obtain ⟨v, hv⟩ : ∃ v, v = ldW h.ar.W (cS ((i : Int) + 1)) := ⟨_, rfl⟩
  have HX : Hid (stepCp nd.length (ndf nd) bud h i (⟨11, a, b, z⟩ : Sp) = (ar', h.wk, (⟨12, a, v, z⟩ : Sp))) := Lib.hid (by rw [stp11 rfl, har, hv] <;> rfl)
  have HF := Lib.hid (fun W (k : CnIs W c cap bud nd h) => spinC k ((i : Int) + 1) (by omega))
  have HO0 := (fun W (k : CnIs W c cap bud nd h) => load_any k.ar (cS ((i : Int) + 1))  ho)
  rw [← har, ← hv] at HO0
  have HO := Lib.hid HO0
  have HC := Lib.hid (fun W (h : Cn) (u : Int) (k : CnIs W c cap bud nd h) (hp : h.S[i]? = some (⟨11, a, u, z⟩ : Sp)) => k.l0)
  have HP := Lib.hid hp
  have HL := Lib.hid (show i < h.S.length by rw [k.sl]; exact hin)
  have K1 := Lib.hid (k.below ((Below.refl _ w).drew))
  clear HO0 k hp har hv
  go_enter Tryz.func54, Tryz.ntmps54
  go_wp2_with fail
  go_region_held3 (fun W => W.cell? ⟨c.l, 0, none⟩ = some (.pointer (some ⟨c.a, 0, none⟩)))
    (first | with_reducible exact HC.out _ _ _ K1.out HP.out | with_reducible exact HC.out _ _ _ K2.out HP.out | with_reducible exact HC3.out)
    (first
      | (go_at_call 91; go_loud (refine (HF.out _ K1.out).mono ?_); rintro en w2 ⟨rfl, rfl⟩)
      | (go_at_call 94; go_loud (refine (HO.out _ K1.out).mono ?_); rintro en w3 ⟨rfl, a3, t3⟩; have K2 := Lib.hid (K1.out.op t3 a3); have T2 := Lib.hid (((Turns.refl [c.a, c.g, c.q, c.k] w).drew).trans (t3.mono (T := [c.a, c.g, c.q, c.k]) (by simp))); have K3 := Lib.hid (K2.out.putS (p' := (⟨11, a, v, z⟩ : Sp)) HP.out (j := 2) (v := .int .i64 v) (by decide) rfl); have HC3 := Lib.hid (HC.out _ _ v K3.out (by simp [HL.out])); have e1 := K2.out.sp.cell HP.out 2 _ rfl; have z1 := K2.out.sp.free (i * 4 + 2); clear a3 t3))
  all_goals
    go_wp2
    go_ret
    rw [HX.out]
    exact ⟨rfl, K3.out, T2.out.trans (turns_cq ⟨c.q, i * 4 + 2, none⟩ _ rfl)⟩
set_option maxRecDepth 100000 in
set_option maxHeartbeats 2000000 in
theorem c_ends12 (k : CnIs w c cap bud nd h) (i : Nat) (hin : i < nd.length) (a b z : Int) (hp : h.S[i]? = some (⟨12, a, b, z⟩ : Sp)) (ho : h.ar.ops + 1 ≤ 1000000000000) :
    Calls Tryz.prog 54 #[.pointer (some ⟨c.l, 0, none⟩), .pointer (some ⟨c.q, i * 4, none⟩), .int .i64 ((i : Int) + 1)] w (MidC w c cap bud nd h i (⟨12, a, b, z⟩ : Sp) (stepCp nd.length (ndf nd) bud h i (⟨12, a, b, z⟩ : Sp))) := by
  obtain ⟨_, hn⟩ := k.n32
  have e0 := k.sp.cell hp 0 _ rfl
  simp only [Nat.add_zero] at e0
  obtain ⟨ar', har⟩ : ∃ s, s = loadA h.ar (cN ((i : Int) + 1))  := ⟨_, rfl⟩
  obtain ⟨v, hv⟩ : ∃ v, v = ldW h.ar.W (cN ((i : Int) + 1)) := ⟨_, rfl⟩
  have HX : Hid (stepCp nd.length (ndf nd) bud h i (⟨12, a, b, z⟩ : Sp) = (ar', h.wk, (⟨if v ≠ 0 then 17 else if 0 < b then 14 else 13, v, b, z⟩ : Sp))) := Lib.hid (by rw [stp12 rfl, har, hv] <;> rfl)
  have HF := Lib.hid (fun W (k : CnIs W c cap bud nd h) => nextC k ((i : Int) + 1) (by omega))
  have HO0 := (fun W (k : CnIs W c cap bud nd h) => load_any k.ar (cN ((i : Int) + 1))  ho)
  rw [← har, ← hv] at HO0
  have HO := Lib.hid HO0
  have HC := Lib.hid (fun W (h : Cn) (u : Int) (k : CnIs W c cap bud nd h) (hp : h.S[i]? = some (⟨12, u, b, z⟩ : Sp)) => k.l0)
  have HP := Lib.hid hp
  have HL := Lib.hid (show i < h.S.length by rw [k.sl]; exact hin)
  have K1 := Lib.hid (k.below ((Below.refl _ w).drew))
  clear HO0 k hp har hv
  have HPk := Lib.hid (fun w b x y v hv => pickC w b x y v hv)
  obtain ⟨t, ht⟩ : ∃ t, t = decide (0 < b) := ⟨_, rfl⟩
  obtain ⟨r, hr⟩ : ∃ r, r = (v != 0) := ⟨_, rfl⟩
  obtain ⟨q1, hq1⟩ : ∃ x : Int, x = if t then 14 else 13 := ⟨_, rfl⟩
  obtain ⟨q2, hq2⟩ : ∃ x : Int, x = if r then 17 else q1 := ⟨_, rfl⟩
  have HQ : Hid ((if v ≠ 0 then 17 else if 0 < b then 14 else 13 : Int) = q2) := Lib.hid (by
    rw [hq2, hq1, hr, ht]
    by_cases e1 : v = 0
    · by_cases e2 : 0 < b
      · simp [e1, e2]
      · simp [e1, e2]
    · simp [e1])
  have HQ1 := Lib.hid hq1
  have HQ2 := Lib.hid hq2
  have HR := Lib.hid hr
  have HT := Lib.hid ht
  clear hq1 hq2 hr ht
  go_enter Tryz.func54, Tryz.ntmps54
  go_wp2_with fail
  go_region_held3 (fun W => W.cell? ⟨c.l, 0, none⟩ = some (.pointer (some ⟨c.a, 0, none⟩)))
    (first | with_reducible exact HC.out _ _ _ K1.out HP.out | with_reducible exact HC.out _ _ _ K2.out HP.out | with_reducible exact HC3.out)
    (first
      | (go_at_call 88; go_loud (refine (HF.out _ K1.out).mono ?_); rintro en w2 ⟨rfl, rfl⟩)
      | (go_at_call 94; go_loud (refine (HO.out _ K1.out).mono ?_); rintro en w3 ⟨rfl, a3, t3⟩; have K2 := Lib.hid (K1.out.op t3 a3); have T2 := Lib.hid (((Turns.refl [c.a, c.g, c.q, c.k] w).drew).trans (t3.mono (T := [c.a, c.g, c.q, c.k]) (by simp))); have K3 := Lib.hid (K2.out.putS (p' := (⟨12, v, b, z⟩ : Sp)) HP.out (j := 1) (v := .int .i64 v) (by decide) rfl); have HC3 := Lib.hid (HC.out _ _ v K3.out (by simp [HL.out])); have e1 := K2.out.sp.cell HP.out 1 _ rfl; have z1 := K2.out.sp.free (i * 4 + 1); clear a3 t3))
  all_goals
    have e3 := K3.out.sp.cell (i := i) (p := ⟨12, v, b, z⟩) (by simp [HL.out]) 2 _ rfl
    have g1 := HT.out.symm
    have g2 := HR.out.symm
    go_wp2
    go_quiet ((first
      | (go_at_call 93; exact quiet_left (HPk.out _ _ _ _ _ HQ1.out))
      | (go_at_call 93; exact quiet_left (HPk.out _ _ _ _ _ HQ2.out))))
    go_wp2
    go_ret
    rw [HX.out]
    exact ⟨ret_int HQ.out.symm, K3.out.below (Qt.below ⟨_, rfl⟩ _), (T2.out.trans (turns_cq ⟨c.q, i * 4 + 1, none⟩ _ rfl)).trans (Turns.of_qt ⟨_, rfl⟩)⟩
set_option maxRecDepth 100000 in
set_option maxHeartbeats 2000000 in
theorem c_ends13 (k : CnIs w c cap bud nd h) (i : Nat) (hin : i < nd.length) (a b z : Int) (hp : h.S[i]? = some (⟨13, a, b, z⟩ : Sp)) (ho : h.ar.ops + 1 ≤ 1000000000000) :
    Calls Tryz.prog 54 #[.pointer (some ⟨c.l, 0, none⟩), .pointer (some ⟨c.q, i * 4, none⟩), .int .i64 ((i : Int) + 1)] w (MidC w c cap bud nd h i (⟨13, a, b, z⟩ : Sp) (stepCp nd.length (ndf nd) bud h i (⟨13, a, b, z⟩ : Sp))) := by
  obtain ⟨_, hn⟩ := k.n32
  have e0 := k.sp.cell hp 0 _ rfl
  simp only [Nat.add_zero] at e0
  obtain ⟨ar', har⟩ : ∃ s, s = casA h.ar 1 ((i : Int) + 1) 0 := ⟨_, rfl⟩
  obtain ⟨v, hv⟩ : ∃ v, v = casB h.ar 1 ((i : Int) + 1) := ⟨_, rfl⟩
  have HX : Hid (stepCp nd.length (ndf nd) bud h i (⟨13, a, b, z⟩ : Sp) = (ar', h.wk, (⟨if v then 0 else 16, a, b, z⟩ : Sp))) := Lib.hid (by rw [stp13 rfl, har, hv] <;> rfl)
  have HO0 := (fun W (k : CnIs W c cap bud nd h) => cas_any k.ar 1 ((i : Int) + 1) 0 ho)
  rw [← har, ← hv] at HO0
  have HO := Lib.hid HO0
  have HC := Lib.hid (fun W (h : Cn) (k : CnIs W c cap bud nd h) (hp : h.S[i]? = some (⟨13, a, b, z⟩ : Sp)) => And.intro k.l0 k.l1)
  have HP := Lib.hid hp
  have HL := Lib.hid (show i < h.S.length by rw [k.sl]; exact hin)
  have K1 := Lib.hid (k.below ((Below.refl _ w).drew))
  clear HO0 k hp har hv
  have HPk := Lib.hid (fun w b x y v hv => pickC w b x y v hv)
  cases v
  ·   go_enter Tryz.func54, Tryz.ntmps54
      go_wp2_with fail
      go_region_held3 (fun W => W.cell? ⟨c.l, 0, none⟩ = some (.pointer (some ⟨c.a, 0, none⟩)) ∧ W.cell? ⟨c.l, 1, none⟩ = some (.int .i64 1))
        (first | with_reducible exact HC.out _ _ K1.out HP.out | with_reducible exact HC.out _ _ K2.out HP.out)
        (first
          | (go_at_call 93; go_loud (refine (HPk.out _ false 0 16 16 rfl).mono ?_); rintro en w5 ⟨rfl, rfl⟩)
          | (go_at_call 95; go_loud (refine (HO.out _ K1.out).mono ?_); rintro en w3 ⟨rfl, a3, t3⟩; have K2 := Lib.hid (K1.out.op t3 a3); have T2 := Lib.hid (((Turns.refl [c.a, c.g, c.q, c.k] w).drew).trans (t3.mono (T := [c.a, c.g, c.q, c.k]) (by simp))); clear a3 t3))
      all_goals
        go_wp2
        go_ret
        rw [HX.out]
        exact ⟨rfl, K2.out.samS HP.out, T2.out⟩
  ·   go_enter Tryz.func54, Tryz.ntmps54
      go_wp2_with fail
      go_region_held3 (fun W => W.cell? ⟨c.l, 0, none⟩ = some (.pointer (some ⟨c.a, 0, none⟩)) ∧ W.cell? ⟨c.l, 1, none⟩ = some (.int .i64 1))
        (first | with_reducible exact HC.out _ _ K1.out HP.out | with_reducible exact HC.out _ _ K2.out HP.out)
        (first
          | (go_at_call 93; go_loud (refine (HPk.out _ true 0 16 0 rfl).mono ?_); rintro en w5 ⟨rfl, rfl⟩)
          | (go_at_call 95; go_loud (refine (HO.out _ K1.out).mono ?_); rintro en w3 ⟨rfl, a3, t3⟩; have K2 := Lib.hid (K1.out.op t3 a3); have T2 := Lib.hid (((Turns.refl [c.a, c.g, c.q, c.k] w).drew).trans (t3.mono (T := [c.a, c.g, c.q, c.k]) (by simp))); clear a3 t3))
      all_goals
        go_wp2
        go_ret
        rw [HX.out]
        exact ⟨rfl, K2.out.samS HP.out, T2.out⟩
set_option maxRecDepth 100000 in
set_option maxHeartbeats 2000000 in
theorem c_ends14 (k : CnIs w c cap bud nd h) (i : Nat) (hin : i < nd.length) (a b z : Int) (hp : h.S[i]? = some (⟨14, a, b, z⟩ : Sp)) (ho : h.ar.ops + 1 ≤ 1000000000000) (hb : -5 ≤ b ∧ b ≤ 100000) :
    Calls Tryz.prog 54 #[.pointer (some ⟨c.l, 0, none⟩), .pointer (some ⟨c.q, i * 4, none⟩), .int .i64 ((i : Int) + 1)] w (MidC w c cap bud nd h i (⟨14, a, b, z⟩ : Sp) (stepCp nd.length (ndf nd) bud h i (⟨14, a, b, z⟩ : Sp))) := by
  obtain ⟨_, hn⟩ := k.n32
  have e0 := k.sp.cell hp 0 _ rfl
  simp only [Nat.add_zero] at e0
  obtain ⟨ar', har⟩ : ∃ s, s = loadA h.ar (cL b)  := ⟨_, rfl⟩
  obtain ⟨v, hv⟩ : ∃ v, v = ldW h.ar.W (cL b) := ⟨_, rfl⟩
  have HX : Hid (stepCp nd.length (ndf nd) bud h i (⟨14, a, b, z⟩ : Sp) = (ar', h.wk, (⟨15, a, b, v⟩ : Sp))) := Lib.hid (by rw [stp14 rfl, har, hv] <;> rfl)
  have HF := Lib.hid (fun W (k : CnIs W c cap bud nd h) => lastC k b (by exact hb))
  have HO0 := (fun W (k : CnIs W c cap bud nd h) => load_any k.ar (cL b)  ho)
  rw [← har, ← hv] at HO0
  have HO := Lib.hid HO0
  have HC := Lib.hid (fun W (h : Cn) (u : Int) (k : CnIs W c cap bud nd h) (hp : h.S[i]? = some (⟨14, a, b, u⟩ : Sp)) => And.intro k.l0 (k.sp.cell hp 2 _ rfl))
  have HP := Lib.hid hp
  have HL := Lib.hid (show i < h.S.length by rw [k.sl]; exact hin)
  have K1 := Lib.hid (k.below ((Below.refl _ w).drew))
  clear HO0 k hp har hv
  go_enter Tryz.func54, Tryz.ntmps54
  go_wp2_with fail
  go_region_held3 (fun W => W.cell? ⟨c.l, 0, none⟩ = some (.pointer (some ⟨c.a, 0, none⟩)) ∧ W.cell? ⟨c.q, i * 4 + 2, none⟩ = some (.int .i64 b))
    (first | with_reducible exact HC.out _ _ _ K1.out HP.out | with_reducible exact HC.out _ _ _ K2.out HP.out | with_reducible exact HC3.out)
    (first
      | (go_at_call 96; go_loud (refine (HF.out _ K1.out).mono ?_); rintro en w2 ⟨rfl, rfl⟩)
      | (go_at_call 94; go_loud (refine (HO.out _ K1.out).mono ?_); rintro en w3 ⟨rfl, a3, t3⟩; have K2 := Lib.hid (K1.out.op t3 a3); have T2 := Lib.hid (((Turns.refl [c.a, c.g, c.q, c.k] w).drew).trans (t3.mono (T := [c.a, c.g, c.q, c.k]) (by simp))); have K3 := Lib.hid (K2.out.putS (p' := (⟨14, a, b, v⟩ : Sp)) HP.out (j := 3) (v := .int .i64 v) (by decide) rfl); have HC3 := Lib.hid (HC.out _ _ v K3.out (by simp [HL.out])); have e1 := K2.out.sp.cell HP.out 3 _ rfl; have z1 := K2.out.sp.free (i * 4 + 3); clear a3 t3))
  all_goals
    go_wp2
    go_ret
    rw [HX.out]
    exact ⟨rfl, K3.out, T2.out.trans (turns_cq ⟨c.q, i * 4 + 3, none⟩ _ rfl)⟩
set_option maxRecDepth 100000 in
set_option maxHeartbeats 2000000 in
theorem c_ends15 (k : CnIs w c cap bud nd h) (i : Nat) (hin : i < nd.length) (a b z : Int) (hp : h.S[i]? = some (⟨15, a, b, z⟩ : Sp)) (ho : h.ar.ops + 1 ≤ 1000000000000) :
    Calls Tryz.prog 54 #[.pointer (some ⟨c.l, 0, none⟩), .pointer (some ⟨c.q, i * 4, none⟩), .int .i64 ((i : Int) + 1)] w (MidC w c cap bud nd h i (⟨15, a, b, z⟩ : Sp) (stepCp nd.length (ndf nd) bud h i (⟨15, a, b, z⟩ : Sp))) := by
  obtain ⟨_, hn⟩ := k.n32
  have e0 := k.sp.cell hp 0 _ rfl
  simp only [Nat.add_zero] at e0
  obtain ⟨ar', har⟩ : ∃ s, s = casA h.ar 1 ((i : Int) + 1) z := ⟨_, rfl⟩
  obtain ⟨v, hv⟩ : ∃ v, v = casB h.ar 1 ((i : Int) + 1) := ⟨_, rfl⟩
  have HX : Hid (stepCp nd.length (ndf nd) bud h i (⟨15, a, b, z⟩ : Sp) = (ar', h.wk, (⟨if v then 28 else 16, a, b, z⟩ : Sp))) := Lib.hid (by rw [stp15 rfl, har, hv] <;> rfl)
  have HO0 := (fun W (k : CnIs W c cap bud nd h) => cas_any k.ar 1 ((i : Int) + 1) z ho)
  rw [← har, ← hv] at HO0
  have HO := Lib.hid HO0
  have HC := Lib.hid (fun W (h : Cn) (k : CnIs W c cap bud nd h) (hp : h.S[i]? = some (⟨15, a, b, z⟩ : Sp)) => And.intro k.l0 (And.intro k.l1 (k.sp.cell hp 3 _ rfl)))
  have HP := Lib.hid hp
  have HL := Lib.hid (show i < h.S.length by rw [k.sl]; exact hin)
  have K1 := Lib.hid (k.below ((Below.refl _ w).drew))
  clear HO0 k hp har hv
  have HPk := Lib.hid (fun w b x y v hv => pickC w b x y v hv)
  cases v
  ·   go_enter Tryz.func54, Tryz.ntmps54
      go_wp2_with fail
      go_region_held3 (fun W => W.cell? ⟨c.l, 0, none⟩ = some (.pointer (some ⟨c.a, 0, none⟩)) ∧ W.cell? ⟨c.l, 1, none⟩ = some (.int .i64 1) ∧ W.cell? ⟨c.q, i * 4 + 3, none⟩ = some (.int .i64 z))
        (first | with_reducible exact HC.out _ _ K1.out HP.out | with_reducible exact HC.out _ _ K2.out HP.out)
        (first
          | (go_at_call 93; go_loud (refine (HPk.out _ false 28 16 16 rfl).mono ?_); rintro en w5 ⟨rfl, rfl⟩)
          | (go_at_call 95; go_loud (refine (HO.out _ K1.out).mono ?_); rintro en w3 ⟨rfl, a3, t3⟩; have K2 := Lib.hid (K1.out.op t3 a3); have T2 := Lib.hid (((Turns.refl [c.a, c.g, c.q, c.k] w).drew).trans (t3.mono (T := [c.a, c.g, c.q, c.k]) (by simp))); clear a3 t3))
      all_goals
        go_wp2
        go_ret
        rw [HX.out]
        exact ⟨rfl, K2.out.samS HP.out, T2.out⟩
  ·   go_enter Tryz.func54, Tryz.ntmps54
      go_wp2_with fail
      go_region_held3 (fun W => W.cell? ⟨c.l, 0, none⟩ = some (.pointer (some ⟨c.a, 0, none⟩)) ∧ W.cell? ⟨c.l, 1, none⟩ = some (.int .i64 1) ∧ W.cell? ⟨c.q, i * 4 + 3, none⟩ = some (.int .i64 z))
        (first | with_reducible exact HC.out _ _ K1.out HP.out | with_reducible exact HC.out _ _ K2.out HP.out)
        (first
          | (go_at_call 93; go_loud (refine (HPk.out _ true 28 16 28 rfl).mono ?_); rintro en w5 ⟨rfl, rfl⟩)
          | (go_at_call 95; go_loud (refine (HO.out _ K1.out).mono ?_); rintro en w3 ⟨rfl, a3, t3⟩; have K2 := Lib.hid (K1.out.op t3 a3); have T2 := Lib.hid (((Turns.refl [c.a, c.g, c.q, c.k] w).drew).trans (t3.mono (T := [c.a, c.g, c.q, c.k]) (by simp))); clear a3 t3))
      all_goals
        go_wp2
        go_ret
        rw [HX.out]
        exact ⟨rfl, K2.out.samS HP.out, T2.out⟩
set_option maxRecDepth 100000 in
set_option maxHeartbeats 2000000 in
theorem c_ends16 (k : CnIs w c cap bud nd h) (i : Nat) (hin : i < nd.length) (a b z : Int) (hp : h.S[i]? = some (⟨16, a, b, z⟩ : Sp)) (ho : h.ar.ops + 1 ≤ 1000000000000) :
    Calls Tryz.prog 54 #[.pointer (some ⟨c.l, 0, none⟩), .pointer (some ⟨c.q, i * 4, none⟩), .int .i64 ((i : Int) + 1)] w (MidC w c cap bud nd h i (⟨16, a, b, z⟩ : Sp) (stepCp nd.length (ndf nd) bud h i (⟨16, a, b, z⟩ : Sp))) := by
  obtain ⟨_, hn⟩ := k.n32
  have e0 := k.sp.cell hp 0 _ rfl
  simp only [Nat.add_zero] at e0
  obtain ⟨ar', har⟩ : ∃ s, s = loadA h.ar (cN ((i : Int) + 1))  := ⟨_, rfl⟩
  obtain ⟨v, hv⟩ : ∃ v, v = ldW h.ar.W (cN ((i : Int) + 1)) := ⟨_, rfl⟩
  have HX : Hid (stepCp nd.length (ndf nd) bud h i (⟨16, a, b, z⟩ : Sp) = (ar', h.wk, (⟨if v ≠ 0 then 17 else 16, v, b, z⟩ : Sp))) := Lib.hid (by rw [stp16 rfl, har, hv] <;> rfl)
  have HF := Lib.hid (fun W (k : CnIs W c cap bud nd h) => nextC k ((i : Int) + 1) (by omega))
  have HO0 := (fun W (k : CnIs W c cap bud nd h) => load_any k.ar (cN ((i : Int) + 1))  ho)
  rw [← har, ← hv] at HO0
  have HO := Lib.hid HO0
  have HC := Lib.hid (fun W (h : Cn) (u : Int) (k : CnIs W c cap bud nd h) (hp : h.S[i]? = some (⟨16, u, b, z⟩ : Sp)) => k.l0)
  have HP := Lib.hid hp
  have HL := Lib.hid (show i < h.S.length by rw [k.sl]; exact hin)
  have K1 := Lib.hid (k.below ((Below.refl _ w).drew))
  clear HO0 k hp har hv
  have HPk := Lib.hid (fun w b x y v hv => pickC w b x y v hv)
  by_cases hv0 : v ≠ 0
  all_goals
    have t0 : (v != 0) = decide (v ≠ 0) := by by_cases h : v = 0 <;> simp [h]
    first
      | rw [decide_eq_true hv0] at t0
      | rw [decide_eq_false hv0] at t0
    have HV := Lib.hid hv0
    clear hv0
    go_enter Tryz.func54, Tryz.ntmps54
    go_wp2_with fail
    go_region_held3 (fun W => W.cell? ⟨c.l, 0, none⟩ = some (.pointer (some ⟨c.a, 0, none⟩)))
      (first | with_reducible exact HC.out _ _ _ K1.out HP.out | with_reducible exact HC.out _ _ _ K2.out HP.out | with_reducible exact HC3.out)
      (first
        | (go_at_call 88; go_loud (refine (HF.out _ K1.out).mono ?_); rintro en w2 ⟨rfl, rfl⟩)
        | (go_at_call 94; go_loud (refine (HO.out _ K1.out).mono ?_); rintro en w3 ⟨rfl, a3, t3⟩; have K2 := Lib.hid (K1.out.op t3 a3); have T2 := Lib.hid (((Turns.refl [c.a, c.g, c.q, c.k] w).drew).trans (t3.mono (T := [c.a, c.g, c.q, c.k]) (by simp))); have K3 := Lib.hid (K2.out.putS (p' := (⟨16, v, b, z⟩ : Sp)) HP.out (j := 1) (v := .int .i64 v) (by decide) rfl); have HC3 := Lib.hid (HC.out _ _ v K3.out (by simp [HL.out])); have e1 := K2.out.sp.cell HP.out 1 _ rfl; have z1 := K2.out.sp.free (i * 4 + 1); clear a3 t3))
    all_goals
      go_wp2_with fail
      first
        | refine (HPk.out _ true 17 16 17 rfl).mono ?_
        | refine (HPk.out _ false 17 16 16 rfl).mono ?_
      rintro en w5 ⟨rfl, rfl⟩
      go_wp2
      go_ret
      rw [HX.out]
      first
        | exact ⟨by rw [if_pos HV.out]; rfl, K3.out, T2.out.trans (turns_cq ⟨c.q, i * 4 + 1, none⟩ _ rfl)⟩
        | exact ⟨by rw [if_neg HV.out]; rfl, K3.out, T2.out.trans (turns_cq ⟨c.q, i * 4 + 1, none⟩ _ rfl)⟩
end
end Go.Proofs.YtkdaiomjbkpedaaGreat
end
section
/- Layer 31 (cna): looks: whom the lock is handed to. Steps 17 and 18. -/
namespace Go.Proofs.YtkdaiomjbkpedaaGreat
open Go.RowKit

section
variable {w w' : World} {c : Cx} {cap : Nat} {bud : Int} {nd : List Int} {h : Cn}
/-- the walk takes a step -/
def StepWD (w : World) (c : Cx) (cap : Nat) (bud : Int) (nd : List Int) (ar' : Ar) (wk' : Wk) (S : List Sp) (e : Ending) (w' : World) : Prop :=
  e = .returned (.bool (!wk'.way)) ∧ CnIs w' c cap bud nd ⟨ar', wk', S⟩ ∧ Turns [c.a, c.g, c.q, c.k] w w'
set_option maxHeartbeats 2000000 in
theorem stepWk (k : CnIs w c cap bud nd h) (ho : h.ar.ops + 1 ≤ 1000000000000) (hway : h.wk.way = true) (hp : 0 ≤ h.wk.passed ∧ h.wk.passed ≤ 32) (hl : -5 ≤ h.wk.last ∧ h.wk.last ≤ 100000) :
    Calls Tryz.prog 99 #[.pointer (some ⟨c.k, 0, none⟩)] w (StepWD w c cap bud nd (loadA h.ar (cN h.wk.last)) (takeW nd.length (ndf nd) h.wk (ldW h.ar.W (cN h.wk.last))) h.S) := by
  obtain ⟨v, hv⟩ : ∃ v, v = ldW h.ar.W (cN h.wk.last) := ⟨_, rfl⟩
  obtain ⟨ar', har⟩ : ∃ s, s = loadA h.ar (cN h.wk.last) := ⟨_, rfl⟩
  obtain ⟨wk', hwk⟩ : ∃ x, x = takeW nd.length (ndf nd) h.wk v := ⟨_, rfl⟩
  have HO := Lib.hid (overW k.wk)
  rw [hway] at HO
  have HB0 := fun W (k : CnIs W c cap bud nd h) => behindC k h.wk.last hl ho
  rw [← hv, ← har] at HB0
  have HB := Lib.hid HB0
  have HT0 := fun W (k : WkIs W c.k c.n1 (behV c) nd h.wk) => takeWk k hp v
  rw [← hwk] at HT0
  have HT := Lib.hid HT0
  have HC := Lib.hid (fun W (k : WkIs W c.k c.n1 (behV c) nd h.wk) => And.intro k.c0 k.c5)
  rw [← hv, ← har, ← hwk]
  have K0 := Lib.hid k
  have K1 := Lib.hid (k.below ((Below.refl _ w).drew))
  obtain ⟨lst, hlst⟩ : ∃ x, x = h.wk.last := ⟨_, rfl⟩
  have HLs := Lib.hid hlst
  rw [← hlst] at HB
  have HC0 := HC
  have HC := Lib.hid (show ∀ W, WkIs W c.k c.n1 (behV c) nd h.wk → W.cell? ⟨c.k, 0, none⟩ = some (.func (.func 124) #[] #[.pointer (some ⟨c.b0, 0, none⟩), .pointer (some ⟨c.b1, 0, none⟩), .pointer (some ⟨c.b2, 0, none⟩)]) ∧ W.cell? ⟨c.k, 5, none⟩ = some (.int .i64 lst) from fun W k => by rw [hlst]; exact HC0.out W k)
  clear HB0 HT0 HC0 hv har hwk hp hl k hway hlst
  go_enter Tryz.func99, Tryz.ntmps99
  go_wp2_with fail
  refine HO.out.mono ?_
  rintro en w1 ⟨rfl, rfl⟩
  go_wp2_with fail
  have k0 := (HC.out _ K1.out.wk).1
  have k5 := (HC.out _ K1.out.wk).2
  go_region_with
    (first
      | (go_at_call 124; go_loud (refine (HB.out _ K1.out).mono ?_); rintro en w2 ⟨rfl, a2, t2⟩; have K2 := Lib.hid (K1.out.op t2 a2); have T2 := Lib.hid (((Turns.refl [c.a, c.g, c.q, c.k] w).drew).trans (t2.mono (T := [c.a, c.g, c.q, c.k]) (by simp))); clear a2 t2)
      | (go_at_call 130; go_loud (refine (HT.out _ K2.out.wk).mono ?_); rintro en w3 ⟨rfl, k3, t3⟩; have K3 := Lib.hid (And.intro (K2.out.walk k3 t3) (T2.out.trans (t3.mono (T := [c.a, c.g, c.q, c.k]) (by simp)))); clear k3 t3))
  all_goals
    go_wp2
    go_ret
    exact ⟨rfl, K3.out.1, K3.out.2⟩
end
end Go.Proofs.YtkdaiomjbkpedaaGreat
end
