/- Joined: Hw1, Hw2, Hw3, Hw4, Hw5, Hw6, Hw7. -/
import Derived.StillTailTactics
import Derived.IntWalk
import Derived.Deep.RegionHeld3
import Derived.ScopeJumps
import Derived.WalkMore
import Derived.Test.YtkdaiomjbkpedaaGreatMgHmcsTenure11
import Derived.Test.YtkdaiomjbkpedaaGreatMgHmcsTenure15
section
/- Layer 27 (hmcs): the lock in memory; Threads, Spot. -/
namespace Go.Proofs.YtkdaiomjbkpedaaGreat
open Go.RowKit

/-- where the lock lies: itself, the arena and its words, the spots; of each place its rung and that one's spots; the rungs' row, the threads' rows -/
structure Hx where
  l : Nat
  a : Nat
  g : Nat
  q : Nat
  lb : Nat → Nat
  qb : Nat → Nat
  bR : Nat
  oR : Nat
  kR : Nat
  bL : Nat
  oL : Nat
  kL : Nat
  ub : Nat → Nat
  uo : Nat → Nat
  uk : Nat → Nat
/-- the words: of one place behind the other -/
def catW (W : Nat → List Int) : Nat → List Int
  | 0 => []
  | n + 1 => catW W n ++ W n
def mvL (x : Hx) (T : HTr) : List Nat := [x.a, x.g, x.q] ++ (List.range T.np).map x.qb
structure HmFx (B : Nat → Prop) (x : Hx) (T : HTr) : Prop where
  bl : B x.l
  br : B x.bR
  bL : B x.bL
  bu : ∀ t, t < T.n → B (x.ub t)
  bb : ∀ v, v < T.np → B (x.lb v)
  nm : ∀ i ∈ mvL x T, ¬ B i
  qa : x.q ≠ x.a
  qg : x.q ≠ x.g
  va : ∀ v, v < T.np → x.qb v ≠ x.a
  vg : ∀ v, v < T.np → x.qb v ≠ x.g
  vq : ∀ v, v < T.np → x.qb v ≠ x.q
  inj : ∀ v u, v < T.np → u < T.np → x.qb v = x.qb u → v = u
  n32 : T.n ≤ 32
  p32 : T.np ≤ 32
  d5 : T.D ≤ 5
  v32 : ∀ v, v < T.np → T.nv v ≤ 32
  kR : T.np ≤ x.kR
  kL : T.n ≤ x.kL
  uk : ∀ t, t < T.n → T.D ≤ x.uk t
structure HmIs (B : Nat → Prop) (w : World) (x : Hx) (T : HTr) (bud : Int) (s : Ar) (m : Hm) : Prop where
  fx : HmFx B x T
  ar : ArIs w x.a x.g s
  cat : s.W = catW m.W T.np
  wl : ∀ v, v < T.np → (m.W v).length = 2 * T.nv v + 1
  lk : Blk w x.l 96 #[.int .i64 bud, .slice (some ⟨x.bR, x.oR, none⟩) T.np x.kR, .slice (some ⟨x.bL, x.oL, none⟩) T.n x.kL, .slice (some ⟨x.q, 0, none⟩) T.n T.n]
  sn : m.S.length = T.n
  ss : SpIs w x.q m.S
  rk : ∀ v, v < T.np → Blk w (x.lb v) 126 #[.pointer (some ⟨x.a, 0, none⟩), .int .i64 ((catW m.W v).length + 1), .slice (some ⟨x.qb v, 0, none⟩) (m.P v).length (m.P v).length]
  rn : ∀ v, v < T.np → (m.P v).length = T.nv v
  rs : ∀ v, v < T.np → SpIs w (x.qb v) (m.P v)
  cR : ∀ v, v < T.np → w.cell? ⟨x.bR, x.oR + v, none⟩ = some (.pointer (some ⟨x.lb v, 0, none⟩))
  cL : ∀ t, t < T.n → w.cell? ⟨x.bL, x.oL + t, none⟩ = some (.slice (some ⟨x.ub t, x.uo t, none⟩) T.D (x.uk t))
  cP : ∀ t k, t < T.n → k < T.D → w.cell? ⟨x.ub t, x.uo t + k * 2, none⟩ = some (.pointer (some ⟨x.lb (T.pl t k), 0, none⟩))
  cS : ∀ t k, t < T.n → k < T.D → w.cell? ⟨x.ub t, x.uo t + k * 2 + 1, none⟩ = some (.int .i64 (T.sl t k))
  bd : ∀ i, B i → i < w.heap.size
theorem Turns.cell {S : List Nat} {w w' : World} (k : Turns S w w') {p : Addr} {u : Value} (h : w.cell? p = some u) (hS : p.block ∉ S) : w'.cell? p = some u := by
  rw [World.cell?_of_block (w := w) (w' := w') (a := p) (k.block p.block (block_lt_of_cell h) hS)]
  exact h
theorem catW_upd (W : Nat → List Int) (v : Nat) (X : List Int) : ∀ n, n ≤ v → catW (updH W v X) n = catW W n
  | 0, _ => rfl
  | n + 1, h => by
    show catW (updH W v X) n ++ updH W v X n = catW W n ++ W n
    rw [catW_upd W v X n (by omega), updH_ne _ _ (by omega)]
theorem catW_len {W W' : Nat → List Int} : ∀ n, (∀ v, v < n → (W v).length = (W' v).length) → (catW W n).length = (catW W' n).length
  | 0, _ => rfl
  | n + 1, h => by
    show (catW W n ++ W n).length = (catW W' n ++ W' n).length
    rw [List.length_append, List.length_append, catW_len n (fun v hv => h v (by omega)), h n (by omega)]
/-- what stands ahead of a place's words and behind them -/
theorem catW_split (W : Nat → List Int) (v : Nat) : ∀ d, ∃ C, catW W (v + 1 + d) = catW W v ++ W v ++ C ∧ ∀ X, catW (updH W v X) (v + 1 + d) = catW W v ++ X ++ C
  | 0 => ⟨[], by show catW W v ++ W v = _; simp, fun X => by show catW (updH W v X) v ++ updH W v X v = _; rw [catW_upd W v X v (Nat.le_refl _), updH_eq]; simp⟩
  | d + 1 => by
    obtain ⟨C, h1, h2⟩ := catW_split W v d
    refine ⟨C ++ W (v + 1 + d), ?_, fun X => ?_⟩
    · show catW W (v + 1 + d) ++ W (v + 1 + d) = _
      rw [h1]; simp
    · show catW (updH W v X) (v + 1 + d) ++ updH W v X (v + 1 + d) = _
      rw [h2, updH_ne _ _ (by omega)]; simp
theorem catW_le {W : Nat → List Int} {b : Nat} : ∀ n, (∀ v, v < n → (W v).length ≤ b) → (catW W n).length ≤ n * b
  | 0, _ => by simp [catW]
  | n + 1, h => by
    have h1 := catW_le n fun v hv => h v (by omega)
    have h2 := h n (by omega)
    show (catW W n ++ W n).length ≤ (n + 1) * b
    rw [List.length_append, Nat.add_mul, Nat.one_mul]; omega
section
variable {B : Nat → Prop} {w w' : World} {x : Hx} {T : HTr} {bud : Int} {s s' : Ar} {m : Hm}
theorem HmFx.mv (f : HmFx B x T) {i : Nat} (h : B i) : i ∉ mvL x T := fun hm => f.nm i hm h
theorem HmFx.qbm (_ : HmFx B x T) {v : Nat} (hv : v < T.np) : x.qb v ∈ mvL x T := List.mem_append_right _ (List.mem_map.2 ⟨v, List.mem_range.2 hv, rfl⟩)
theorem HmFx.lm (f : HmFx B x T) {i : Nat} (h : B i) : i ≠ x.a ∧ i ≠ x.g ∧ i ≠ x.q ∧ ∀ v, v < T.np → i ≠ x.qb v := by
  have := f.mv h
  refine ⟨fun e => this (by simp [mvL, e]), fun e => this (by simp [mvL, e]), fun e => this (by simp [mvL, e]), fun v hv e => this (by rw [e]; exact f.qbm hv)⟩
theorem HmIs.turns {S : List Nat} (h : HmIs B w x T bud s m) (k : Turns S w w') (h1 : ∀ i ∈ S, ¬ B i) (h2 : ∀ i ∈ S, i ∉ mvL x T) : HmIs B w' x T bud s m := by
  have hB : ∀ i, B i → i ∉ S := fun i hb hm => h1 i hm hb
  have hM : ∀ i, i ∈ mvL x T → i ∉ S := fun i hb hm => h2 i hm hb
  exact ⟨h.fx, h.ar.turns k (hM _ (by simp [mvL])) (hM _ (by simp [mvL])), h.cat, h.wl, k.blk h.lk (hB _ h.fx.bl), h.sn, h.ss.turns k (hM _ (by simp [mvL])), fun v hv => k.blk (h.rk v hv) (hB _ (h.fx.bb v hv)), h.rn, fun v hv => (h.rs v hv).turns k (hM _ (h.fx.qbm hv)),
    fun v hv => k.cell (h.cR v hv) (hB _ h.fx.br), fun t ht => k.cell (h.cL t ht) (hB _ h.fx.bL), fun t i ht hi => k.cell (h.cP t i ht hi) (hB _ (h.fx.bu t ht)), fun t i ht hi => k.cell (h.cS t i ht hi) (hB _ (h.fx.bu t ht)), fun i hb => Nat.lt_of_lt_of_le (h.bd i hb) k.size⟩
theorem HmIs.below (h : HmIs B w x T bud s m) (k : Below w.heap.size w w') : HmIs B w' x T bud s m := h.turns (S := []) (Turns.of_below k) (by simp) (by simp)
/-- the next new block is none of its own -/
theorem HmIs.new (h : HmIs B w x T bud s m) : ¬ B w.heap.size ∧ w.heap.size ∉ mvL x T := by
  refine ⟨fun hb => absurd (h.bd _ hb) (Nat.lt_irrefl _), fun hm => ?_⟩
  unfold mvL at hm
  have h1 := h.ar.blk.lt
  have h2 := h.ar.wds.lt
  have h3 := h.ss.lt
  rcases List.mem_append.1 hm with hm | hm
  · simp at hm; omega
  · obtain ⟨v, hv, e⟩ := List.mem_map.1 hm
    have := (h.rs v (List.mem_range.1 hv)).lt
    omega
/-- a place's rung -/
theorem HmIs.rg (h : HmIs B w x T bud s m) {v : Nat} (hv : v < T.np) : RgIs w (x.lb v) x.a x.g (x.qb v) ((catW m.W v).length + 1) ⟨s, m.P v⟩ := by
  have f := h.fx
  obtain ⟨e1, e2, e3, e4⟩ := f.lm (f.bb v hv)
  exact ⟨h.ar, h.rk v hv, h.rs v hv, e1, e2, e4 v hv, f.va v hv, f.vg v hv, by show (m.P v).length ≤ 32; rw [h.rn v hv]; exact f.v32 v hv⟩
/-- the rung has turned -/
theorem HmIs.rgTurn (h : HmIs B w x T bud s m) {v : Nat} (hv : v < T.np) {X : List Int} {P' : List Sp} (hr : RgIs w' (x.lb v) x.a x.g (x.qb v) ((catW m.W v).length + 1) ⟨s', P'⟩) (hc : s'.W = catW (updH m.W v X) T.np) (hX : X.length = 2 * T.nv v + 1) (hP : P'.length = T.nv v) (k : Turns [x.a, x.g, x.qb v] w w') :
    HmIs B w' x T bud s' { m with W := updH m.W v X, P := updH m.P v P' } := by
  have f := h.fx
  have hB : ∀ i, B i → i ∉ [x.a, x.g, x.qb v] := fun i hb => by
    obtain ⟨e1, e2, e3, e4⟩ := f.lm hb
    simp [e1, e2, e4 v hv]
  have hq : x.q ∉ [x.a, x.g, x.qb v] := by simp only [List.mem_cons, List.not_mem_nil, or_false, not_or]; exact ⟨f.qa, f.qg, fun e => f.vq v hv e.symm⟩
  have hl : ∀ u, (catW (updH m.W v X) u).length = (catW m.W u).length := fun u => catW_len u fun y _ => by
    by_cases e : y = v
    · subst e; rw [updH_eq, hX, h.wl y hv]
    · rw [updH_ne _ _ e]
  refine ⟨f, hr.ar, hc, fun u hu => ?_, k.blk h.lk (hB _ f.bl), h.sn, h.ss.turns k hq, fun u hu => ?_, fun u hu => ?_, fun u hu => ?_,
    fun u hu => k.cell (h.cR u hu) (hB _ f.br), fun t ht => k.cell (h.cL t ht) (hB _ f.bL), fun t i ht hi => k.cell (h.cP t i ht hi) (hB _ (f.bu t ht)), fun t i ht hi => k.cell (h.cS t i ht hi) (hB _ (f.bu t ht)), fun i hb => Nat.lt_of_lt_of_le (h.bd i hb) k.size⟩
  · show (updH m.W v X u).length = _
    by_cases e : u = v
    · subst e; rw [updH_eq]; exact hX
    · rw [updH_ne _ _ e]; exact h.wl u hu
  · show Blk w' (x.lb u) _ #[_, .int .i64 ((catW (updH m.W v X) u).length + 1), .slice _ (updH m.P v P' u).length (updH m.P v P' u).length]
    rw [hl u]
    by_cases e : u = v
    · subst e; rw [updH_eq]; exact hr.lk
    · rw [updH_ne _ _ e]; exact k.blk (h.rk u hu) (hB _ (f.bb u hu))
  · show (updH m.P v P' u).length = _
    by_cases e : u = v
    · subst e; rw [updH_eq]; exact hP
    · rw [updH_ne _ _ e]; exact h.rn u hu
  · show SpIs w' (x.qb u) (updH m.P v P' u)
    by_cases e : u = v
    · subst e; rw [updH_eq]; exact hr.sp
    · rw [updH_ne _ _ e]
      exact (h.rs u hu).turns k (by simp only [List.mem_cons, List.not_mem_nil, or_false, not_or]; exact ⟨f.va u hu, f.vg u hu, fun e' => e (f.inj u v hu hv e')⟩)
/-- a thread's spot has turned -/
theorem HmIs.spTurn (h : HmIs B w x T bud s m) {S' : List Sp} (hs : SpIs w' x.q S') (hl : S'.length = T.n) (k : Turns [x.q] w w') : HmIs B w' x T bud s { m with S := S' } := by
  have f := h.fx
  have hB : ∀ i, B i → i ∉ [x.q] := fun i hb => by simp [(f.lm hb).2.2.1]
  exact ⟨f, h.ar.turns k (by simpa using fun e => f.qa e.symm) (by simpa using fun e => f.qg e.symm), h.cat, h.wl, k.blk h.lk (hB _ f.bl), hl, hs, fun v hv => k.blk (h.rk v hv) (hB _ (f.bb v hv)), h.rn, fun v hv => (h.rs v hv).turns k (by simpa using f.vq v hv),
    fun v hv => k.cell (h.cR v hv) (hB _ f.br), fun t ht => k.cell (h.cL t ht) (hB _ f.bL), fun t i ht hi => k.cell (h.cP t i ht hi) (hB _ (f.bu t ht)), fun t i ht hi => k.cell (h.cS t i ht hi) (hB _ (f.bu t ht)), fun i hb => Nat.lt_of_lt_of_le (h.bd i hb) k.size⟩
theorem HmIs.l0 (k : HmIs B w x T bud s m) : w.cell? ⟨x.l, 0, none⟩ = some (.int .i64 bud) := k.lk.cell 0
theorem HmIs.l1 (k : HmIs B w x T bud s m) : w.cell? ⟨x.l, 1, none⟩ = some (.slice (some ⟨x.bR, x.oR, none⟩) T.np x.kR) := k.lk.cell 1
theorem HmIs.l2 (k : HmIs B w x T bud s m) : w.cell? ⟨x.l, 2, none⟩ = some (.slice (some ⟨x.bL, x.oL, none⟩) T.n x.kL) := k.lk.cell 2
theorem HmIs.l3 (k : HmIs B w x T bud s m) : w.cell? ⟨x.l, 3, none⟩ = some (.slice (some ⟨x.q, 0, none⟩) T.n T.n) := k.lk.cell 3
theorem threadsHm (k : HmIs B w x T bud s m) : Calls Tryz.prog 61 #[.pointer (some ⟨x.l, 0, none⟩)] w fun e w' => e = .returned (.int .i64 T.n) ∧ w = w' := by
  have c5 := k.l3
  clear k
  go_enter Tryz.func61, Tryz.ntmps61
  go_wp2
  go_ret
  exact ⟨rfl, rfl⟩
set_option maxHeartbeats 400000 in
theorem spotHm (k : HmIs B w x T bud s m) (i : Int) :
    Calls Tryz.prog 30 #[.pointer (some ⟨x.l, 0, none⟩), .int .i64 i] w fun e w' => e = .returned (spotV (getS m.S i)) ∧ Below w.heap.size w w' := by
  have HN := k.fx.n32
  have hsl := k.sn
  by_cases hok : okI m.S i
  · have hp := getS_in hok
    obtain ⟨p, hpp⟩ : ∃ p, p = getS m.S i := ⟨_, rfl⟩
    rw [← hpp] at hp ⊢
    have c2 := k.l3
    have a0 := k.ss.cell hp 0 _ rfl
    have a1 := k.ss.cell hp 1 _ rfl
    have a2 := k.ss.cell hp 2 _ rfl
    have a3 := k.ss.cell hp 3 _ rfl
    simp only [Nat.add_zero] at a0
    obtain ⟨h0, h1⟩ := hok
    rw [hsl] at h1
    obtain ⟨n, rfl⟩ := Int.eq_ofNat_of_zero_le h0
    simp only [Int.toNat_natCast] at a0 a1 a2 a3
    have hs1 := k.lk.lt
    have hs2 := k.ss.lt
    have t2 : ¬ (n : Int) < 0 := by omega
    have t3 : ¬ ((T.n : Nat) : Int) ≤ (n : Int) := by omega
    have t4 : n < T.n := by omega
    have H : Hid (HmIs B (w.alloc (.cells #[.int .i64 0, .int .i64 0, .int .i64 0, .int .i64 0] 35)) x T bud s m) := Lib.hid (k.below ((Below.refl _ _).alloc (Nat.le_refl _) _))
    clear k hp hpp h0 h1 hsl
    go_enter Tryz.func30, Tryz.ntmps30
    go_wp2_with (go_at_call 61; refine (threadsHm H.out).mono ?_; rintro e w' ⟨rfl, rfl⟩)
    exact bodyPost_ret (results_cell_row (by rfl) _ _ w.heap.size 35 _ (0, 0) _ (by rfl) (heap_alloc_new w _) Tryz.underlying35 rfl (by kernel_rfl)) rfl ⟨rfl, (Below.refl _ _).alloc (Nat.le_refl _) _⟩
  · have H : Hid (HmIs B (w.alloc (.cells #[.int .i64 0, .int .i64 0, .int .i64 0, .int .i64 0] 35)) x T bud s m) := Lib.hid (k.below ((Below.refl _ _).alloc (Nat.le_refl _) _))
    rw [getS_out hok]
    unfold okI at hok
    rw [hsl] at hok
    clear k hsl
    by_cases h0 : i < 0
    · go_enter Tryz.func30, Tryz.ntmps30
      go_wp2
      exact bodyPost_ret (results_cell_row (by rfl) _ _ w.heap.size 35 _ (0, 0) _ (by rfl) (heap_alloc_new w _) Tryz.underlying35 rfl (by kernel_rfl)) rfl ⟨rfl, (Below.refl _ _).alloc (Nat.le_refl _) _⟩
    · have t3 : ((T.n : Nat) : Int) ≤ i := by omega
      clear hok
      go_enter Tryz.func30, Tryz.ntmps30
      go_wp2_with (go_at_call 61; refine (threadsHm H.out).mono ?_; rintro e w' ⟨rfl, rfl⟩)
      exact bodyPost_ret (results_cell_row (by rfl) _ _ w.heap.size 35 _ (0, 0) _ (by rfl) (heap_alloc_new w _) Tryz.underlying35 rfl (by kernel_rfl)) rfl ⟨rfl, (Below.refl _ _).alloc (Nat.le_refl _) _⟩
end
end Go.Proofs.YtkdaiomjbkpedaaGreat
end
section
/- Layer 27 (hmcs): what the lock does with one of its rungs. -/
namespace Go.Proofs.YtkdaiomjbkpedaaGreat
open Go.RowKit

theorem updH_self {α : Type} (f : Nat → α) (v : Nat) : updH f v (f v) = f := by
  funext u; unfold updH; split
  · rename_i h; rw [h]
  · rfl
theorem getS_svH {S : List Sp} {j : Nat} (h : j < S.length) : getS S (j : Int) = sv S j := by
  unfold getS sv; rw [if_pos (by omega), Int.toNat_natCast]
theorem sv_getH {S : List Sp} {j : Nat} (h : j < S.length) : S[j]? = some (sv S j) := by
  unfold sv; rw [List.getD_eq_getElem?_getD, List.getElem?_eq_getElem h]; rfl
section
variable {B : Nat → Prop} {w w' : World} {x : Hx} {T : HTr} {bud : Int} {s s' : Ar} {m : Hm} {v j : Nat}
theorem turns_mv {S : List Nat} {x : Hx} {T : HTr} (k : Turns S w w') (h : ∀ i ∈ S, i ∈ mvL x T) : Turns (mvL x T) w w' := k.mono h
theorem HmIs.sub1 (h : HmIs B w x T bud s m) (hv : v < T.np) : ∀ i ∈ [x.qb v], i ∈ mvL x T := by
  intro i hi; simp only [List.mem_cons, List.not_mem_nil, or_false] at hi; rw [hi]; exact h.fx.qbm hv
theorem HmIs.sub3 (h : HmIs B w x T bud s m) (hv : v < T.np) : ∀ i ∈ [x.a, x.g, x.qb v], i ∈ mvL x T := by
  intro i hi; simp only [List.mem_cons, List.not_mem_nil, or_false] at hi
  rcases hi with rfl | rfl | rfl
  · simp [mvL]
  · simp [mvL]
  · exact h.fx.qbm hv
theorem HmIs.spot1 (h : HmIs B w x T bud s m) (hv : v < T.np) (hj : j < T.nv v) : Calls Tryz.prog 63 #[.pointer (some ⟨x.lb v, 0, none⟩), .int .i64 j] w fun e w' => e = .returned (spotV (m.sp v j)) ∧ Below w.heap.size w w' := by
  have e : getS (m.P v) (j : Int) = m.sp v j := getS_svH (by rw [h.rn v hv]; exact hj)
  rw [← e]
  exact spot_any (h.rg hv) j
theorem HmIs.slots1 (h : HmIs B w x T bud s m) (hv : v < T.np) : Calls Tryz.prog 67 #[.pointer (some ⟨x.lb v, 0, none⟩)] w fun e w' => e = .returned (.int .i64 (T.nv v)) ∧ w = w' := by
  have := slots_any (h.rg hv)
  rw [show (⟨s, m.P v⟩ : Rg).S.length = T.nv v from h.rn v hv] at this
  exact this
theorem HmIs.put1 (h : HmIs B w x T bud s m) (hv : v < T.np) {P' : List Sp} (hr : RgIs w' (x.lb v) x.a x.g (x.qb v) ((catW m.W v).length + 1) ⟨s, P'⟩) (hP : P'.length = T.nv v) (k : Turns [x.qb v] w w') : HmIs B w' x T bud s { m with P := updH m.P v P' } := by
  have := h.rgTurn hv (X := m.W v) hr (by rw [updH_self]; exact h.cat) (h.wl v hv) hP (k.mono (by simp))
  rw [updH_self] at this
  exact this
def H1 (B : Nat → Prop) (w : World) (x : Hx) (T : HTr) (bud : Int) (s : Ar) (m' : Hm) (e : Ending) (w' : World) : Prop := ∃ b, e = .returned (.bool b) ∧ HmIs B w' x T bud s m' ∧ Turns (mvL x T) w w'
theorem HmIs.ask1 (h : HmIs B w x T bud s m) (hv : v < T.np) (hj : j < T.nv v) : Calls Tryz.prog 109 #[.pointer (some ⟨x.lb v, 0, none⟩), .int .i64 j] w (H1 B w x T bud s (askH m v j)) := by
  have hl := h.rn v hv
  have hjl : j < (m.P v).length := by omega
  refine (ask_any (h.rg hv) j).mono ?_
  rintro e w' ⟨rfl, hr, t⟩
  refine ⟨_, rfl, ?_, t.mono (h.sub1 hv)⟩
  unfold askH
  have e : getS (m.P v) (j : Int) = m.sp v j := getS_svH hjl
  unfold beginRg at hr
  simp only [e] at hr
  by_cases c : (m.sp v j).pc = 0
  · rw [if_pos ⟨⟨by omega, by show ((j : Nat) : Int) < (m.P v).length; omega⟩, c⟩] at hr
    rw [if_pos c]
    exact h.put1 hv hr (by simp [hl]) t
  · rw [if_neg (fun h => c h.2)] at hr
    rw [if_neg c]
    have := h.put1 hv hr hl t
    rw [updH_self] at this
    exact this
theorem HmIs.wth0 (h : HmIs B w x T bud s m) (hv : v < T.np) (hj : j < T.nv v) (u c : Int) {w' : World} (hr : RgIs w' (x.lb v) x.a x.g (x.qb v) ((catW m.W v).length + 1) (withRg ⟨s, m.P v⟩ j u c).1) (t : Turns [x.qb v] w w') : HmIs B w' x T bud s (wthH m v j u c) := by
  have hl := h.rn v hv
  have hjl : j < (m.P v).length := by omega
  unfold wthH
  have e : getS (m.P v) (j : Int) = m.sp v j := getS_svH hjl
  unfold withRg at hr
  simp only [e] at hr
  by_cases cc : (m.sp v j).pc = 10
  · rw [if_pos ⟨⟨by omega, by show ((j : Nat) : Int) < (m.P v).length; omega⟩, cc⟩] at hr
    rw [if_pos cc]
    exact h.put1 hv hr (by simp [hl]) t
  · rw [if_neg (fun h => cc h.2)] at hr
    rw [if_neg cc]
    have := h.put1 hv hr hl t
    rw [updH_self] at this
    exact this
theorem HmIs.leave1 (h : HmIs B w x T bud s m) (hv : v < T.np) (hj : j < T.nv v) (c : Int) : Calls Tryz.prog 112 #[.pointer (some ⟨x.lb v, 0, none⟩), .int .i64 j, .int .i64 c] w (H1 B w x T bud s (wthH m v j 11 c)) :=
  (leave_any (h.rg hv) j c).mono fun _ _ ⟨e, hr, t⟩ => ⟨_, e, h.wth0 hv hj 11 c hr t, t.mono (h.sub1 hv)⟩
theorem HmIs.pass1 (h : HmIs B w x T bud s m) (hv : v < T.np) (hj : j < T.nv v) (c : Int) : Calls Tryz.prog 113 #[.pointer (some ⟨x.lb v, 0, none⟩), .int .i64 j, .int .i64 c] w (H1 B w x T bud s (wthH m v j 15 c)) :=
  (pass_any (h.rg hv) j c).mono fun _ _ ⟨e, hr, t⟩ => ⟨_, e, h.wth0 hv hj 15 c hr t, t.mono (h.sub1 hv)⟩
theorem RInv.pcs {n : Nat} {W : List Int} {S : List Sp} {Q : List Nat} (r : RInv n W S Q) : ∀ p ∈ S, pcOk p := by
  intro p hp
  obtain ⟨i, hi⟩ := List.getElem?_of_mem hp
  have hil : i < S.length := (List.getElem?_eq_some_iff.1 hi).1
  have e : sv S i = p := by rw [sv_getH hil] at hi; injection hi
  have hin : i < n := by rw [← r.sl]; exact hil
  rw [← e]
  unfold pcOk
  by_cases hQ : i ∈ Q
  · rcases r.toQInv.inq hQ with ⟨_, h⟩ | ⟨_, _, _, _, _, h⟩
    · omega
    · rcases h with h | h
      · have := h.1; omega
      · have := h.1; omega
  · have := (r.out i hin hQ).1; omega
theorem stepP_len (s : Ar) (t y : Int) (p : Sp) : (stepP s t y p).1.W.length = s.W.length := by
  unfold stepP
  split
  · unfold inR26
    repeat' split
    all_goals simp only [storeA_W, swapA_W, loadA_W, stW_len]
  · unfold outR26
    repeat' split
    all_goals simp only [storeA_W, casA_W, loadA_W, stW_len]
    all_goals (try split) <;> simp only [stW_len]
/-- a step of one of its rungs -/
def S1 (B : Nat → Prop) (w : World) (x : Hx) (T : HTr) (bud : Int) (s : Ar) (m' : Hm) (b : Bool) (e : Ending) (w' : World) : Prop := e = .returned (.bool b) ∧ ∃ s', HmIs B w' x T bud s' m' ∧ s'.ops ≤ s.ops + 1 ∧ Turns (mvL x T) w w'
theorem HmIs.step1 (h : HmIs B w x T bud s m) (hv : v < T.np) (hj : j < T.nv v) {Q : List Nat} (hr : RInv (T.nv v) (m.W v) (m.P v) Q) (ho : s.ops + 1 ≤ 1000000000000) :
    Calls Tryz.prog 62 #[.pointer (some ⟨x.lb v, 0, none⟩), .int .i64 j] w
      (S1 B w x T bud s (if (m.sp v j).pc = 0 ∨ (m.sp v j).pc = 10 then m else rstH m v j) (if (m.sp v j).pc = 0 ∨ (m.sp v j).pc = 10 then false else decide (((rstH m v j).sp v j).pc = 0 ∨ ((rstH m v j).sp v j).pc = 10))) := by
  have hl := h.rn v hv
  have hjl : j < (m.P v).length := by omega
  have e0 : getS (m.P v) (j : Int) = m.sp v j := getS_svH hjl
  refine (step_any (h.rg hv) j ho hr.pcs).mono ?_
  rintro e w' ⟨rfl, hg, t⟩
  unfold stepRg at hg ⊢
  simp only [e0] at hg ⊢
  by_cases c : (m.sp v j).pc = 0 ∨ (m.sp v j).pc = 10
  · rw [if_pos c, if_pos c]
    have nc : ¬ (okI (m.P v) (j : Int) ∧ (m.sp v j).pc ≠ 0 ∧ (m.sp v j).pc ≠ 10) := fun h => by
      rcases c with c | c
      · exact h.2.1 c
      · exact h.2.2 c
    rw [if_neg nc] at hg ⊢
    refine ⟨rfl, s, ?_, by omega, t.mono (h.sub3 hv)⟩
    have := h.rgTurn hv (X := m.W v) hg (by rw [updH_self]; exact h.cat) (h.wl v hv) hl t
    rw [updH_self, updH_self] at this
    exact this
  · rw [if_neg c, if_neg c]
    have nc : okI (m.P v) (j : Int) ∧ (m.sp v j).pc ≠ 0 ∧ (m.sp v j).pc ≠ 10 := ⟨⟨by omega, by omega⟩, fun e => c (.inl e), fun e => c (.inr e)⟩
    rw [if_pos nc] at hg ⊢
    simp only [Int.toNat_natCast] at hg
    obtain ⟨C, h1, h2⟩ := catW_split m.W v (T.np - (v + 1))
    rw [show v + 1 + (T.np - (v + 1)) = T.np by omega] at h1 h2
    have hA : (catW m.W v).length ≤ 5000 := by
      have f := h.fx
      have := catW_le (W := m.W) (b := 65) v fun u hu => by have := h.wl u (by omega); have := f.v32 u (by omega); omega
      have := f.p32
      omega
    have hq := hr.toQInv.reach hj
    have hsp : (m.sp v j) = sv (m.P v) j := rfl
    obtain ⟨g1, g2⟩ := stepP_win (s := s) (A := catW m.W v) (W := m.W v) (C := C) (n := T.nv v) (h.cat.trans h1) (h.wl v hv) (h.fx.v32 v hv) hA (x := (j : Int) + 1) ⟨by omega, by omega⟩ (p := m.sp v j) hq.1 hq.2
    rw [g2] at hg ⊢
    have hs : (rstH m v j).sp v j = (stepP (arW (m.W v)) 1 ((j : Int) + 1) (m.sp v j)).2 := by
      unfold Hm.sp rstH
      show sv (updH m.P v _ v) j = _
      rw [updH_eq, sv_set, if_pos ⟨rfl, hjl⟩]
      rfl
    rw [hs]
    refine ⟨rfl, (stepP s (((catW m.W v).length : Nat) + 1) ((j : Int) + 1) (m.sp v j)).1, ?_, stepP_ops s _ _ _, t.mono (h.sub3 hv)⟩
    exact h.rgTurn hv hg (by rw [g1, h2]) (by rw [stepP_len]; exact h.wl v hv) (by simp [hl]) t
end
end Go.Proofs.YtkdaiomjbkpedaaGreat
end
section
/- Layer 27 (hmcs): Count, Ask. -/
namespace Go.Proofs.YtkdaiomjbkpedaaGreat
open Go.RowKit

section
variable {B : Nat → Prop} {w w' : World} {x : Hx} {T : HTr} {bud : Int} {s s' : Ar} {m : Hm}
def askI (T : HTr) (m : Hm) (i : Int) : Hm := if okI m.S i then askHm T m i.toNat else m
/-- of a thread's spot the cells -/
theorem HmIs.sc (h : HmIs B w x T bud s m) {n : Nat} {p : Sp} (hp : m.S[n]? = some p) : w.cell? ⟨x.q, n * 4, none⟩ = some (.int .i64 p.pc) ∧ w.cell? ⟨x.q, n * 4 + 1, none⟩ = some (.int .i64 p.a) ∧ w.cell? ⟨x.q, n * 4 + 2, none⟩ = some (.int .i64 p.b) ∧ w.cell? ⟨x.q, n * 4 + 3, none⟩ = some (.int .i64 p.c) := by
  have a0 := h.ss.cell hp 0 _ rfl
  simp only [Nat.add_zero] at a0
  exact ⟨a0, h.ss.cell hp 1 _ rfl, h.ss.cell hp 2 _ rfl, h.ss.cell hp 3 _ rfl⟩
/-- a thread's spot is written -/
theorem HmIs.put4 (h : HmIs B w x T bud s m) {n : Nat} (hn : n < T.n) (p' : Sp) : HmIs B ((((w.setCell ⟨x.q, n * 4, none⟩ (.int .i64 p'.pc)).setCell ⟨x.q, n * 4 + 1, none⟩ (.int .i64 p'.a)).setCell ⟨x.q, n * 4 + 2, none⟩ (.int .i64 p'.b)).setCell ⟨x.q, n * 4 + 3, none⟩ (.int .i64 p'.c)) x T bud s (m.thr n p') := by
  have hl : n < m.S.length := by rw [h.sn]; exact hn
  have hp := sv_getH hl
  obtain ⟨p, e⟩ : ∃ p, p = sv m.S n := ⟨_, rfl⟩
  rw [← e] at hp
  have g : ∀ (S : List Sp) (y : Sp), n < S.length → (S.set n y)[n]? = some y := fun S y h => by simp [h]
  have h1 := h.ss.put hp (j := 0) (u := .int .i64 p'.pc) (p' := ⟨p'.pc, p.a, p.b, p.c⟩) (by decide) rfl
  have h2 := h1.put (g _ _ hl) (j := 1) (u := .int .i64 p'.a) (p' := ⟨p'.pc, p'.a, p.b, p.c⟩) (by decide) rfl
  have h3 := h2.put (g _ _ (by simpa using hl)) (j := 2) (u := .int .i64 p'.b) (p' := ⟨p'.pc, p'.a, p'.b, p.c⟩) (by decide) rfl
  have h4 := h3.put (g _ _ (by simpa using hl)) (j := 3) (u := .int .i64 p'.c) (p' := p') (by decide) rfl
  simp only [List.set_set, Nat.add_zero] at h4
  have t : Turns [x.q] w ((((w.setCell ⟨x.q, n * 4, none⟩ (.int .i64 p'.pc)).setCell ⟨x.q, n * 4 + 1, none⟩ (.int .i64 p'.a)).setCell ⟨x.q, n * 4 + 2, none⟩ (.int .i64 p'.b)).setCell ⟨x.q, n * 4 + 3, none⟩ (.int .i64 p'.c)) :=
    ((((Turns.refl _ w).setCell (.inl (by simp)) _).setCell (.inl (by simp)) _).setCell (.inl (by simp)) _).setCell (.inl (by simp)) _
  exact h.spTurn h4 (by simp [h.sn]) t
theorem turns_qH {S : List Nat} {q : Nat} (k : Turns S w w') (hq : q ∈ S) (i : Nat) (u : Value) : Turns S w (w'.setCell ⟨q, i, none⟩ u) := k.setCell (.inl hq) _
theorem q_mv (x : Hx) (T : HTr) : x.q ∈ mvL x T := by simp [mvL]
theorem HmIs.alloc (k : HmIs B w x T bud s m) (o : Obj) : HmIs B (w.alloc o) x T bud s m := k.below ((Below.refl _ _).alloc (Nat.le_refl _) _)
theorem HmIs.drew (k : HmIs B w x T bud s m) : HmIs B w.drew x T bud s m := k.below ((Below.refl _ _).drew)
def AskD (B : Nat → Prop) (w : World) (x : Hx) (T : HTr) (bud : Int) (s : Ar) (m : Hm) (i : Int) (e : Ending) (w' : World) : Prop := e = .returned (.bool (decide (okI m.S i ∧ (getS m.S i).pc = 0))) ∧ HmIs B w' x T bud s (askI T m i) ∧ Turns (mvL x T) w w'
set_option maxHeartbeats 1000000 in
theorem askHw (k : HmIs B w x T bud s m) (hT : T.Ok) (i : Int) : Calls Tryz.prog 59 #[.pointer (some ⟨x.l, 0, none⟩), .int .i64 i] w (AskD B w x T bud s m i) := by
  have H := Lib.hid k
  have HN := k.fx.n32
  have hsl := k.sn
  have hd := hT.d1
  have hd5 := k.fx.d5
  by_cases hok : okI m.S i
  · have hp := getS_in hok
    obtain ⟨p, hpp⟩ : ∃ p, p = getS m.S i := ⟨_, rfl⟩
    rw [← hpp] at hp
    have c2 := k.l3
    have a0 := k.ss.cell hp 0 _ rfl
    simp only [Nat.add_zero] at a0
    obtain ⟨h0, h1⟩ := id hok
    rw [hsl] at h1
    obtain ⟨n, rfl⟩ := Int.eq_ofNat_of_zero_le h0
    simp only [Int.toNat_natCast] at a0 hp
    have t2 : ¬ (n : Int) < 0 := by omega
    have t3 : ¬ ((T.n : Nat) : Int) ≤ (n : Int) := by omega
    have t4 : n < T.n := by omega
    have hs1 := k.lk.lt
    have hs2 := k.ss.lt
    by_cases h0 : p.pc = 0
    · have y0 : (p.pc == 0) = true := by simpa using h0
      have y1 : (p.pc != 0) = false := by simpa using h0
      have cl2 := k.l2
      have cL := k.cL n t4
      have cP := k.cP n 0 t4 (by omega)
      have cS := k.cS n 0 t4 (by omega)
      simp only [Nat.zero_mul, Nat.add_zero] at cP cS
      have g1 : (0 : Int) < T.D := by omega
      have g2 : 0 < T.D := by omega
      have HA : Hid (askI T m n = (askH m (T.pl n 0) (T.sl n 0)).thr n ⟨1, 0, 0, 0⟩) := Lib.hid (by
        unfold askI askHm
        rw [if_pos hok, Int.toNat_natCast, ← getS_svH (by omega), ← hpp, if_pos h0])
      have HR : Hid (decide (okI m.S n ∧ (getS m.S n).pc = 0) = true) := Lib.hid (decide_eq_true ⟨hok, by rw [← hpp]; exact h0⟩)
      have HV := Lib.hid (And.intro (hT.plt n 0 t4 (by omega)) (hT.slt n 0 t4 (by omega)))
      have HPP := Lib.hid hp
      clear k hp hpp h0 h1 hok
      go_enter Tryz.func59, Tryz.ntmps59
      go_wp2_with (go_at_call 61; refine (threadsHm H.out).mono ?_; rintro e w' ⟨rfl, rfl⟩)
      refine ((H.out.alloc _).ask1 HV.out.1 HV.out.2).mono ?_
      rintro en w1 ⟨b, rfl, h1, t1⟩
      have c2 := h1.l3
      have f1 : ∀ j, w1.frozen? ⟨x.q, j, none⟩ = false := fun j => h1.ss.free j
      obtain ⟨b0, b1, b2, b3⟩ := h1.sc (n := n) (p := p) (by rw [askH_S]; exact HPP.out)
      have H1 := Lib.hid (And.intro h1 (Turns.trans ((Turns.refl _ w).alloc _) t1))
      have hs2 := h1.ss.lt
      clear h1 t1
      go_wp2
      go_ret
      unfold AskD
      rw [HR.out, HA.out]
      exact ⟨rfl, H1.out.1.put4 t4 ⟨1, 0, 0, 0⟩, turns_qH (turns_qH (turns_qH (turns_qH H1.out.2 (q_mv x T) _ _) (q_mv x T) _ _) (q_mv x T) _ _) (q_mv x T) _ _⟩
    · have y1 : (p.pc != 0) = true := by simpa using h0
      have HA : Hid (askI T m n = m) := Lib.hid (by
        unfold askI askHm
        rw [if_pos hok, Int.toNat_natCast, ← getS_svH (by omega), ← hpp, if_neg h0])
      have HR : Hid (decide (okI m.S n ∧ (getS m.S n).pc = 0) = false) := Lib.hid (decide_eq_false fun h => h0 (by rw [hpp]; exact h.2))
      clear k hp hpp h0 h1 hok
      go_enter Tryz.func59, Tryz.ntmps59
      go_wp2_with (go_at_call 61; refine (threadsHm H.out).mono ?_; rintro e w' ⟨rfl, rfl⟩)
      go_ret
      unfold AskD
      rw [HR.out, HA.out]
      exact ⟨rfl, H.out, Turns.refl _ _⟩
  · have HA : Hid (askI T m i = m) := Lib.hid (by unfold askI; rw [if_neg hok])
    have HR : Hid (decide (okI m.S i ∧ (getS m.S i).pc = 0) = false) := Lib.hid (decide_eq_false fun h => hok h.1)
    unfold okI at hok
    rw [hsl] at hok
    clear k
    by_cases h0 : i < 0
    · go_enter Tryz.func59, Tryz.ntmps59
      go_wp2
      go_ret
      unfold AskD
      rw [HR.out, HA.out]
      exact ⟨rfl, H.out, Turns.refl _ _⟩
    · have t3 : ((T.n : Nat) : Int) ≤ i := by omega
      clear hok
      go_enter Tryz.func59, Tryz.ntmps59
      go_wp2_with (go_at_call 61; refine (threadsHm H.out).mono ?_; rintro e w' ⟨rfl, rfl⟩)
      go_ret
      unfold AskD
      rw [HR.out, HA.out]
      exact ⟨rfl, H.out, Turns.refl _ _⟩
end
end Go.Proofs.YtkdaiomjbkpedaaGreat
end
section
/- Layer 27 (hmcs): Held, Count. -/
namespace Go.Proofs.YtkdaiomjbkpedaaGreat
open Go.RowKit

section
variable {B : Nat → Prop} {w w' : World} {x : Hx} {T : HTr} {bud : Int} {s s' : Ar} {m : Hm}
def holdP (p : Sp) : Prop := p.pc = 10 ∨ p.pc = 15 ∨ p.pc = 16
def HeldD (w : World) (T : HTr) (m : Hm) (v : Int) (e : Ending) (w' : World) : Prop := ∃ b, e = .returned (.bool b) ∧ (b = true ↔ 0 ≤ v ∧ v < T.np ∧ ∃ j, j < T.nv v.toNat ∧ holdP (m.sp v.toNat j)) ∧ Below w.heap.size w w'
set_option maxRecDepth 100000 in
set_option maxHeartbeats 1000000 in
theorem heldHw (k : HmIs B w x T bud s m) (i : Int) : Calls Tryz.prog 31 #[.pointer (some ⟨x.l, 0, none⟩), .int .i64 i] w (HeldD w T m i) := by
  have H := Lib.hid k
  have HN := k.fx.p32
  have hfield := field_pc
  have hs1 := k.lk.lt
  have c1 := k.l1
  by_cases h0 : i < 0
  · have HR : Hid (HeldD w T m i (.returned (.bool false)) w) := Lib.hid ⟨false, rfl, ⟨fun h => (by cases h), fun h => absurd h.1 (by omega)⟩, Below.refl _ _⟩
    clear k
    go_enter Tryz.func31, Tryz.ntmps31
    go_wp2
    go_ret
    exact HR.out
  · by_cases h1 : ((T.np : Nat) : Int) ≤ i
    · have HR : Hid (HeldD w T m i (.returned (.bool false)) w) := Lib.hid ⟨false, rfl, ⟨fun h => (by cases h), fun h => absurd h.2.1 (by omega)⟩, Below.refl _ _⟩
      clear k
      go_enter Tryz.func31, Tryz.ntmps31
      go_wp2
      go_ret
      exact HR.out
    · obtain ⟨v, rfl⟩ := Int.eq_ofNat_of_zero_le (show 0 ≤ i by omega)
      have hv : v < T.np := by omega
      have cR := k.cR v hv
      have hv32 := k.fx.v32 v hv
      have HR : Hid (∀ b w', (b = true ↔ ∃ j, j < T.nv v ∧ holdP (m.sp v j)) → Below w.heap.size w w' → HeldD w T m v (.returned (.bool b)) w') := Lib.hid fun b w' hb k => ⟨b, rfl, by rw [hb, Int.toNat_natCast]; exact ⟨fun h => ⟨by omega, by omega, h⟩, fun h => h.2.2⟩, k⟩
      clear k
      go_enter Tryz.func31, Tryz.ntmps31
      go_wp2_with (go_at_call 67; refine (H.out.slots1 hv).mono ?_; rintro e w' ⟨rfl, rfl⟩)
      go_loopw [32] (fun c wr => ∃ k : Nat, c = .int .i64 k ∧ k ≤ T.nv v ∧ HmIs B wr x T bud s m ∧ Below w.heap.size w wr ∧ ∀ j, j < k → ¬ holdP (m.sp v j)) (fun c _ => T.nv v - (intOf c).toNat)
      case atStart => exact ⟨0, rfl, by omega, H.out, Below.refl _ _, fun j hj => absurd hj (Nat.not_lt_zero _)⟩
      case round =>
        obtain ⟨k, rfl, hk, hI, hb, hn⟩ := hrel
        have HW := Lib.hid (And.intro hI (And.intro hb hn))
        clear hI hb hn
        by_cases hlt : k < T.nv v
        · obtain ⟨p, hp⟩ : ∃ p, p = m.sp v k := ⟨_, rfl⟩
          have HP := Lib.hid hp
          by_cases hh : holdP p
          · have HY := Lib.hid (HR.out true)
            have HE : Hid (∃ j, j < T.nv v ∧ holdP (m.sp v j)) := Lib.hid ⟨k, hlt, by rw [← hp]; exact hh⟩
            clear hp
            go_wp2_with fail
            refine (HW.out.1.spot1 hv hlt).mono ?_
            rintro en w1 ⟨rfl, b1⟩
            rw [← HP.out]
            unfold spotV
            have HB := Lib.hid (HW.out.2.1.trans (b1.mono HW.out.2.1.size))
            clear b1
            rcases hh with e | e | e
            · have y : (p.pc == 10) = true := by rw [e]; rfl
              go_wp2
              go_ret
              exact HY.out _ (by simpa using HE.out) HB.out
            · have y1 : (p.pc == 10) = false := by rw [e]; rfl
              have y : (p.pc == 15) = true := by rw [e]; rfl
              go_wp2
              go_ret
              exact HY.out _ (by simpa using HE.out) HB.out
            · have y1 : (p.pc == 10) = false := by rw [e]; rfl
              have y2 : (p.pc == 15) = false := by rw [e]; rfl
              have y : (p.pc == 16) = true := by rw [e]; rfl
              go_wp2
              go_ret
              exact HY.out _ (by simpa using HE.out) HB.out
          · have y1 : (p.pc == 10) = false := by simpa using fun e => hh (.inl e)
            have y2 : (p.pc == 15) = false := by simpa using fun e => hh (.inr (.inl e))
            have y3 : (p.pc == 16) = false := by simpa using fun e => hh (.inr (.inr e))
            have HNo : Hid (∀ j, j < k + 1 → ¬ holdP (m.sp v j)) := Lib.hid fun j hj => by
              by_cases e : j = k
              · subst e; rw [← hp]; exact hh
              · exact HW.out.2.2 j (by omega)
            clear hp hh
            go_wp2_with fail
            refine (HW.out.1.spot1 hv hlt).mono ?_
            rintro en w1 ⟨rfl, b1⟩
            rw [← HP.out]
            unfold spotV
            have HB := Lib.hid (And.intro (HW.out.1.below b1) (HW.out.2.1.trans (b1.mono HW.out.2.1.size)))
            clear b1
            go_wp2
            go_roundw
            case rel => exact ⟨k + 1, by go_num, by omega, HB.out.1, HB.out.2, HNo.out⟩
            case measure => simp [intOf]; omega
        · obtain rfl : k = T.nv v := by omega
          go_wp2
          go_ret
          refine HR.out _ _ ⟨fun h => (by cases h), fun ⟨j, hj, hh⟩ => absurd hh (HW.out.2.2 j hj)⟩ HW.out.2.1
end
end Go.Proofs.YtkdaiomjbkpedaaGreat
end
section
/- Layer 27 (hmcs): down, come. -/
namespace Go.Proofs.YtkdaiomjbkpedaaGreat
open Go.RowKit

section
variable {B : Nat → Prop} {w w' : World} {x : Hx} {T : HTr} {bud : Int} {s s' : Ar} {m : Hm}
theorem wthH_thr (m : Hm) (v j n : Nat) (u c : Int) (p : Sp) : wthH (m.thr n p) v j u c = (wthH m v j u c).thr n p := by
  unfold wthH
  have e : (m.thr n p).sp v j = m.sp v j := rfl
  rw [e]
  split <;> rfl
theorem askH_thr (m : Hm) (v j n : Nat) (p : Sp) : askH (m.thr n p) v j = (askH m v j).thr n p := by
  unfold askH
  have e : (m.thr n p).sp v j = m.sp v j := rfl
  rw [e]
  split <;> rfl
theorem thr_thr (m : Hm) (n : Nat) (p p' : Sp) : (m.thr n p).thr n p' = m.thr n p' := by unfold Hm.thr; simp
/-- one cell of a thread's spot is written -/
theorem HmIs.put1c (h : HmIs B w x T bud s m) {n : Nat} {p p' : Sp} (hp : m.S[n]? = some p) {j : Nat} {u : Value} (hj : j < 4) (he : (encP4 p).set j u = encP4 p') : HmIs B (w.setCell ⟨x.q, n * 4 + j, none⟩ u) x T bud s (m.thr n p') :=
  h.spTurn (h.ss.put hp hj he) (by simp [h.sn]) ((Turns.refl _ w).setCell (.inl (by simp)) _)
theorem HmIs.gt (h : HmIs B w x T bud s m) {n : Nat} (hn : n < T.n) (p : Sp) : (m.thr n p).S[n]? = some p := by
  have : n < m.S.length := by rw [h.sn]; exact hn
  show (m.S.set n p)[n]? = some p
  simp [this]
theorem HmIs.drewN (h : HmIs B w x T bud s m) (n : Nat) : HmIs B (w.drewN n) x T bud s m := h.below (Qt.below ⟨n, rfl⟩ _)
/-- a method without a result -/
def VD (B : Nat → Prop) (w : World) (x : Hx) (T : HTr) (bud : Int) (s : Ar) (m' : Hm) (e : Ending) (w' : World) : Prop := e = .returned (.tuple #[]) ∧ HmIs B w' x T bud s m' ∧ Turns (mvL x T) w w'
/-- what is read of a thread's level -/
theorem HmIs.lev (h : HmIs B w x T bud s m) {n c : Nat} (hn : n < T.n) (hc : c < T.D) : w.cell? ⟨x.l, 2, none⟩ = some (.slice (some ⟨x.bL, x.oL, none⟩) T.n x.kL) ∧ w.cell? ⟨x.bL, x.oL + n, none⟩ = some (.slice (some ⟨x.ub n, x.uo n, none⟩) T.D (x.uk n)) ∧ w.cell? ⟨x.ub n, x.uo n + c * 2, none⟩ = some (.pointer (some ⟨x.lb (T.pl n c), 0, none⟩)) ∧ w.cell? ⟨x.ub n, x.uo n + c * 2 + 1, none⟩ = some (.int .i64 (T.sl n c)) := ⟨h.l2, h.cL n hn, h.cP n c hn hc, h.cS n c hn hc⟩
theorem HmIs.lt4 (h : HmIs B w x T bud s m) {n c : Nat} (hn : n < T.n) (hc : c < T.D) : x.l < w.heap.size ∧ x.bL < w.heap.size ∧ x.ub n < w.heap.size ∧ x.q < w.heap.size := ⟨h.lk.lt, block_lt_of_cell (h.cL n hn), block_lt_of_cell (h.cP n c hn hc), h.ss.lt⟩
set_option maxRecDepth 100000 in
set_option maxHeartbeats 1000000 in
theorem downHw (k : HmIs B w x T bud s m) (hT : T.Ok) {n c : Nat} (hn : n < T.n) (hc : (sv m.S n).c = c) (hcD : c < T.D) : Calls Tryz.prog 65 #[.pointer (some ⟨x.l, 0, none⟩), .int .i64 n] w (VD B w x T bud s (downH T m n c)) := by
  have H := Lib.hid k
  have HN := k.fx.n32
  have hd5 := k.fx.d5
  have hsl := k.sn
  obtain ⟨p, hpp⟩ : ∃ p, p = sv m.S n := ⟨_, rfl⟩
  have hp : m.S[n]? = some p := by rw [hpp]; exact sv_getH (by omega)
  rw [← hpp] at hc
  have c3 := k.l3
  obtain ⟨b0, b1, b2, b3⟩ := k.sc hp
  rw [hc] at b3
  have f1 : ∀ j, w.frozen? ⟨x.q, j, none⟩ = false := fun j => k.ss.free j
  have t2 : ¬ (n : Int) < 0 := by omega
  have t3 : ¬ ((T.n : Nat) : Int) ≤ (n : Int) := by omega
  have HPP := Lib.hid (And.intro hp (And.intro hpp hc))
  by_cases h0 : c = 0
  · subst h0
    clear k hp hpp hc
    go_enter Tryz.func65, Tryz.ntmps65
    go_wp2
    go_end0
    have e : downH T m n 0 = m.thr n { p with pc := 0 } := by unfold downH; rw [if_pos rfl, ← HPP.out.2.1]
    rw [e]
    exact ⟨rfl, H.out.put1c HPP.out.1 (j := 0) (by decide) rfl, turns_qH (Turns.refl _ w) (q_mv x T) _ _⟩
  · obtain ⟨d, rfl⟩ : ∃ d, c = d + 1 := ⟨c - 1, by omega⟩
    have hdD : d < T.D := by omega
    obtain ⟨cl2, cL, cP, cS⟩ := k.lev hn hdD
    have y0 : (((d + 1 : Nat) : Int) == 0) = false := by simp; omega
    clear k hp hpp hc h0
    go_enter Tryz.func65, Tryz.ntmps65
    go_wp2
    have h2 := (H.out.put1c HPP.out.1 (j := 3) (u := .int .i64 d) (p' := { p with c := d }) (by decide) rfl).put1c (H.out.gt hn _) (j := 0) (u := .int .i64 12) (p' := { p with pc := 12, c := d }) (by decide) rfl
    rw [thr_thr] at h2
    simp only [Nat.add_zero] at h2
    have t2' := turns_qH (turns_qH (Turns.refl (mvL x T) w) (q_mv x T) (n * 4 + 3) (.int .i64 d)) (q_mv x T) (n * 4) (.int .i64 12)
    obtain ⟨w2, hw2⟩ : ∃ w2, w2 = (w.setCell ⟨x.q, n * 4 + 3, none⟩ (.int .i64 d)).setCell ⟨x.q, n * 4, none⟩ (.int .i64 12) := ⟨_, rfl⟩
    rw [← hw2] at h2 t2' ⊢
    have H2 := Lib.hid (And.intro h2 t2')
    clear hw2 b0 b1 b2 b3 c3 cl2 cL cP cS f1
    obtain ⟨cl2, cL, cP, cS⟩ := h2.lev hn hdD
    obtain ⟨_, _, _, b3⟩ := h2.sc (H.out.gt hn _)
    obtain ⟨z1, z2, z3, z4⟩ := h2.lt4 hn hdD
    have HV := Lib.hid (And.intro (hT.plt n d hn hdD) (hT.slt n d hn hdD))
    clear h2 t2'
    go_region
    all_goals
      go_wp2_with fail
      refine (((H2.out.1.alloc _).drewN _).leave1 HV.out.1 HV.out.2 (-1)).mono ?_
      rintro en w3 ⟨b, rfl, h3, t3⟩
      have H3 := Lib.hid (And.intro h3 (H2.out.2.trans (((Turns.refl _ _).alloc _).drewN _ |>.trans t3)))
      clear h3 t3
      go_wp2
      go_end0
      have e : downH T m n (d + 1) = wthH (m.thr n { p with pc := 12, c := d }) (T.pl n d) (T.sl n d) 11 (-1) := by
        unfold downH
        rw [if_neg (by omega), wthH_thr, ← HPP.out.2.1]
        have q : ((d + 1 : Nat) : Int) - 1 = d := by omega
        rw [q]; rfl
      unfold VD
      rw [e]
      exact ⟨rfl, H3.out.1, H3.out.2⟩
end
end Go.Proofs.YtkdaiomjbkpedaaGreat
end
section
/- Layer 27 (hmcs): come. -/
namespace Go.Proofs.YtkdaiomjbkpedaaGreat
open Go.RowKit

theorem field_a (a b c d : Int) (w : World) : (Instr.field 35 (.agg #[.int .i64 a, .int .i64 b, .int .i64 c, .int .i64 d]) 1).run Tryz.prog w = .ok (.int .i64 b) w := by kernel_rfl
theorem field_b (a b c d : Int) (w : World) : (Instr.field 35 (.agg #[.int .i64 a, .int .i64 b, .int .i64 c, .int .i64 d]) 2).run Tryz.prog w = .ok (.int .i64 c) w := by kernel_rfl
theorem Turns.transNew {M S : List Nat} {a b c : World} (h : Turns M a b) (k : Turns S b c) (hS : ∀ i ∈ S, a.heap.size ≤ i) : Turns M a c :=
  ⟨k.os.trans h.os, k.tape.trans h.tape, k.output.trans h.output, Nat.le_trans h.size k.size, fun i hi hn => (k.block i (Nat.lt_of_lt_of_le hi h.size) (fun hm => absurd (hS i hm) (by omega))).trans (h.block i hi hn)⟩
section
variable {B : Nat → Prop} {w w' : World} {x : Hx} {T : HTr} {bud : Int} {s s' : Ar} {m : Hm}
set_option maxRecDepth 100000 in
set_option maxHeartbeats 2000000 in
theorem comeHw (k : HmIs B w x T bud s m) (hT : T.Ok) {n c : Nat} (hn : n < T.n) (hc : (sv m.S n).c = c) (hcD : c < T.D) : Calls Tryz.prog 64 #[.pointer (some ⟨x.l, 0, none⟩), .int .i64 n] w (VD B w x T bud s (comeH T m n c)) := by
  have hfield := field_b
  have H := Lib.hid k
  have HN := k.fx.n32
  have hd5 := k.fx.d5
  have hsl := k.sn
  obtain ⟨p, hpp⟩ : ∃ p, p = sv m.S n := ⟨_, rfl⟩
  have hp : m.S[n]? = some p := by rw [hpp]; exact sv_getH (by omega)
  rw [← hpp] at hc
  have HPP := Lib.hid (And.intro hp (And.intro hpp hc))
  have c3 := k.l3
  obtain ⟨b0, b1, b2, b3⟩ := k.sc hp
  rw [hc] at b3
  obtain ⟨cl2, cL, cP, cS⟩ := k.lev hn hcD
  obtain ⟨z1, z2, z3, z4⟩ := k.lt4 hn hcD
  have HV := Lib.hid (And.intro (hT.plt n c hn hcD) (hT.slt n c hn hcD))
  obtain ⟨u, hu⟩ : ∃ u, u = m.sp (T.pl n c) (T.sl n c) := ⟨_, rfl⟩
  have HU := Lib.hid hu
  have t2 : ¬ (n : Int) < 0 := by omega
  have t3 : ¬ ((T.n : Nat) : Int) ≤ (n : Int) := by omega
  have g2 : ¬ ((T.D : Nat) : Int) ≤ (c : Int) := by omega
  by_cases h0 : u.b = 0 ∨ c + 1 = T.D
  · have HE : Hid (comeH T m n c = m.thr n { p with pc := 10 }) := Lib.hid (by unfold comeH; rw [if_pos (by rw [← hu]; exact h0), ← hpp])
    clear k hp hpp hc hu
    go_enter Tryz.func64, Tryz.ntmps64
    go_wp2
    go_region
    all_goals
      go_wp2_with fail
      refine (((H.out.alloc _).drewN _).spot1 HV.out.1 HV.out.2).mono ?_
      rintro en w3 ⟨rfl, k3⟩
      rw [← HU.out]
      unfold spotV
      have h3 := ((H.out.alloc _).drewN _).below k3
      obtain ⟨b0, b1, b2, b3⟩ := h3.sc HPP.out.1
      rw [HPP.out.2.2] at b3
      have f1 : ∀ j, w3.frozen? ⟨x.q, j, none⟩ = false := fun j => h3.ss.free j
      have H3 := Lib.hid (And.intro h3 (((Turns.refl (mvL x T) _).alloc _).drewN _ |>.trans (Turns.of_below k3)))
      clear h3 k3
      by_cases hb : u.b = 0
      · have y : (u.b == 0) = true := by simpa using hb
        clear h0 hb
        go_wp2
        go_end0
        unfold VD
        rw [HE.out]
        exact ⟨rfl, H3.out.1.put1c HPP.out.1 (j := 0) (by decide) rfl, turns_qH H3.out.2 (q_mv x T) _ _⟩
      · have y : (u.b == 0) = false := by simpa using hb
        have hD : c + 1 = T.D := h0.resolve_left hb
        have y2 : ((c : Int) == (T.D : Int) - 1) = true := by simp; omega
        clear h0 hb hD
        go_wp2
        go_end0
        unfold VD
        rw [HE.out]
        exact ⟨rfl, H3.out.1.put1c HPP.out.1 (j := 0) (by decide) rfl, turns_qH H3.out.2 (q_mv x T) _ _⟩
  · have hcD' : c + 1 < T.D := by omega
    have y : (u.b == 0) = false := by simpa using fun e => h0 (.inl e)
    have y2 : ((c : Int) == (T.D : Int) - 1) = false := by simp; omega
    have HE : Hid (comeH T m n c = askH (m.thr n { p with c := (c : Int) + 1 }) (T.pl n (c + 1)) (T.sl n (c + 1))) := Lib.hid (by unfold comeH; rw [if_neg (by rw [← hu]; exact h0), askH_thr, ← hpp])
    have HV' := Lib.hid (And.intro (hT.plt n (c + 1) hn hcD') (hT.slt n (c + 1) hn hcD'))
    clear k hp hpp hc hu h0
    go_enter Tryz.func64, Tryz.ntmps64
    go_wp2
    go_region
    all_goals
      go_wp2_with fail
      refine (((H.out.alloc _).drewN _).spot1 HV.out.1 HV.out.2).mono ?_
      rintro en w3 ⟨rfl, k3⟩
      rw [← HU.out]
      unfold spotV
      have h3 := ((H.out.alloc _).drewN _).below k3
      have hx : Blk w3 w.heap.size 99 #[.pointer (some ⟨x.lb (T.pl n c), 0, none⟩), .int .i64 (T.sl n c)] := (Turns.of_below (S := []) k3).blk (heap_alloc_new w _) (by simp)
      clear b0 b1 b2 b3 cl2 cL cP cS c3
      obtain ⟨b0, b1, b2, b3⟩ := h3.sc HPP.out.1
      rw [HPP.out.2.2] at b3
      have f1 : ∀ j, w3.frozen? ⟨x.q, j, none⟩ = false := fun j => h3.ss.free j
      have h4 := h3.put1c HPP.out.1 (j := 3) (u := .int .i64 ((c : Int) + 1)) (p' := { p with c := (c : Int) + 1 }) (by decide) rfl
      have hqx : x.q ≠ w.heap.size := by omega
      have t4 := turns_qH (((Turns.refl (mvL x T) _).alloc _).drewN _ |>.trans (Turns.of_below k3)) (q_mv x T) (n * 4 + 3) (.int .i64 ((c : Int) + 1))
      have hx4 := hx.far (fun e => hqx e.symm) (p := ⟨x.q, n * 4 + 3, none⟩) (.int .i64 ((c : Int) + 1))
      have H4 := Lib.hid (And.intro h4 (And.intro t4 hx4))
      have b3' := (h4.sc (H.out.gt hn _)).2.2.2
      obtain ⟨cl2, cL, cP, cS⟩ := h4.lev hn hcD'
      have x0 := hx4.cell 0
      have x1 := hx4.cell 1
      have y0 := hx4.free 0
      have y1 := hx4.free 1
      clear h3 k3 h4 t4 hx hx4
      go_wp2_with fail
      have t5 : Turns [w.heap.size] (w3.setCell ⟨x.q, n * 4 + 3, none⟩ (.int .i64 ((c : Int) + 1))) (((w3.setCell ⟨x.q, n * 4 + 3, none⟩ (.int .i64 ((c : Int) + 1))).setCell ⟨w.heap.size, 0, none⟩ (.pointer (some ⟨x.lb (T.pl n (c + 1)), 0, none⟩))).setCell ⟨w.heap.size, 1, none⟩ (.int .i64 (T.sl n (c + 1)))) := turns_qH (turns_qH (Turns.refl _ _) (by simp) _ _) (by simp) _ _
      have h5 := H4.out.1.turns t5 (fun i hi => by simp at hi; rw [hi]; exact H.out.new.1) (fun i hi => by simp at hi; rw [hi]; exact H.out.new.2)
      refine (h5.ask1 HV'.out.1 HV'.out.2).mono ?_
      rintro en w6 ⟨b, rfl, h6, t6⟩
      have H6 := Lib.hid (And.intro h6 ((H4.out.2.1.transNew t5 fun i hi => by simp at hi; omega).trans t6))
      clear h5 h6 t5 t6
      go_wp2
      go_end0
      unfold VD
      rw [HE.out]
      exact ⟨rfl, H6.out.1, H6.out.2⟩
end
end Go.Proofs.YtkdaiomjbkpedaaGreat
end
section
/- Layer 27 (hmcs): begin. -/
namespace Go.Proofs.YtkdaiomjbkpedaaGreat
open Go.RowKit

/-- a scope whose label nobody goes to, or one who goes ahead -/
theorem wp_scope_onceH {P : Program} {a : Act} {w : World} {Q : Exit → Act → World → Prop} {c rest : Code} (l : Nat) (hf : findLabel c l = some rest) (first : c.wp P (Exit.jump l (fun a' w' => rest.wp P (Exit.noGoto Q) a' w') Q) a w) : (Code.scope c).wp P Q a w := by
  refine wp_scope_jumps l (fun a' w' => rest.wp P (Exit.noGoto Q) a' w') (fun _ _ => 0) hf first fun a w h => ?_
  refine Code.wp_mono ?_ h
  intro e a' w' hq
  cases e with
  | goto l' => exact hq.elim
  | _ => exact hq
section
variable {B : Nat → Prop} {w w' : World} {x : Hx} {T : HTr} {bud : Int} {s s' : Ar} {m : Hm}
theorem begH_fuel (T : HTr) (bud : Int) (m : Hm) (n : Nat) : ∀ (f g k : Nat), T.D - k ≤ f → T.D - k ≤ g → k < T.D → begH T bud f m n k = begH T bud g m n k
  | 0, _, k, h, _, hk => by omega
  | _ + 1, 0, k, _, h, hk => by omega
  | f + 1, g + 1, k, h1, h2, hk => by
    unfold begH
    by_cases c : k + 1 = T.D
    · rw [if_pos c, if_pos c]
    · rw [if_neg c, if_neg c]
      split
      · rfl
      · exact begH_fuel T bud m n f g (k + 1) (by omega) (by omega) (by omega)
theorem begH_last (T : HTr) (bud : Int) (m : Hm) (n : Nat) {k : Nat} (h : k + 1 = T.D) : begH T bud T.D m n k = (wthH m (T.pl n k) (T.sl n k) 11 1).thr n { sv m.S n with pc := 12, c := k } := by
  rw [begH_fuel T bud m n T.D 1 k (by omega) (by omega) (by omega)]
  unfold begH
  rw [if_pos h]
theorem begH_pass (T : HTr) (bud : Int) (m : Hm) (n : Nat) {k : Nat} (h : k + 1 < T.D) (hv : (m.sp (T.pl n k) (T.sl n k)).a ≤ bud) : begH T bud T.D m n k = (wthH m (T.pl n k) (T.sl n k) 15 ((m.sp (T.pl n k) (T.sl n k)).a + 1)).thr n { sv m.S n with pc := 11, c := k } := by
  obtain ⟨d, hd⟩ : ∃ d, T.D = d + 1 := ⟨T.D - 1, by omega⟩
  rw [begH_fuel T bud m n T.D (d + 1) k (by omega) (by omega) (by omega)]
  unfold begH
  rw [if_neg (by omega), if_pos hv]
theorem begH_next (T : HTr) (bud : Int) (m : Hm) (n : Nat) {k : Nat} (h : k + 1 < T.D) (hv : ¬ (m.sp (T.pl n k) (T.sl n k)).a ≤ bud) : begH T bud T.D m n k = begH T bud T.D m n (k + 1) := by
  rw [begH_fuel T bud m n T.D (T.D + 1) k (by omega) (by omega) (by omega)]
  conv => lhs; unfold begH
  rw [if_neg (by omega), if_neg hv]
set_option maxRecDepth 100000 in
set_option maxHeartbeats 4000000 in
theorem beginHw (k : HmIs B w x T bud s m) (hT : T.Ok) {n k0 : Nat} (hn : n < T.n) (hk0 : k0 < T.D) (hbud : 0 ≤ bud ∧ bud ≤ 1000) (hva : ∀ k, k0 ≤ k → k < T.D → 0 ≤ (m.sp (T.pl n k) (T.sl n k)).a ∧ (m.sp (T.pl n k) (T.sl n k)).a ≤ 2000) :
    Calls Tryz.prog 66 #[.pointer (some ⟨x.l, 0, none⟩), .int .i64 n, .int .i64 k0] w (VD B w x T bud s (begH T bud T.D m n k0)) := by
  have hfield := field_a
  have H := Lib.hid k
  have HN := k.fx.n32
  have hd5 := k.fx.d5
  have hsl := k.sn
  obtain ⟨p, hpp⟩ : ∃ p, p = sv m.S n := ⟨_, rfl⟩
  have hp : m.S[n]? = some p := by rw [hpp]; exact sv_getH (by omega)
  have HPP := Lib.hid (And.intro hp hpp)
  have HVA := Lib.hid hva
  have c3 := k.l3
  obtain ⟨cl2, cL, cP, cS⟩ := k.lev hn hk0
  obtain ⟨z1, z2, z3, z4⟩ := k.lt4 hn hk0
  have t2 : ¬ (n : Int) < 0 := by omega
  have t3 : ¬ ((T.n : Nat) : Int) ≤ (n : Int) := by omega
  obtain ⟨hb0, hb1⟩ := hbud
  clear k hp hpp hva
  go_enter Tryz.func66, Tryz.ntmps66
  go_wp2
  refine wp_scope_onceH 0 rfl ?_
  go_wp2
  go_region
  all_goals
    go_wp2
    go_step3
    clear c3 cl2 cL cP cS z1 z2 z3 z4
    go_wp2
    go_loopw [2] (fun c wr => ∃ (k : Nat) (z : Int), c = .int .i64 k ∧ k < T.D ∧ k0 ≤ k ∧ HmIs B wr x T bud s (m.thr n { p with c := z }) ∧ Turns (mvL x T) w wr ∧ begH T bud T.D m n k = begH T bud T.D m n k0) (fun c _ => T.D - (intOf c).toNat)
    case atStart =>
      refine ⟨k0, p.c, rfl, hk0, by omega, ?_, (Turns.refl _ _).drewN 1, rfl⟩
      have e : m.thr n { p with c := p.c } = m := by
        unfold Hm.thr
        have : m.S.set n p = m.S := set_self HPP.out.1
        show ({ m with S := m.S.set n p } : Hm) = m
        rw [this]
      rw [e]
      exact H.out.drewN 1
    case round =>
      obtain ⟨k, z, rfl, hkD, hk, hI, ht, hE⟩ := hrel
      have HW := Lib.hid (And.intro hI (And.intro ht hE))
      have HV := Lib.hid (And.intro (hT.plt n k hn hkD) (hT.slt n k hn hkD))
      obtain ⟨u, hu⟩ : ∃ u, u = m.sp (T.pl n k) (T.sl n k) := ⟨_, rfl⟩
      have HU := Lib.hid hu
      obtain ⟨cl2, cL, cP, cS⟩ := hI.lev hn hkD
      obtain ⟨z1, z2, z3, z4⟩ := hI.lt4 hn hkD
      have g2 : ¬ ((T.D : Nat) : Int) ≤ (k : Int) := by omega
      clear hI ht hE hu
      go_wp2_with fail
      refine ((HW.out.1.alloc _).spot1 HV.out.1 HV.out.2).mono ?_
      rintro en w3 ⟨rfl, k3⟩
      rw [show (m.thr n { p with c := z }).sp (T.pl n k) (T.sl n k) = u from HU.out.symm]
      unfold spotV
      have h3 := (HW.out.1.alloc _).below k3
      have hx : Blk w3 wr.heap.size 99 #[.pointer (some ⟨x.lb (T.pl n k), 0, none⟩), .int .i64 (T.sl n k)] := (Turns.of_below (S := []) k3).blk (heap_alloc_new wr _) (by simp)
      clear cl2 cL cP cS
      have c3 := (h3.sc (H.out.gt hn _)).2.2.2
      have f1 : ∀ j, w3.frozen? ⟨x.q, j, none⟩ = false := fun j => h3.ss.free j
      have h4 := h3.put1c (H.out.gt hn _) (j := 3) (u := .int .i64 (k : Int)) (p' := { p with c := (k : Int) }) (by decide) rfl
      rw [thr_thr] at h4
      have hqx : x.q ≠ wr.heap.size := by omega
      have t4 := turns_qH (HW.out.2.1.trans (((Turns.refl (mvL x T) _).alloc _).trans (Turns.of_below k3))) (q_mv x T) (n * 4 + 3) (.int .i64 (k : Int))
      have hx4 := hx.far (fun e => hqx e.symm) (p := ⟨x.q, n * 4 + 3, none⟩) (.int .i64 (k : Int))
      have H4 := Lib.hid (And.intro h4 t4)
      have x0 := hx4.cell 0
      have x1 := hx4.cell 1
      have l0 := h4.l0
      clear h3 k3 h4 t4 hx hx4
      by_cases hD : k + 1 = T.D
      · have y : ((k : Int) == (T.D : Int) - 1) = true := by simp; omega
        have HE := Lib.hid (HW.out.2.2.symm.trans (begH_last T bud m n hD))
        clear hD
        go_wp2_with fail
        refine (H4.out.1.leave1 HV.out.1 HV.out.2 1).mono ?_
        rintro en w5 ⟨b, rfl, h5, t5⟩
        rw [wthH_thr] at h5
        have c0 := (h5.sc (p := { p with c := (k : Int) }) (by show ((wthH m _ _ _ _).S.set n _)[n]? = _; rw [wthH_S]; exact H.out.gt hn _)).1
        have f0 : ∀ j, w5.frozen? ⟨x.q, j, none⟩ = false := fun j => h5.ss.free j
        have h6 := h5.put1c (n := n) (p := { p with c := (k : Int) }) (by show ((wthH m _ _ _ _).S.set n _)[n]? = _; rw [wthH_S]; exact H.out.gt hn _) (j := 0) (u := .int .i64 12) (p' := { p with pc := 12, c := (k : Int) }) (by decide) rfl
        rw [thr_thr] at h6
        have H6 := Lib.hid (And.intro h6 (turns_qH (H4.out.2.trans t5) (q_mv x T) (n * 4) (.int .i64 12)))
        clear h5 h6 t5
        go_wp2
        go_end0
        unfold VD
        rw [HE.out, ← HPP.out.2]
        exact ⟨rfl, H6.out.1, H6.out.2⟩
      · have hD' : k + 1 < T.D := by omega
        have y : ((k : Int) == (T.D : Int) - 1) = false := by simp; omega
        obtain ⟨va0, va1⟩ := HVA.out k hk hkD
        rw [← HU.out] at va0 va1
        by_cases hv : u.a ≤ bud
        · have HE := Lib.hid (HW.out.2.2.symm.trans (begH_pass T bud m n hD' (by rw [← HU.out]; exact hv)))
          go_wp2_with fail
          refine (H4.out.1.pass1 HV.out.1 HV.out.2 (u.a + 1)).mono ?_
          rintro en w5 ⟨b, rfl, h5, t5⟩
          rw [wthH_thr] at h5
          have c0 := (h5.sc (p := { p with c := (k : Int) }) (by show ((wthH m _ _ _ _).S.set n _)[n]? = _; rw [wthH_S]; exact H.out.gt hn _)).1
          have f0 : ∀ j, w5.frozen? ⟨x.q, j, none⟩ = false := fun j => h5.ss.free j
          have h6 := h5.put1c (n := n) (p := { p with c := (k : Int) }) (by show ((wthH m _ _ _ _).S.set n _)[n]? = _; rw [wthH_S]; exact H.out.gt hn _) (j := 0) (u := .int .i64 11) (p' := { p with pc := 11, c := (k : Int) }) (by decide) rfl
          rw [thr_thr] at h6
          have H6 := Lib.hid (And.intro h6 (turns_qH (H4.out.2.trans t5) (q_mv x T) (n * 4) (.int .i64 11)))
          clear h5 h6 t5
          go_wp2
          go_end0
          unfold VD
          rw [HE.out, ← HPP.out.2, ← HU.out]
          exact ⟨rfl, H6.out.1, H6.out.2⟩
        · have HE := Lib.hid ((begH_next T bud m n hD' (by rw [← HU.out]; exact hv)).symm.trans HW.out.2.2)
          go_wp2
          go_roundw
          case rel => exact ⟨k + 1, k, by go_num, by omega, by omega, H4.out.1, H4.out.2, HE.out⟩
          case measure => simp [intOf]; omega
end
end Go.Proofs.YtkdaiomjbkpedaaGreat
end
