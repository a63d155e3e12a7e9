/- Joined: Hm10, Hm12, PaT, Hm11. -/
import Derived.Test.YtkdaiomjbkpedaaGreatMgHmcsTenure4
import Derived.Test.YtkdaiomjbkpedaaGreatMgHmcsTenure5
import Derived.Test.YtkdaiomjbkpedaaGreatMgHmcsTenure6
import Derived.Test.YtkdaiomjbkpedaaGreatMgHmcsTenure14
section
/- Layer 27 (hmcs): rounds in which all step, and leave at once, come to an end. No program in sight. -/
namespace Go.Proofs.YtkdaiomjbkpedaaGreat
open Go.RowKit

def wtot (f : Nat → Nat) : Nat → Nat
  | 0 => 0
  | n + 1 => wtot f n + f n
theorem wtot_le {f g : Nat → Nat} : ∀ n, (∀ t, t < n → g t ≤ f t) → wtot g n ≤ wtot f n
  | 0, _ => Nat.le_refl _
  | n + 1, h => Nat.add_le_add (wtot_le n fun t ht => h t (by omega)) (h n (by omega))
theorem wtot_lt {f g : Nat → Nat} {i : Nat} : ∀ n, (∀ t, t < n → g t ≤ f t) → i < n → g i < f i → wtot g n < wtot f n
  | 0, _, hi, _ => by omega
  | n + 1, h, hi, hlt => by
    have h1 := wtot_le n fun t ht => h t (Nat.lt_succ_of_lt ht)
    have h2 := h n (by omega)
    show wtot g n + g n < wtot f n + f n
    by_cases e : i = n
    · subst e; omega
    · have := wtot_lt n (fun t ht => h t (Nat.lt_succ_of_lt ht)) (by omega) hlt
      omega
theorem wtot_mem {f : Nat → Nat} {i : Nat} : ∀ n, i < n → f i ≤ wtot f n
  | 0, hi => by omega
  | n + 1, hi => by
    show f i ≤ wtot f n + f n
    by_cases e : i = n
    · subst e; omega
    · have := wtot_mem (f := f) n (show i < n by omega); omega
theorem wtot_top {f : Nat → Nat} (b : Nat) : ∀ n, (∀ t, t < n → f t ≤ b) → wtot f n ≤ n * b
  | 0, _ => by simp [wtot]
  | n + 1, h => by
    have := wtot_top b n fun t ht => h t (by omega)
    have := h n (by omega)
    show wtot f n + f n ≤ (n + 1) * b
    rw [Nat.add_mul, Nat.one_mul]; omega
section
variable {T : HTr} {bud : Int} {m m' : Hm} {Q Q' : Nat → List Nat} {O O' : Nat → Nat → Option Nat} {i : Nat}
def wT (T : HTr) (m : Hm) : Nat := wtot (wH T m) T.n
/-- a step of i, and its leave: no more is left to do, less if i can move; whoever else can move still can -/
theorem HInv.turn (h : HInv T bud m Q O) (hT : T.Ok) (hb0 : 0 ≤ bud) (hi : i < T.n) : ∃ Q' O', HInv T bud (leaveHm T bud (stepHm T bud m i) i) Q' O' ∧ wT T (leaveHm T bud (stepHm T bud m i) i) ≤ wT T m ∧ (MovH T m i → wT T (leaveHm T bud (stepHm T bud m i) i) < wT T m) ∧ ∀ u, u < T.n → u ≠ i → MovH T m u → MovH T (leaveHm T bud (stepHm T bud m i) i) u := by
  obtain ⟨Q1, O1, h1⟩ := h.step hT hb0 hi
  have h2 := h1.leave hT hi
  have f1 := h.stepFr hT hi
  have f2 := h1.leaveFr hT hi
  obtain ⟨a1, a2, a3⟩ := h.stepW hT hi
  obtain ⟨b1, b2⟩ := h1.leaveW hT hi
  have heq : ∀ t, t < T.n → t ≠ i → wH T (leaveHm T bud (stepHm T bud m i) i) t = wH T m t := fun t ht hne => by rw [f2.wt h1 ht hne, f1.wt h ht hne]
  have hle : ∀ t, t < T.n → wH T (leaveHm T bud (stepHm T bud m i) i) t ≤ wH T m t := fun t ht => by
    by_cases e : t = i
    · subst e; omega
    · exact Nat.le_of_eq (heq t ht e)
  refine ⟨Q1, O1, h2, wtot_le _ hle, fun k => wtot_lt _ hle hi ?_, fun u hu hne k => f2.mov h1 hu hne (f1.mov h hu hne k)⟩
  by_cases e : (sv m.S i).pc = 10
  · have := a3 e
    rw [this] at b2 ⊢
    exact b2 e
  · have := a2 e k
    omega
def RdH (T : HTr) (m : Hm) (M i : Nat) : Prop := wT T m = 0 ∨ wT T m < M ∨ (wT T m ≤ M ∧ ∃ u, i ≤ u ∧ u < T.n ∧ MovH T m u)
theorem wH_zero (h : HInv T bud m Q O) (ht : i < T.n) (h0 : wH T m i = 0) (hD : T.Ok) : (sv m.S i).pc = 0 := by
  have hd := hD.d1
  obtain ⟨K, kk, o⟩ := h.t i ht
  cases kk with
  | rest hh => exact hh
  | come c hh ha _ _ => have := wH_at (T := T) (m := m) (i := i) rfl hh.2.1; rw [hh.1, wg1] at this; omega
  | granted c hh ha _ => have := wH_at (T := T) (m := m) (i := i) rfl hh.2.1; rw [hh.1, wg1] at this; omega
  | hold hh _ => unfold wH at h0; rw [hh, wg10] at h0; omega
  | pass c hh ha _ =>
    have := wH_at (T := T) (m := m) (i := i) rfl hh.2.1
    rw [hh.1] at this
    rcases ha with e | e
    · rw [e, wg11a] at this; omega
    · rw [e, wg11b _ _ (by decide)] at this; omega
  | leave c hh ha _ _ => have := wH_at (T := T) (m := m) (i := i) rfl hh.2.1; rw [hh.1, wg12] at this; omega
theorem wH_rest (h0 : (sv m.S i).pc = 0) : wH T m i = 0 := by unfold wH; rw [h0, wg0]
theorem HInv.restAll (h : HInv T bud m Q O) (hT : T.Ok) (h0 : wT T m = 0) (hi : i < T.n) : (sv m.S i).pc = 0 := by
  refine wH_zero h hi ?_ hT
  have := wtot_mem (f := wH T m) T.n hi
  unfold wT at h0
  omega
theorem HInv.rd0 (h : HInv T bud m Q O) (hT : T.Ok) : RdH T m (wT T m) 0 := by
  rcases h.someMov hT with e | ⟨u, hu, k⟩
  · refine .inl ?_
    have := wtot_top (f := wH T m) 0 T.n fun t ht => Nat.le_of_eq (wH_rest (e t ht))
    unfold wT
    omega
  · exact .inr (.inr ⟨Nat.le_refl _, u, Nat.zero_le _, hu, k⟩)
theorem HInv.rdNext (h : HInv T bud m Q O) (hT : T.Ok) (hb0 : 0 ≤ bud) (hi : i < T.n) {M : Nat} (hr : RdH T m M i) : ∃ Q' O', HInv T bud (leaveHm T bud (stepHm T bud m i) i) Q' O' ∧ RdH T (leaveHm T bud (stepHm T bud m i) i) M (i + 1) := by
  obtain ⟨Q', O', h', w1, w2, w3⟩ := h.turn hT hb0 hi
  refine ⟨Q', O', h', ?_⟩
  rcases hr with e | e | ⟨e, u, hu, hun, k⟩
  · exact .inl (by omega)
  · exact .inr (.inl (by omega))
  · by_cases eu : u = i
    · subst eu
      have := w2 k
      exact .inr (.inl (by omega))
    · exact .inr (.inr ⟨by omega, u, by omega, hun, w3 u hun eu k⟩)
theorem RdH.last {M : Nat} (h : RdH T m M T.n) : wT T m = 0 ∨ wT T m < M := by
  rcases h with e | e | ⟨_, u, hu, hun, _⟩
  · exact .inl e
  · exact .inr e
  · omega
theorem HInv.wtop (h : HInv T bud m Q O) (hT : T.Ok) (h5 : T.D ≤ 5) : wT T m ≤ T.n * 60 := by
  refine wtot_top 60 _ fun t ht => ?_
  obtain ⟨K, kk, o⟩ := h.t t ht
  have hd := hT.d1
  cases kk with
  | rest hh => rw [wH_rest hh]; omega
  | come c hh ha _ _ => rw [wH_at (T := T) (m := m) (i := t) rfl hh.2.1, hh.1, wg1]; omega
  | granted c hh ha _ => rw [wH_at (T := T) (m := m) (i := t) rfl hh.2.1, hh.1, wg1, ha.1]; omega
  | hold hh _ => unfold wH; rw [hh, wg10]; omega
  | pass c hh ha _ =>
    rw [wH_at (T := T) (m := m) (i := t) rfl hh.2.1, hh.1]
    rcases ha with e | e
    · rw [e, wg11a]; omega
    · rw [e, wg11b _ _ (by decide)]; omega
  | leave c hh ha _ _ => rw [wH_at (T := T) (m := m) (i := t) rfl hh.2.1, hh.1, wg12]; omega
/-- when all rest, no slot of any place holds -/
theorem HInv.noHeld (h : HInv T bud m Q O) (h0 : ∀ t, t < T.n → (sv m.S t).pc = 0) {v j : Nat} (hv : v < T.np) (hj : j < T.nv v) : (m.sp v j).pc = 0 := by
  cases hO : O v j with
  | none => exact (h.x 0).fr v j hv hj hO
  | some t =>
    exfalso
    obtain ⟨ht, k, hk, rfl, rfl⟩ := (h.x 0).ow v j t hO
    obtain ⟨K, kk, o⟩ := h.t t ht
    have := (o k hk).1 hO
    have hz := h0 t ht
    cases kk <;> omega
end
end Go.Proofs.YtkdaiomjbkpedaaGreat
end
section
/- Layer 27 (hmcs): which entry of its leaf's tenure an entry is. No program in sight. -/
namespace Go.Proofs.YtkdaiomjbkpedaaGreat
open Go.RowKit

def lfH (T : HTr) (m : Hm) (t : Nat) : Sp := m.sp (T.pl t 0) (T.sl t 0)
def lgH (T : HTr) (m : Hm) (t : Nat) : Int := m.sg (T.pl t 0) (T.sl t 0)
/-- last: the leaf of whoever entered last, and which entry of the tenure that was -/
structure Ten (T : HTr) (m : Hm) (last : Option (Nat × Int)) : Prop where
  up : ∀ t, t < T.n → (sv m.S t).pc = 1 → 1 ≤ (sv m.S t).c → (lfH T m t).a = 1
  own : ∀ t, t < T.n → (sv m.S t).pc = 10 ∨ (sv m.S t).pc = 11 → last = some (T.pl t 0, (lfH T m t).a)
  giv : ∀ t, t < T.n → (sv m.S t).pc = 1 → (sv m.S t).c = 0 → (lfH T m t).pc = 5 → 1 < lgH T m t → last = some (T.pl t 0, lgH T m t - 1)
def EntOk (bud : Int) (last : Option (Nat × Int)) (v : Nat) (c : Int) : Prop := 1 ≤ c ∧ c ≤ bud + 1 ∧ (c = 1 ∨ last = some (v, c - 1))
def TopH (T : HTr) (m : Hm) (t : Nat) : Prop := (sv m.S t).pc = 10 ∨ (sv m.S t).pc = 11 ∨ ((sv m.S t).pc = 1 ∧ (sv m.S t).c = 0 ∧ (lfH T m t).pc = 5 ∧ 0 < lgH T m t)
section
variable {T : HTr} {bud : Int} {m m' : Hm} {Q Q' : Nat → List Nat} {O O' : Nat → Nat → Option Nat} {i : Nat} {last : Option (Nat × Int)}
theorem HInv.top (h : HInv T bud m Q O) (hT : T.Ok) {t : Nat} (ht : t < T.n) (k : TopH T m t) : (Q (T.pl t (T.D - 1)))[0]? = some (T.sl t (T.D - 1)) ∧ O (T.pl t (T.D - 1)) (T.sl t (T.D - 1)) = some t := by
  obtain ⟨K, kk, o⟩ := h.t t ht
  have hd := hT.d1
  have hv := hT.plt t (T.D - 1) ht (by omega)
  have hj := hT.slt t (T.D - 1) ht (by omega)
  unfold TopH at k
  cases kk with
  | rest h0 => omega
  | come c hh ha hg hb =>
    exfalso
    have e1 := hh.1
    have e2 := hh.2.1
    rcases k with k | k | ⟨_, k0, k5, kg⟩
    · omega
    · omega
    · obtain rfl : c = 0 := by omega
      exact hg k5 kg
  | granted c hh ha hb =>
    refine ⟨?_, (o _ (by omega)).2 (by omega)⟩
    by_cases e : T.D - 1 = c
    · rw [e] at hv hj ⊢
      exact (h.x t).head5 hv hj ha.1 (by have := ha.2; omega)
    · exact (h.x t).head hv hj (by rw [hb _ (by omega) e]; decide)
  | hold _ hb => exact ⟨(h.x t).head hv hj (by rw [hb _ (by omega)]; decide), (o _ (by omega)).2 (by omega)⟩
  | pass c hh ha hb => exact ⟨(h.x t).head hv hj (by rw [hb _ (by omega) (by have := hh.2.2; omega)]; decide), (o _ (by omega)).2 (by omega)⟩
  | leave c hh => have := hh.1; omega
theorem HInv.excl (h : HInv T bud m Q O) (hT : T.Ok) {a b : Nat} (ha : a < T.n) (hb : b < T.n) (h1 : TopH T m a) (h2 : TopH T m b) : a = b := by
  obtain ⟨e1, o1⟩ := h.top hT ha h1
  obtain ⟨e2, o2⟩ := h.top hT hb h2
  have er := hT.root a b ha hb
  rw [er] at e1 o1
  have es : T.sl a (T.D - 1) = T.sl b (T.D - 1) := by rw [e1] at e2; injection e2
  rw [es, o2] at o1
  injection o1 with o1
  exact o1.symm
theorem slot_a (m : Hm) (v j a b : Nat) (p : Sp) (hp : p.a = (m.sp v j).a) : ((m.slot v j p).sp a b).a = (m.sp a b).a := by
  unfold Hm.sp Hm.slot
  show (sv (updH m.P v ((m.P v).set j p) a) b).a = _
  by_cases e : a = v
  · subst e
    rw [updH_eq, sv_set]
    split
    · rename_i h; rw [hp, h.1]; rfl
    · rfl
  · rw [updH_ne _ _ e]
theorem wthH_a (m : Hm) (v j a b : Nat) (u c : Int) : ((wthH m v j u c).sp a b).a = (m.sp a b).a := by
  unfold wthH
  split
  · exact slot_a m v j a b _ rfl
  · rfl
theorem begH_T : ∀ (f : Nat) (m : Hm) (k0 : Nat), i < m.S.length → k0 < T.D → T.D ≤ k0 + f → ((sv (begH T bud f m i k0).S i).pc = 11 ∨ (sv (begH T bud f m i k0).S i).pc = 12) ∧ ∀ a b, ((begH T bud f m i k0).sp a b).a = (m.sp a b).a := by
  intro f
  induction f with
  | zero => intro m k0 _ h1 h2; omega
  | succ f ih =>
    intro m k0 hl hk hf
    unfold begH
    split
    · refine ⟨.inr ?_, fun a b => by rw [thr_sp]; exact wthH_a _ _ _ _ _ _ _⟩
      rw [sv_thr _ _ (by rw [wthH_S]; exact hl)]
    · split
      · refine ⟨.inl ?_, fun a b => by rw [thr_sp]; exact wthH_a _ _ _ _ _ _ _⟩
        rw [sv_thr _ _ (by rw [wthH_S]; exact hl)]
      · rename_i h1 _
        exact ih m (k0 + 1) hl (by omega) (by omega)
theorem downH_T (hl : i < m.S.length) (c : Nat) : (sv (downH T m i c).S i).pc = 0 ∨ (sv (downH T m i c).S i).pc = 12 := by
  unfold downH
  split
  · exact .inl (by rw [sv_thr _ _ hl])
  · exact .inr (by rw [sv_thr _ _ (by rw [wthH_S]; exact hl)])
/-- what i's own step comes to, as far as tenures go -/
structure TStep (T : HTr) (m m' : Hm) (i : Nat) : Prop where
  sg : ∀ t, t < T.n → t ≠ i → lgH T m' t = lgH T m t ∨ lgH T m' t ≤ 1 ∨ ((sv m.S i).pc = 11 ∧ T.pl t 0 = T.pl i 0 ∧ lgH T m' t = (lfH T m i).a + 1)
  me : (((sv m.S i).pc = 10 ∨ (sv m.S i).pc = 11) ∧ ((sv m'.S i).pc = 11 ∨ (sv m'.S i).pc = 12 ∨ (sv m'.S i).pc = 10) ∧ (lfH T m' i).a = (lfH T m i).a) ∨
    ((sv m.S i).pc = 1 ∧ (sv m'.S i).pc = 10 ∧ ((lfH T m' i).a = 1 ∨ ((sv m.S i).c = 0 ∧ (lfH T m i).pc = 5 ∧ (lfH T m' i).a = lgH T m i))) ∨
    ((sv m'.S i).pc = 1 ∧ (1 ≤ (sv m'.S i).c → (lfH T m' i).a = 1) ∧ ((sv m'.S i).c = 0 → (lfH T m' i).pc = 5 → lgH T m' i ≤ 0)) ∨
    (sv m'.S i).pc = 0 ∨ (sv m'.S i).pc = 12
theorem HInv.leafOwn (h : HInv T bud m Q O) (hT : T.Ok) {t : Nat} (ht : t < T.n) (h0 : (sv m.S t).pc ≠ 0) : O (T.pl t 0) (T.sl t 0) = some t := by
  obtain ⟨K, kk, o⟩ := h.t t ht
  have hd := hT.d1
  refine (o 0 (by omega)).2 ?_
  cases kk with
  | rest h1 => exact absurd h1 h0
  | come c _ _ _ _ => omega
  | granted c _ _ _ => omega
  | hold _ _ => omega
  | pass c _ _ _ => omega
  | leave c _ _ _ _ => omega
/-- put together: nobody enters -/
theorem Ten.next (k : Ten T m last) (h : HInv T bud m Q O) (hT : T.Ok) (hi : i < T.n) (f : FrH m m' O i) (s : TStep T m m' i) (hn : ¬ ((sv m.S i).pc < 10 ∧ (sv m'.S i).pc = 10)) : Ten T m' last := by
  have oth : ∀ t, t < T.n → t ≠ i → (sv m'.S t).pc ≠ 0 → sv m'.S t = sv m.S t ∧ lfH T m' t = lfH T m t := fun t ht hti h0 => by
    have e := f.S t hti
    rw [e] at h0
    exact ⟨e, f.sp _ _ t hti (h.leafOwn hT ht h0)⟩
  refine ⟨fun t ht h1 hc => ?_, fun t ht h1 => ?_, fun t ht h1 hc h5 hg => ?_⟩
  · by_cases e : t = i
    · subst e
      rcases s.me with ⟨_, h2, _⟩ | ⟨_, h2, _⟩ | ⟨_, h2, _⟩ | h2 | h2
      · omega
      · omega
      · exact h2 hc
      · omega
      · omega
    · obtain ⟨e1, e2⟩ := oth t ht e (by omega)
      rw [e1] at h1 hc
      rw [e2]; exact k.up t ht h1 hc
  · by_cases e : t = i
    · subst e
      rcases s.me with ⟨h2, _, h3⟩ | ⟨h2, h3, _⟩ | ⟨h2, _⟩ | h2 | h2
      · rw [h3]; exact k.own t ht h2
      · exact absurd ⟨by omega, h3⟩ hn
      · omega
      · omega
      · omega
    · obtain ⟨e1, e2⟩ := oth t ht e (by omega)
      rw [e1] at h1
      rw [e2]; exact k.own t ht h1
  · by_cases e : t = i
    · subst e
      rcases s.me with ⟨_, h2, _⟩ | ⟨_, h2, _⟩ | ⟨_, _, h2⟩ | h2 | h2
      · omega
      · omega
      · have := h2 hc h5; omega
      · omega
      · omega
    · obtain ⟨e1, e2⟩ := oth t ht e (by omega)
      rw [e1] at h1 hc
      rw [e2] at h5
      rcases s.sg t ht e with h2 | h2 | ⟨h2, h3, h4⟩
      · rw [h2] at hg ⊢; exact k.giv t ht h1 hc h5 hg
      · omega
      · rw [k.own i hi (.inr h2), h3, h4, show (lfH T m i).a + 1 - 1 = (lfH T m i).a by omega]
/-- somebody enters -/
theorem Ten.enter (k : Ten T m last) (h : HInv T bud m Q O) (h' : HInv T bud m' Q' O') (hT : T.Ok) (hi : i < T.n) (f : FrH m m' O i) (s : TStep T m m' i) (hp : (sv m.S i).pc < 10) (hn : (sv m'.S i).pc = 10) : Ten T m' (some (T.pl i 0, (lfH T m' i).a)) ∧ EntOk bud last (T.pl i 0) (lfH T m' i).a := by
  have oth : ∀ t, t < T.n → t ≠ i → (sv m'.S t).pc ≠ 0 → sv m'.S t = sv m.S t ∧ lfH T m' t = lfH T m t := fun t ht hti h0 => by
    have e := f.S t hti
    rw [e] at h0
    exact ⟨e, f.sp _ _ t hti (h.leafOwn hT ht h0)⟩
  have ex : ∀ t, t < T.n → TopH T m' t → t = i := fun t ht k => h'.excl hT ht hi k (.inl hn)
  refine ⟨⟨fun t ht h1 hc => ?_, fun t ht h1 => ?_, fun t ht h1 hc h5 hg => ?_⟩, ?_⟩
  · by_cases e : t = i
    · subst e; omega
    · obtain ⟨e1, e2⟩ := oth t ht e (by omega)
      rw [e1] at h1 hc
      rw [e2]; exact k.up t ht h1 hc
  · obtain rfl := ex t ht (by rcases h1 with h1 | h1; exact .inl h1; exact .inr (.inl h1))
    rfl
  · obtain rfl := ex t ht (.inr (.inr ⟨h1, hc, h5, by omega⟩))
    omega
  · obtain ⟨K, kk, o⟩ := h'.t i hi
    obtain ⟨_, h10⟩ := kk.of10 hn
    have hd := hT.d1
    obtain ⟨v1, v2⟩ := ((h'.x i).va _ _ (hT.plt i 0 hi (by omega)) (hT.slt i 0 hi (by omega))).1 (.inl (h10 0 (by omega)))
    refine ⟨v1, v2, ?_⟩
    rcases s.me with ⟨h2, _⟩ | ⟨h2, _, h3⟩ | ⟨h2, _⟩ | h2 | h2
    · omega
    · rcases h3 with h3 | ⟨h3, h4, h5⟩
      · exact .inl h3
      · by_cases e : (lfH T m' i).a = 1
        · exact .inl e
        · refine .inr ?_
          have v1' : 1 ≤ (lfH T m' i).a := v1
          rw [h5] at v1' e ⊢
          exact k.giv i hi h2 h3 h4 (by omega)
    · omega
    · omega
    · omega
theorem HInv.stepT (h : HInv T bud m Q O) (k : Ten T m last) (hT : T.Ok) (hi : i < T.n) : TStep T m (stepHm T bud m i) i := by
  have hd := hT.d1
  unfold stepHm
  by_cases c0 : (sv m.S i).pc = 0 ∨ (sv m.S i).pc = 10
  · rw [if_pos c0]
    refine ⟨fun _ _ _ => .inl rfl, ?_⟩
    rcases c0 with c0 | c0
    · exact .inr (.inr (.inr (.inl c0)))
    · exact .inl ⟨.inl c0, .inr (.inr c0), rfl⟩
  rw [if_neg c0]
  have hx := h.x i
  obtain ⟨K, kk, o⟩ := h.t i hi
  obtain ⟨c, hc, hcD, hcK, a0, a10, a14⟩ := TOwn.act kk c0
  rw [hc]
  simp only [Int.toNat_natCast]
  have hv := hT.plt i c hi hcD
  have hj := hT.slt i c hi hcD
  have hlev : ∀ k, k < T.D → k ≠ c → T.pl i k ≠ T.pl i c := fun k hk hne e => by
    have e1 := hT.lv i k hi hk
    have e2 := hT.lv i c hi hcD
    rw [e] at e1; omega
  have hlv : ∀ t, t < T.n → T.pl t 0 = T.pl i c → c = 0 := fun t ht e => by
    have e1 := hT.lv t 0 ht (by omega)
    have e2 := hT.lv i c hi hcD
    rw [e] at e1; omega
  obtain ⟨v, hvd⟩ : ∃ v, v = T.pl i c := ⟨_, rfl⟩
  obtain ⟨j, hjd⟩ : ∃ j, j = T.sl i c := ⟨_, rfl⟩
  have hva := hx.va _ _ hv hj
  rw [← hvd] at hv hj hva a0 a10 a14 hlev hlv ⊢
  rw [← hjd] at hj hva a0 a10 a14 ⊢
  rw [if_neg (fun e => e.elim a0 a10)]
  have hcc : (sv (m.P v) j).pc = 14 ∨ (sv (m.P v) j).pc = 16 → (sv (m.P v) j).c ≠ 0 := fun e => by
    rcases e with e | e
    · exact a14 e
    · have e1 := hva.1 (.inr (.inr e))
      have e2 := hva.2 (.inr e)
      show (m.sp v j).c ≠ 0
      omega
  obtain ⟨Qn, R⟩ := rungStep (ar := arW (m.W v)) (hx.rg v hv) (hT.nv32 v hv) hj a0 a10 hcc
  obtain ⟨x, hxd⟩ : ∃ x, x = stepP (arW (m.W v)) 1 ((j : Int) + 1) (sv (m.P v) j) := ⟨_, rfl⟩
  have hm1 : rstH m v j = { m with W := updH m.W v x.1.W, P := updH m.P v ((m.P v).set j x.2) } := by rw [hxd]; rfl
  rw [← hxd] at R
  have hlen : j < (m.P v).length := by rw [hx.len hv]; exact hj
  have hsp : ∀ a b, (rstH m v j).sp a b = if a = v ∧ b = j then x.2 else m.sp a b := fun a b => by rw [hm1]; exact sp_slot m v j x.2 hlen a b
  have hs1 : (rstH m v j).sp v j = x.2 := by rw [hsp, if_pos ⟨rfl, rfl⟩]
  have hS : (rstH m v j).S = m.S := rfl
  have hl : i < (rstH m v j).S.length := by rw [hS]; exact lenS hx hi
  rw [hs1]
  have lf0 : c = 0 → lfH T (rstH m v j) i = x.2 ∧ lfH T m i = m.sp v j ∧ lgH T m i = sgv (m.W v) j ∧ T.pl i 0 = v := fun e => by
    subst e
    unfold lfH lgH
    rw [← hvd, ← hjd, hs1]
    exact ⟨rfl, rfl, rfl, rfl⟩
  have lf1 : c ≠ 0 → lfH T (rstH m v j) i = lfH T m i := fun e => by
    unfold lfH
    rw [hsp, if_neg fun e' => hlev 0 (by omega) (fun h => e h.symm) e'.1]
  have hsg : ∀ t, t < T.n → t ≠ i → lgH T (rstH m v j) t = lgH T m t ∨ (c = 0 ∧ T.pl t 0 = v ∧ ((m.sp v j).pc = 14 ∨ (m.sp v j).pc = 16) ∧ lgH T (rstH m v j) t = (m.sp v j).c) := fun t ht hti => by
    unfold lgH Hm.sg
    rw [hm1]
    show sgv (updH m.W v x.1.W (T.pl t 0)) _ = _ ∨ (_ ∧ _ ∧ _ ∧ sgv (updH m.W v x.1.W (T.pl t 0)) _ = _)
    by_cases e : T.pl t 0 = v
    · rw [e, updH_eq]
      have e0 := hlv t ht e
      subst e0
      have hbj : T.sl t 0 ≠ j := fun e2 => hti (hT.leaf t i ht hi (by rw [e, hvd]) (by rw [e2, hjd]))
      by_cases hgv : ((sv (m.P v) j).pc = 14 ∨ (sv (m.P v) j).pc = 16) ∧ Qn[0]? = some (T.sl t 0)
      · refine .inr ⟨rfl, rfl, hgv.1, ?_⟩
        cases R.case_ with
        | give s r e =>
          obtain ⟨_, _, _, e4, _, e6⟩ := e
          rw [e4] at hgv
          obtain rfl : s = T.sl t 0 := by simpa using hgv.2
          exact e6
        | walk e => have := e.1; omega
        | come e => have := e.1; omega
        | link e => have := e.1; omega
        | spin e => have := e.1; omega
        | told e => have := e.1; omega
        | sent e => have := e.1; omega
        | hold e => have := e.1; omega
        | out e => have := e.2.1; omega
        | free e => have := e.1; omega
        | look e => have := e.1; omega
      · exact .inl (R.st _ hbj fun e1 e2 => hgv ⟨e1, e2⟩)
    · rw [updH_ne _ _ e]; exact .inl rfl
  have sgs : (∀ (_ : (m.sp v j).pc = 14), (m.sp v j).c ≤ 1) → ((m.sp v j).pc = 16 → (sv m.S i).pc = 11) → ∀ m2 : Hm, m2.W = (rstH m v j).W → ∀ t, t < T.n → t ≠ i → lgH T m2 t = lgH T m t ∨ lgH T m2 t ≤ 1 ∨ ((sv m.S i).pc = 11 ∧ T.pl t 0 = T.pl i 0 ∧ lgH T m2 t = (lfH T m i).a + 1) := fun p14 p16 m2 hm2 t ht hti => by
    have e : lgH T m2 t = lgH T (rstH m v j) t := by unfold lgH Hm.sg; rw [hm2]
    rw [e]
    rcases hsg t ht hti with h1 | ⟨h1, h2, h3, h4⟩
    · exact .inl h1
    · rcases h3 with h3 | h3
      · exact .inr (.inl (by rw [h4]; exact p14 h3))
      · refine .inr (.inr ⟨p16 h3, by rw [h2, (lf0 h1).2.2.2], ?_⟩)
        have v2 := (hva.2 (.inr h3)).1
        rw [h4, (lf0 h1).2.1, v2]
  cases kk with
  | rest hh => exact absurd (.inl hh) c0
  | hold hh _ => exact absurd (.inr hh) c0
  | come c' hh ha hg hb =>
    obtain rfl : c = c' := by have := hh.2.1; omega
    rw [← hvd, ← hjd] at ha hg
    have ha1 : 1 ≤ (m.sp v j).pc := ha.1
    have ha2 : (m.sp v j).pc ≤ 6 := ha.2
    have S := sgs (fun e => by omega) (fun e => by omega)
    have w0 : x.2.pc = 5 → Qn[0]? ≠ some j → sgv x.1.W j = 0 := fun e5 hn => R.inv.wait0 hj (by rw [sv_self _ hlen]; exact e5) hn
    have lg0 : c = 0 → lgH T (rstH m v j) i = sgv x.1.W j := fun e => by
      subst e
      unfold lgH Hm.sg
      rw [hm1, ← hvd, ← hjd]
      show sgv (updH m.W v x.1.W v) j = _
      rw [updH_eq]
    have stay : (x.2.pc = 5 → sgv x.1.W j = 0) → TStep T m (rstH m v j) i := fun e3 => by
      refine ⟨S _ rfl, .inr (.inr (.inl ⟨hh.1, fun e1 => ?_, fun e1 e5 => ?_⟩))⟩
      · rw [hS] at e1
        rw [lf1 (by have := hh.2.1; omega)]
        exact k.up i hi hh.1 e1
      · rw [hS] at e1
        have e0 : c = 0 := by have := hh.2.1; omega
        rw [(lf0 e0).1] at e5
        rw [lg0 e0, e3 e5]; decide
    cases R.case_ with
    | walk e =>
      obtain ⟨e1, e2, rfl⟩ := e
      have e2' : x.2.pc = (m.sp v j).pc + 1 := e2
      have e1' : (m.sp v j).pc = 1 ∨ (m.sp v j).pc = 2 := e1
      rw [if_pos (by omega)]
      exact stay (fun e => by omega)
    | come e =>
      obtain ⟨e1, _, e3⟩ := e
      rw [if_pos (by omega)]
      exact stay (fun e => by omega)
    | link e =>
      obtain ⟨e1, e2, rfl, e4⟩ := e
      rw [if_pos (by omega)]
      exact stay (fun e => w0 e e4)
    | spin e =>
      obtain ⟨e1, e2, _, rfl, e4⟩ := e
      rw [if_pos (by omega)]
      exact stay (fun e => w0 e e4)
    | told e => exact absurd e.2.2.1 (hg e.1)
    | sent e =>
      obtain ⟨e1, e2, _, rfl, e4⟩ := e
      rw [if_pos (by omega)]
      exact stay (fun e => by omega)
    | hold e =>
      obtain ⟨e1, e2, e3, e4, rfl, e6⟩ := e
      rw [if_neg (fun hn => hn (.inr e2)), if_pos hh.1]
      have la : (lfH T (rstH m v j) i).a = 1 := by
        by_cases e : c = 0
        · rw [(lf0 e).1]; exact e3
        · rw [lf1 e]; exact k.up i hi hh.1 (by have := hh.2.1; omega)
      unfold comeH
      rw [← hvd, ← hjd, hs1, hS]
      by_cases hD : c + 1 = T.D
      · rw [if_pos (.inr hD)]
        refine ⟨S _ rfl, .inr (.inl ⟨hh.1, ?_, .inl la⟩)⟩
        rw [sv_thr _ _ hl]
      · rw [if_neg (by omega)]
        have hcD1 : c + 1 < T.D := by omega
        refine ⟨S _ (askH_W _ _ _), .inr (.inr (.inl ⟨?_, fun _ => ?_, fun e5 => ?_⟩))⟩
        · rw [sv_thr _ _ (by rw [askH_S]; exact hl)]; exact hh.1
        · rw [← la]
          unfold lfH
          rw [thr_sp, askH_sp]
          exact .inl fun e' => by
            have e1 := hT.lv i 0 hi (by omega)
            have e2 := hT.lv i (c + 1) hi hcD1
            rw [e'.1] at e1; omega
        · rw [sv_thr _ _ (by rw [askH_S]; exact hl)] at e5
          have e5' : (c : Int) + 1 = 0 := e5
          omega
    | out e => have : 11 ≤ (m.sp v j).pc := e.1; omega
    | free e => have : (m.sp v j).pc = 12 := e.1; omega
    | give s r e => have : (m.sp v j).pc = 14 ∨ (m.sp v j).pc = 16 := e.1; omega
    | look e => have : (m.sp v j).pc = 15 := e.1; omega
  | granted c' hh ha hb =>
    obtain rfl : c = c' := by have := hh.2.1; omega
    rw [← hvd, ← hjd] at ha
    have ha1 : (m.sp v j).pc = 5 := ha.1
    have ha2 : 0 < sgv (m.W v) j := ha.2
    have S := sgs (fun e => by omega) (fun e => by omega)
    cases R.case_ with
    | told e =>
      obtain ⟨e1, e2, e3, e4, e5, rfl, e6⟩ := e
      rw [if_neg (fun hn => hn (.inr e2)), if_pos hh.1]
      have e4' : x.2.a = sgv (m.W v) j := e4
      unfold comeH
      rw [← hvd, ← hjd, hs1, hS, if_pos (.inl e5)]
      refine ⟨S _ rfl, .inr (.inl ⟨hh.1, ?_, ?_⟩)⟩
      · rw [sv_thr _ _ hl]
      · by_cases e : c = 0
        · refine .inr ⟨by have := hh.2.1; omega, by rw [(lf0 e).2.1]; exact ha1, ?_⟩
          have := (lf0 e).1
          show (lfH T (rstH m v j) i).a = _
          rw [this, e4', (lf0 e).2.2.1]
        · refine .inl ?_
          show (lfH T (rstH m v j) i).a = _
          rw [lf1 e]; exact k.up i hi hh.1 (by have := hh.2.1; omega)
    | spin e => have : sgv (m.W v) j = 0 := e.2.2.1; omega
    | sent e => have : sgv (m.W v) j < 0 := e.2.2.1; omega
    | walk e => have : (m.sp v j).pc = 1 ∨ (m.sp v j).pc = 2 := e.1; omega
    | come e => have : (m.sp v j).pc = 3 := e.1; omega
    | link e => have : (m.sp v j).pc = 4 := e.1; omega
    | hold e => have : (m.sp v j).pc = 6 := e.1; omega
    | out e => have : 11 ≤ (m.sp v j).pc := e.1; omega
    | free e => have : (m.sp v j).pc = 12 := e.1; omega
    | give s r e => have : (m.sp v j).pc = 14 ∨ (m.sp v j).pc = 16 := e.1; omega
    | look e => have : (m.sp v j).pc = 15 := e.1; omega
  | pass c' hh ha hb =>
    obtain rfl : c = c' := by have := hh.2.1; omega
    rw [← hvd, ← hjd] at ha
    have ha' : (m.sp v j).pc = 15 ∨ (m.sp v j).pc = 16 := ha
    have S := sgs (fun e => by omega) (fun _ => hh.1)
    have laa : x.2.a = (m.sp v j).a → (lfH T (rstH m v j) i).a = (lfH T m i).a := fun e3 => by
      by_cases e : c = 0
      · rw [(lf0 e).1, (lf0 e).2.1]; exact e3
      · rw [lf1 e]
    cases R.case_ with
    | look e =>
      obtain ⟨e1, e2, e3, e4, rfl, e6⟩ := e
      rcases e2 with e2 | e2
      · rw [if_neg (fun hn => hn (.inr e2)), if_neg (by have := hh.1; omega), if_neg (by omega)]
        obtain ⟨h1, h2⟩ := begH_T (T := T) (bud := bud) T.D (rstH m v j) (c + 1) hl hh.2.2 (by omega)
        refine ⟨S _ (begH_keep (T := T) (bud := bud) hi T.D (rstH m v j) (c + 1) hh.2.2).1, .inl ⟨.inr hh.1, ?_, ?_⟩⟩
        · rcases h1 with h1 | h1
          · exact .inl h1
          · exact .inr (.inl h1)
        · rw [← laa e3]; exact h2 _ _
      · rw [if_pos (by omega)]
        exact ⟨S _ rfl, .inl ⟨.inr hh.1, .inl hh.1, laa e3⟩⟩
    | give s r e =>
      rw [if_neg (fun hn => hn (.inl e.2.1)), if_neg (by have := hh.1; omega), if_pos e.2.1]
      refine ⟨S _ (downH_keep (T := T) (m := rstH m v j) (i := i) c).1, .inr (.inr (.inr ?_))⟩
      exact downH_T hl c
    | walk e => have : (m.sp v j).pc = 1 ∨ (m.sp v j).pc = 2 := e.1; omega
    | come e => have : (m.sp v j).pc = 3 := e.1; omega
    | link e => have : (m.sp v j).pc = 4 := e.1; omega
    | spin e => have : (m.sp v j).pc = 5 := e.1; omega
    | told e => have : (m.sp v j).pc = 5 := e.1; omega
    | sent e => have : (m.sp v j).pc = 5 := e.1; omega
    | hold e => have : (m.sp v j).pc = 6 := e.1; omega
    | out e => have : 11 ≤ (m.sp v j).pc := e.1; have : (m.sp v j).pc ≤ 13 := e.2.1; omega
    | free e => have : (m.sp v j).pc = 12 := e.1; omega
  | leave c' hh ha hcf hb =>
    obtain rfl : c = c' := by have := hh.2.1; omega
    rw [← hvd, ← hjd] at ha hcf
    have ha1 : 11 ≤ (m.sp v j).pc := ha.1
    have ha2 : (m.sp v j).pc ≤ 14 := ha.2
    have S := sgs (fun e => by rw [hcf]; split <;> decide) (fun e => by omega)
    cases R.case_ with
    | out e =>
      obtain ⟨e1, e2, e3, rfl, e5, e6⟩ := e
      have e1' : 11 ≤ (m.sp v j).pc := e1
      have e2' : (m.sp v j).pc ≤ 13 := e2
      have e6' : 11 ≤ x.2.pc ∧ x.2.pc ≤ 14 := by
        rcases e6 with ⟨h1, h2⟩ | ⟨h1, h2, _⟩
        · have h1' : (m.sp v j).pc < x.2.pc := h1; omega
        · omega
      rw [if_pos (by omega)]
      exact ⟨S _ rfl, .inr (.inr (.inr (.inr hh.1)))⟩
    | free e =>
      rw [if_neg (fun hn => hn (.inl e.2.1)), if_neg (by have := hh.1; omega), if_pos e.2.1]
      exact ⟨S _ (downH_keep (T := T) (m := rstH m v j) (i := i) c).1, .inr (.inr (.inr (downH_T hl c)))⟩
    | give s r e =>
      rw [if_neg (fun hn => hn (.inl e.2.1)), if_neg (by have := hh.1; omega), if_pos e.2.1]
      exact ⟨S _ (downH_keep (T := T) (m := rstH m v j) (i := i) c).1, .inr (.inr (.inr (downH_T hl c)))⟩
    | walk e => have : (m.sp v j).pc = 1 ∨ (m.sp v j).pc = 2 := e.1; omega
    | come e => have : (m.sp v j).pc = 3 := e.1; omega
    | link e => have : (m.sp v j).pc = 4 := e.1; omega
    | spin e => have : (m.sp v j).pc = 5 := e.1; omega
    | told e => have : (m.sp v j).pc = 5 := e.1; omega
    | sent e => have : (m.sp v j).pc = 5 := e.1; omega
    | hold e => have : (m.sp v j).pc = 6 := e.1; omega
    | look e => have : (m.sp v j).pc = 15 := e.1; omega
/-- who leaves -/
theorem HInv.leaveT (h : HInv T bud m Q O) (k : Ten T m last) (hT : T.Ok) (hi : i < T.n) : Ten T (leaveHm T bud m i) last := by
  by_cases h10 : (sv m.S i).pc = 10
  · have f := h.leaveFr hT hi
    have e : leaveHm T bud m i = begH T bud T.D m i 0 := by unfold leaveHm; rw [if_pos h10]
    rw [e] at f ⊢
    obtain ⟨h1, h2⟩ := begH_T (T := T) (bud := bud) T.D m 0 (lenS (h.x i) hi) hT.d1 (by omega)
    have hW := (begH_keep (T := T) (bud := bud) hi T.D m 0 hT.d1).1
    refine k.next h hT hi f ⟨fun t _ _ => .inl (by unfold lgH Hm.sg; rw [hW]), .inl ⟨.inl h10, ?_, h2 _ _⟩⟩ (fun e => by omega)
    rcases h1 with h1 | h1
    · exact .inl h1
    · exact .inr (.inl h1)
  · have e : leaveHm T bud m i = m := by unfold leaveHm; rw [if_neg h10]
    rw [e]; exact k
/-- who asks -/
theorem HInv.askT (h : HInv T bud m Q O) (k : Ten T m last) (hT : T.Ok) (hi : i < T.n) : Ten T (askHm T m i) last := by
  by_cases h0 : (sv m.S i).pc = 0
  · have hd := hT.d1
    have hl : i < (askH m (T.pl i 0) (T.sl i 0)).S.length := by rw [askH_S]; exact lenS (h.x i) hi
    have e : askHm T m i = (askH m (T.pl i 0) (T.sl i 0)).thr i ⟨1, 0, 0, 0⟩ := by unfold askHm; rw [if_pos h0]
    have hn : O (T.pl i 0) (T.sl i 0) = none := by
      cases hO : O (T.pl i 0) (T.sl i 0) with
      | none => rfl
      | some u =>
        obtain ⟨hu, c, hc, e1, e2⟩ := (h.x i).ow _ _ _ hO
        have l1 := hT.lv i 0 hi (by omega)
        have l2 := hT.lv u c hu hc
        obtain rfl : c = 0 := by rw [e1] at l1; omega
        obtain rfl := hT.leaf i u hi hu e1 e2
        obtain ⟨K, kk, o⟩ := h.t i hi
        have := (o 0 (by omega)).1 hO
        cases kk with
        | rest _ => omega
        | come c hh _ _ _ => have := hh.1; omega
        | granted c hh _ _ => have := hh.1; omega
        | hold hh _ => omega
        | pass c hh _ _ => have := hh.1; omega
        | leave c hh _ _ _ => have := hh.1; omega
    have hv := hT.plt i 0 hi (by omega)
    have hj := hT.slt i 0 hi (by omega)
    have p0 := (h.x i).fr _ _ hv hj hn
    have ea : askH m (T.pl i 0) (T.sl i 0) = m.slot (T.pl i 0) (T.sl i 0) { m.sp (T.pl i 0) (T.sl i 0) with pc := 1 } := by unfold askH; rw [if_pos p0]
    have hsp := sp_slot m (T.pl i 0) (T.sl i 0) { m.sp (T.pl i 0) (T.sl i 0) with pc := 1 } (by rw [(h.x i).len hv]; exact hj)
    rw [e]
    have lf : ∀ t, t < T.n → t ≠ i → lfH T ((askH m (T.pl i 0) (T.sl i 0)).thr i ⟨1, 0, 0, 0⟩) t = lfH T m t := fun t ht hti => by
      unfold lfH
      rw [thr_sp, ea, hsp, if_neg (fun e => hti (hT.leaf t i ht hi e.1 e.2))]
    have lg : ∀ t, lgH T ((askH m (T.pl i 0) (T.sl i 0)).thr i ⟨1, 0, 0, 0⟩) t = lgH T m t := fun t => by
      unfold lgH Hm.sg
      show sgv ((askH m _ _).W _) _ = _
      rw [askH_W]
    have oS : ∀ t, t ≠ i → sv ((askH m (T.pl i 0) (T.sl i 0)).thr i ⟨1, 0, 0, 0⟩).S t = sv m.S t := fun t hti => by rw [thr_S _ _ hti, askH_S]
    have iS : sv ((askH m (T.pl i 0) (T.sl i 0)).thr i ⟨1, 0, 0, 0⟩).S i = ⟨1, 0, 0, 0⟩ := sv_thr _ _ hl
    refine ⟨fun t ht h1 hc => ?_, fun t ht h1 => ?_, fun t ht h1 hc h5 hg => ?_⟩
    · by_cases e : t = i
      · subst e; rw [iS] at hc; exact absurd hc (by decide)
      · rw [oS t e] at h1 hc; rw [lf t ht e]; exact k.up t ht h1 hc
    · by_cases e : t = i
      · subst e; rw [iS] at h1; exact absurd h1 (by decide)
      · rw [oS t e] at h1; rw [lf t ht e]; exact k.own t ht h1
    · by_cases e : t = i
      · subst e
        unfold lfH at h5
        rw [thr_sp, ea, hsp, if_pos ⟨rfl, rfl⟩] at h5
        exact absurd h5 (by show ¬ (1 : Int) = 5; decide)
      · rw [oS t e] at h1 hc; rw [lf t ht e] at h5; rw [lg] at hg ⊢; exact k.giv t ht h1 hc h5 hg
  · have e : askHm T m i = m := by unfold askHm; rw [if_neg h0]
    rw [e]; exact k
theorem Ten.start (T : HTr) : Ten T (hm0 T) none := by
  have hS : ∀ t, sv (hm0 T).S t = Sp.zero := fun t => sv_repH _ _
  refine ⟨fun t _ h1 _ => ?_, fun t _ h1 => ?_, fun t _ h1 _ _ _ => ?_⟩
  · rw [hS] at h1; exact absurd h1 (by decide)
  · rw [hS] at h1; exact absurd h1 (by decide)
  · rw [hS] at h1; exact absurd h1 (by decide)
end
end Go.Proofs.YtkdaiomjbkpedaaGreat
end
section
/- Layers 7, 27: the ways up from leaves; plain lists. -/
namespace Go.Proofs.YtkdaiomjbkpedaaGreat
open Go.RowKit

theorem up_nil {P : List Int} {v : Int} (h : v < 0) : upL P v = [] := upL_neg h
theorem up_at {P : List Int} (h : treeB P = true) : ∀ (v : Nat), v < P.length → (upL P v).length = depL P v ∧ ∀ (i : Nat) (u : Int), (upL P v)[i]? = some u → 0 ≤ u ∧ u < P.length ∧ (upL P v).drop i = upL P u ∧ depL P u + i = depL P v := by
  intro v
  induction v using Nat.strongRecOn with
  | _ v ih =>
    intro hv
    obtain ⟨p, hp⟩ := getElem?_lt hv
    have hl := tree_lt h hp
    rw [upL_step h hp, depL_step h hp]
    by_cases h0 : 0 ≤ p
    · obtain ⟨n, rfl⟩ := Int.eq_ofNat_of_zero_le h0
      obtain ⟨h1, h2⟩ := ih n (by omega) (by omega)
      rw [if_pos h0]
      refine ⟨by rw [List.length_cons, h1], fun i u hu => ?_⟩
      cases i with
      | zero =>
        simp at hu
        subst hu
        exact ⟨by omega, by omega, by rw [List.drop_zero, upL_step h hp], by rw [depL_step h hp, if_pos h0]⟩
      | succ i =>
        rw [List.getElem?_cons_succ] at hu
        obtain ⟨a1, a2, a3, a4⟩ := h2 i u hu
        exact ⟨a1, a2, by rw [List.drop_succ_cons]; exact a3, by omega⟩
    · rw [if_neg h0, up_nil (by omega)]
      refine ⟨rfl, fun i u hu => ?_⟩
      cases i with
      | zero =>
        simp at hu
        subst hu
        exact ⟨by omega, by omega, by rw [List.drop_zero, upL_step h hp, up_nil (by omega)], by rw [depL_step h hp, if_neg h0]⟩
      | succ i => simp at hu
theorem dep_pos {P : List Int} {v : Nat} (hv : v < P.length) : 1 ≤ depL P v := depL_pos hv
/-- two leaves of one depth: what lies on both ways lies at one height -/
structure Pair2 (P : List Int) (x y : Int) : Prop where
  tr : treeB P = true
  x0 : 0 ≤ x
  y0 : 0 ≤ y
  xl : x < P.length
  yl : y < P.length
  d : depL P x = depL P y
theorem Pair2.symm {P : List Int} {x y : Int} (h : Pair2 P x y) : Pair2 P y x := ⟨h.tr, h.y0, h.x0, h.yl, h.xl, h.d.symm⟩
theorem up_at' {P : List Int} (h : treeB P = true) {x : Int} (h0 : 0 ≤ x) (hl : x < P.length) : (upL P x).length = depL P x ∧ ∀ (i : Nat) (u : Int), (upL P x)[i]? = some u → 0 ≤ u ∧ u < P.length ∧ (upL P x).drop i = upL P u ∧ depL P u + i = depL P x := by
  obtain ⟨n, rfl⟩ := Int.eq_ofNat_of_zero_le h0
  exact up_at h n (by omega)
theorem Pair2.both {P : List Int} {x y : Int} (h : Pair2 P x y) {i : Nat} {u : Int} (hu : (upL P x)[i]? = some u) : u ∈ upL P y ↔ (upL P y)[i]? = some u := by
  constructor
  · intro hm
    obtain ⟨j, hj⟩ := List.getElem?_of_mem hm
    have h1 := ((up_at' h.tr h.x0 h.xl).2 i u hu).2.2.2
    have h2 := ((up_at' h.tr h.y0 h.yl).2 j u hj).2.2.2
    have hd := h.d
    obtain rfl : i = j := by omega
    exact hj
  · exact List.mem_of_getElem?
theorem Pair2.later {P : List Int} {x y : Int} (h : Pair2 P x y) {i j : Nat} {u : Int} (hu : (upL P x)[i]? = some u) (hv : (upL P y)[i]? = some u) (hij : i ≤ j) : (upL P x)[j]? = (upL P y)[j]? := by
  have h1 := ((up_at' h.tr h.x0 h.xl).2 i u hu).2.2.1
  have h2 := ((up_at' h.tr h.y0 h.yl).2 i u hv).2.2.1
  have e : (upL P x).drop i = (upL P y).drop i := by rw [h1, h2]
  have e2 := congrArg (fun l => l[j - i]?) e
  simp only [List.getElem?_drop] at e2
  rw [show i + (j - i) = j by omega] at e2
  exact e2
theorem root_last {P : List Int} (h : treeB P = true) {x : Int} (h0 : 0 ≤ x) (hl : x < P.length) : 1 ≤ depL P x ∧ (upL P x)[depL P x - 1]? = some 0 := by
  have hp : 1 ≤ depL P x := by
    obtain ⟨n, rfl⟩ := Int.eq_ofNat_of_zero_le h0
    exact dep_pos (by omega)
  refine ⟨hp, ?_⟩
  obtain ⟨h1, h2⟩ := up_at' h h0 hl
  obtain ⟨u, hu⟩ := getElem?_lt (show depL P x - 1 < (upL P x).length by omega)
  obtain ⟨a1, a2, a3, a4⟩ := h2 _ u hu
  obtain ⟨n, rfl⟩ := Int.eq_ofNat_of_zero_le a1
  obtain ⟨p, hpp⟩ := getElem?_lt (show n < P.length by omega)
  have hd := depL_step h hpp
  have ht := tree_at h hpp
  have hn0 : n = 0 := by
    rcases Nat.eq_zero_or_pos n with e | e
    · exact e
    · have hb := ht.2 e
      rw [if_pos hb.1] at hd
      obtain ⟨m, rfl⟩ := Int.eq_ofNat_of_zero_le hb.1
      have := dep_pos (P := P) (v := m) (by omega)
      omega
  subst hn0
  exact hu
end Go.Proofs.YtkdaiomjbkpedaaGreat
end
section
/- Layer 27 (hmcs): the tree of rungs of a topology. No program in sight. -/
namespace Go.Proofs.YtkdaiomjbkpedaaGreat
open Go.RowKit

/-- the places whose parent p is, of the first k -/
def chTo (P : List Int) (p : Int) (k : Nat) : List Int := ((List.range k).map Int.ofNat).filter fun v => decide (P.getD v.toNat 0 = p)
def chL (P : List Int) (p : Int) : List Int := chTo P p P.length
/-- how many slots a place's rung has -/
def nvT (P T : List Int) (v : Nat) : Nat := if chL P v = [] then max 1 (T.count (v : Int)) else (chL P v).length
/-- of a leaf x: its place at level k -/
def plX (P : List Int) (x : Int) (k : Nat) : Int := (upL P x).getD k 0
/-- of the thread i, a leaf x: its slot at level k -/
def slX (P T : List Int) (i : Nat) (x : Int) : Nat → Int
  | 0 => slotOf T i
  | k + 1 => idxI (chL P (plX P x (k + 1))) (plX P x k)
def treeT (P T : List Int) : HTr := ⟨(depT P T).toNat, T.length, P.length, fun t k => (plX P (T.getD t 0) k).toNat, fun t k => (slX P T t (T.getD t 0) k).toNat, nvT P T, fun v => (depT P T).toNat - depL P v⟩
theorem chTo_succ (P : List Int) (p : Int) {k : Nat} {q : Int} (h : P[k]? = some q) : chTo P p (k + 1) = if q = p then chTo P p k ++ [(k : Int)] else chTo P p k := by
  unfold chTo
  rw [List.range_succ, List.map_append, List.filter_append]
  show _ ++ List.filter _ [(k : Int)] = _
  have e : P.getD (k : Int).toNat 0 = q := by rw [Int.toNat_natCast, getD_of h]
  by_cases hq : q = p
  · rw [if_pos hq, List.filter_cons_of_pos (by simpa only [decide_eq_true_eq, e] using hq)]; rfl
  · have : ¬ P.getD (k : Int).toNat 0 = p := by rw [e]; exact hq
    rw [if_neg hq, List.filter_cons_of_neg (by simpa only [decide_eq_true_eq] using this)]
    simp
theorem chTo_len (P : List Int) (p : Int) (k : Nat) : (chTo P p k).length ≤ k := by
  unfold chTo
  have := List.length_filter_le (fun v : Int => decide (P.getD v.toNat 0 = p)) ((List.range k).map Int.ofNat)
  simpa using this
theorem mem_ch {P : List Int} {p : Int} {v : Nat} (h : P[v]? = some p) : (v : Int) ∈ chL P p := by
  unfold chL chTo
  rw [List.mem_filter]
  have := (List.getElem?_eq_some_iff.1 h).1
  refine ⟨List.mem_map.2 ⟨v, List.mem_range.2 this, rfl⟩, ?_⟩
  simp only [decide_eq_true_eq, Int.toNat_natCast]
  exact getD_of h
theorem ch_mem {P : List Int} {p v : Int} (h : v ∈ chL P p) : ∃ n : Nat, v = n ∧ P[n]? = some p := by
  unfold chL chTo at h
  rw [List.mem_filter, List.mem_map] at h
  obtain ⟨⟨a, ha, rfl⟩, h2⟩ := h
  have hl := List.mem_range.1 ha
  refine ⟨a, rfl, ?_⟩
  simp only [decide_eq_true_eq] at h2
  have e : (Int.ofNat a).toNat = a := rfl
  rw [e] at h2
  obtain ⟨q, hq⟩ := getElem?_lt hl
  rw [getD_of hq] at h2
  rw [hq, h2]
/-- a leaf has no children -/
theorem leaf_ch {P : List Int} {x : Int} (h : leafB P x = true) : chL P x = [] := by
  cases hc : chL P x with
  | nil => rfl
  | cons a l =>
    obtain ⟨n, rfl, hn⟩ := ch_mem (P := P) (p := x) (v := a) (by rw [hc]; simp)
    exact absurd (List.mem_of_getElem? hn) (leaf_lt h).2.2
/-- of one who is on its way: what is on it -/
structure XAt (P T : List Int) (i : Nat) (x : Int) : Prop where
  at_ : T[i]? = some x
  leaf : leafB P x = true
  len : (upL P x).length = (depT P T).toNat
  up : ∀ k, k < (depT P T).toNat → ∃ v : Nat, (upL P x)[k]? = some (v : Int) ∧ v < P.length ∧ plX P x k = v ∧ depL P v + k = (depT P T).toNat ∧ (upL P x).drop k = upL P v
theorem xAt {P T : List Int} (h : chkT P T = 0) {i : Nat} (hi : i < T.length) : ∃ x, XAt P T i x ∧ T.getD i 0 = x := by
  obtain ⟨x, hx⟩ := getElem?_lt hi
  have hm := thr_mem (chk_ok h).2.2.2 hx
  have hl := mem_leaves.1 hm
  have a := leaf_lt hl
  have d := depT_of h hm
  have d' : (depT P T).toNat = depL P x := by omega
  obtain ⟨h1, h2⟩ := up_at' (chk_ok h).2.1 a.1 a.2.1
  refine ⟨x, ⟨hx, hl, by rw [h1, d'], fun k hk => ?_⟩, getD_of hx⟩
  obtain ⟨u, hu⟩ := getElem?_lt (show k < (upL P x).length by omega)
  obtain ⟨a1, a2, a3, a4⟩ := h2 k u hu
  obtain ⟨v, rfl⟩ := Int.eq_ofNat_of_zero_le a1
  exact ⟨v, hu, by omega, by unfold plX; rw [getD_of hu], by omega, a3⟩
section
variable {P T : List Int}
/-- one level up is the parent -/
theorem XAt.par (h : chkT P T = 0) {i : Nat} {x : Int} (a : XAt P T i x) {k : Nat} (hk : k + 1 < (depT P T).toNat) {v u : Nat} (hv : plX P x k = v) (hu : plX P x (k + 1) = u) : P[v]? = some (u : Int) := by
  obtain ⟨v', b1, b2, b3, b4, b5⟩ := a.up k (by omega)
  obtain ⟨u', c1, c2, c3, c4, c5⟩ := a.up (k + 1) hk
  obtain rfl : v' = v := by omega
  obtain rfl : u' = u := by omega
  obtain ⟨p, hp⟩ := getElem?_lt b2
  rw [upL_step (chk_ok h).2.1 hp] at b5
  have e := congrArg (fun l => l[1]?) b5
  simp only [List.getElem?_drop, List.getElem?_cons_succ] at e
  rw [c1] at e
  by_cases h0 : 0 ≤ p
  · obtain ⟨n, rfl⟩ := Int.eq_ofNat_of_zero_le h0
    have hpl := tree_lt (chk_ok h).2.1 hp
    obtain ⟨q, hq⟩ := getElem?_lt (show n < P.length by omega)
    rw [upL_step (chk_ok h).2.1 hq] at e
    simp at e
    rw [hp, e]
  · rw [up_nil (by omega)] at e; simp at e
/-- the slot above -/
theorem XAt.above (h : chkT P T = 0) {i : Nat} {x : Int} (a : XAt P T i x) {k : Nat} (hk : k + 1 < (depT P T).toNat) : ∃ v u j : Nat, plX P x k = v ∧ plX P x (k + 1) = u ∧ v < P.length ∧ u < P.length ∧ slX P T i x (k + 1) = j ∧ (chL P u)[j]? = some (v : Int) := by
  obtain ⟨v, b1, b2, b3, b4, b5⟩ := a.up k (by omega)
  obtain ⟨u, c1, c2, c3, c4, c5⟩ := a.up (k + 1) hk
  have hm := mem_ch (a.par h hk b3 c3)
  obtain ⟨j, hj⟩ := Int.eq_ofNat_of_zero_le ((idx_nonneg (chL P u) v).1.2 hm)
  refine ⟨v, u, j, b3, c3, b2, c2, ?_, idx_get hm hj⟩
  show idxI (chL P (plX P x (k + 1))) (plX P x k) = j
  rw [b3, c3]; exact hj
theorem count_lt {T : List Int} {i u : Nat} {x : Int} (hi : T[i]? = some x) (hu : i < u) : (T.take i).count x < (T.take u).count x := by
  have e : T.take u = T.take (i + 1) ++ (T.drop (i + 1)).take (u - (i + 1)) := by
    rw [← List.take_add]; congr 1; omega
  rw [e, take_succ_of hi, List.count_append, List.count_append]
  simp
  omega
theorem treeT_ok (h : chkT P T = 0) : (treeT P T).Ok := by
  have hml := many_lt (chk_ok h).1
  have slot0 : ∀ t, t < T.length → ∀ x, T.getD t 0 = x → slX P T t x 0 = (((T.take t).count x : Nat) : Int) := fun t ht x hx => by
    show slotOf T t = _
    unfold slotOf; rw [hx]
  have hD : 1 ≤ (depT P T).toNat := by
    obtain ⟨x, a, _⟩ := xAt h (show 0 < T.length by omega)
    have b := leaf_lt a.leaf
    obtain ⟨h1, h2⟩ := root_last (chk_ok h).2.1 b.1 b.2.1
    rw [← a.len, (up_at' (chk_ok h).2.1 b.1 b.2.1).1]
    exact h1
  refine ⟨hD, fun t k ht hk => ?_, fun t k ht hk => ?_, fun v hv => ?_, fun t k ht hk => ?_, fun t u k ht hu hk e => ?_, fun t u k ht hu hk e e2 => ?_, fun t u ht hu => ?_, fun t u ht hu e e2 => ?_⟩
  · obtain ⟨x, a, ex⟩ := xAt h ht
    obtain ⟨v, b1, b2, b3, _⟩ := a.up k hk
    show (plX P (T.getD t 0) k).toNat < P.length
    rw [ex, b3]; exact b2
  · obtain ⟨x, a, ex⟩ := xAt h ht
    show (slX P T t (T.getD t 0) k).toNat < nvT P T (plX P (T.getD t 0) k).toNat
    rw [ex]
    cases k with
    | zero =>
      have a0 := leaf_lt a.leaf
      obtain ⟨n, rfl⟩ := Int.eq_ofNat_of_zero_le a0.1
      obtain ⟨v, b1, b2, b3, b4, b5⟩ := a.up 0 hk
      have e : plX P (n : Int) 0 = n := by
        obtain ⟨p, hp⟩ := getElem?_lt (show n < P.length by omega)
        unfold plX; rw [upL_step (chk_ok h).2.1 hp]; rfl
      rw [e, slot0 t ht _ ex, Int.toNat_natCast, Int.toNat_natCast]
      have c := count_lt a.at_ (show t < T.length from ht)
      rw [List.take_length] at c
      unfold nvT
      rw [if_pos (leaf_ch a.leaf)]
      omega
    | succ k =>
      obtain ⟨v, u, j, b1, b2, b3, b4, b5, b6⟩ := a.above h hk
      rw [b5, b2, Int.toNat_natCast, Int.toNat_natCast]
      have := (List.getElem?_eq_some_iff.1 b6).1
      unfold nvT
      rw [if_neg (fun e => by rw [e] at this; exact absurd this (Nat.not_lt_zero _))]
      exact this
  · show nvT P T v ≤ 32
    unfold nvT
    have h1 := chTo_len P v P.length
    have h2 := List.count_le_length (a := (v : Int)) (l := T)
    split
    · omega
    · show (chTo P v P.length).length ≤ 32
      omega
  · obtain ⟨x, a, ex⟩ := xAt h ht
    obtain ⟨v, b1, b2, b3, b4, _⟩ := a.up k hk
    show (depT P T).toNat - depL P (((plX P (T.getD t 0) k).toNat : Nat) : Int) = k
    rw [ex, b3, Int.toNat_natCast]
    omega
  · obtain ⟨x, a, ex⟩ := xAt h ht
    obtain ⟨y, b, ey⟩ := xAt h hu
    have hk' : k + 1 < (depT P T).toNat := hk
    obtain ⟨v, b1, b2, b3, b4, b5⟩ := a.up k (by omega)
    obtain ⟨v', c1, c2, c3, c4, c5⟩ := b.up k (by omega)
    have e' : (plX P (T.getD t 0) k).toNat = (plX P (T.getD u 0) k).toNat := e
    rw [ex, ey, b3, c3, Int.toNat_natCast, Int.toNat_natCast] at e'
    subst e'
    have f : (upL P x).drop k = (upL P y).drop k := by rw [b5, c5]
    have f2 := congrArg (fun l => l[1]?) f
    simp only [List.getElem?_drop] at f2
    have f3 : plX P x (k + 1) = plX P y (k + 1) := by
      unfold plX
      rw [List.getD_eq_getElem?_getD, List.getD_eq_getElem?_getD, f2]
    constructor
    · show (plX P (T.getD t 0) (k + 1)).toNat = (plX P (T.getD u 0) (k + 1)).toNat
      rw [ex, ey, f3]
    · show (idxI (chL P (plX P (T.getD t 0) (k + 1))) (plX P (T.getD t 0) k)).toNat = (idxI (chL P (plX P (T.getD u 0) (k + 1))) (plX P (T.getD u 0) k)).toNat
      rw [ex, ey, f3, b3, c3]
  · obtain ⟨x, a, ex⟩ := xAt h ht
    obtain ⟨y, b, ey⟩ := xAt h hu
    obtain ⟨v, w, j, b1, b2, b3, b4, b5, b6⟩ := a.above h hk
    obtain ⟨v', w', j', c1, c2, c3, c4, c5, c6⟩ := b.above h hk
    have e' : (plX P (T.getD t 0) (k + 1)).toNat = (plX P (T.getD u 0) (k + 1)).toNat := e
    have e2' : (slX P T t (T.getD t 0) (k + 1)).toNat = (slX P T u (T.getD u 0) (k + 1)).toNat := e2
    rw [ex, ey, b2, c2, Int.toNat_natCast, Int.toNat_natCast] at e'
    rw [ex, ey, b5, c5, Int.toNat_natCast, Int.toNat_natCast] at e2'
    subst e'
    subst e2'
    rw [b6] at c6
    show (plX P (T.getD t 0) k).toNat = (plX P (T.getD u 0) k).toNat
    rw [ex, ey, b1, c1]
    injection c6 with c6
    omega
  · obtain ⟨x, a, ex⟩ := xAt h ht
    obtain ⟨y, b, ey⟩ := xAt h hu
    have r : ∀ {i : Nat} {z : Int}, XAt P T i z → plX P z ((depT P T).toNat - 1) = 0 := fun {i z} c => by
      have q := leaf_lt c.leaf
      obtain ⟨_, h2⟩ := root_last (chk_ok h).2.1 q.1 q.2.1
      have hl := c.len
      rw [(up_at' (chk_ok h).2.1 q.1 q.2.1).1] at hl
      rw [hl] at h2
      unfold plX
      rw [getD_of h2]
    show (plX P (T.getD t 0) ((depT P T).toNat - 1)).toNat = (plX P (T.getD u 0) ((depT P T).toNat - 1)).toNat
    rw [ex, ey, r a, r b]
  · obtain ⟨x, a, ex⟩ := xAt h ht
    obtain ⟨y, b, ey⟩ := xAt h hu
    have z : ∀ {i : Nat} {z : Int}, XAt P T i z → plX P z 0 = z ∧ 0 ≤ z := fun {i z} c => by
      have q := leaf_lt c.leaf
      obtain ⟨n, rfl⟩ := Int.eq_ofNat_of_zero_le q.1
      obtain ⟨p, hp⟩ := getElem?_lt (show n < P.length by omega)
      exact ⟨by unfold plX; rw [upL_step (chk_ok h).2.1 hp]; rfl, q.1⟩
    have e' : (plX P (T.getD t 0) 0).toNat = (plX P (T.getD u 0) 0).toNat := e
    have e2' : (slX P T t (T.getD t 0) 0).toNat = (slX P T u (T.getD u 0) 0).toNat := e2
    rw [ex, ey, (z a).1, (z b).1] at e'
    have hxy : x = y := by have := (z a).2; have := (z b).2; omega
    subst hxy
    rw [ex, ey, slot0 t ht _ ex, slot0 u hu _ ey, Int.toNat_natCast, Int.toNat_natCast] at e2'
    rcases Nat.lt_trichotomy t u with hlt | he | hlt
    · have := count_lt a.at_ hlt; omega
    · exact he
    · have := count_lt b.at_ hlt; omega
theorem treeT_D (h : chkT P T = 0) : (treeT P T).D ≤ 5 := by
  have hml := many_lt (chk_ok h).1
  obtain ⟨x, a, ex⟩ := xAt h (show 0 < T.length by omega)
  have h3 := (chk_ok h).2.2.1
  unfold evenB at h3
  rw [List.all_eq_true] at h3
  have h4 := h3 x (mem_leaves.2 a.leaf)
  simp only [decide_eq_true_eq] at h4
  have b := leaf_lt a.leaf
  have := a.len
  rw [(up_at' (chk_ok h).2.1 b.1 b.2.1).1] at this
  show (depT P T).toNat ≤ 5
  omega
end
end Go.Proofs.YtkdaiomjbkpedaaGreat
end
