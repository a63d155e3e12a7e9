/- Joined: Hc2, Cn2, Cn3. -/
import Derived.Test.YtkdaiomjbkpedaaGreatMgCnaU2
section
/- Layer 29 (hclh): each step keeps what always holds. No program in sight. -/
namespace Go.Proofs.YtkdaiomjbkpedaaGreat
open Go

def upd (G : Nat → List Nat) (k : Nat) (l : List Nat) : Nat → List Nat := fun j => if j = k then l else G j
theorem upd_eq (G : Nat → List Nat) (k : Nat) (l : List Nat) : upd G k l k = l := by unfold upd; rw [if_pos rfl]
theorem upd_ne (G : Nat → List Nat) {k j : Nat} (l : List Nat) (h : j ≠ k) : upd G k l j = G j := by unfold upd; rw [if_neg h]
section
variable {nd n : Nat} {node : Nat → Nat} {W W' D D' : List Int} {S : List Sp} {G : Nat → List Nat} {i : Nat} {p' : Sp}
theorem lc_set {v u : Nat} (x : Int) (h : 1 + v < W.length) : lc (W.set (1 + v) x) u = if v = u then x else lc W u := by
  unfold lc
  by_cases e : v = u
  · subst e; rw [getD_set_eq _ _ _ h, if_pos rfl]
  · rw [getD_set_ne _ _ _ (by omega), if_neg e]
theorem tl_setL {v : Nat} (x : Int) : tl (W.set (1 + v) x) = tl W := getD_set_ne _ _ _ (by omega)
theorem tnw_setL {v t : Nat} (x : Int) (h : v < nd) : tnw nd (W.set (1 + v) x) t = tnw nd W t := getD_set_ne _ _ _ (by omega)
theorem HIv.nil1 (h : HIv nd n node W D S G) (hk : ∀ k, i ∉ G k) : G (i + 1) = [] := by
  rcases Classical.em (G (i + 1) = []) with e | e
  · exact e
  · exact absurd (mem_of_head (h.first i e)) (hk _)
/-- ask -/
theorem HIv.ask (h : HIv nd n node W D S G) (hi : i < n) (h0 : (sv S i).pc = 0) (hp : p'.pc = 1) : HIv nd n node W D (S.set i p') G := by
  have hk := h.at01 (.inl h0)
  have e := h.nil1 hk
  refine h.keep hi rfl (fun _ _ => rfl) rfl (fun k hm => hk k (List.mem_of_mem_tail hm)) (fun _ => .inr hp) (fun hne => absurd e hne) (fun _ _ _ _ => rfl) (fun hne => absurd e hne) (fun _ _ => .inr ⟨rfl, fun _ hne => absurd e hne⟩) (fun hh => absurd (mem_of_head hh) (hk 0))
/-- leave; and a look that tells that it is one's turn -/
theorem HIv.atFrontP (h : HIv nd n node W D S G) (hi : i < n) (hf : (G 0).head? = some i) (hp : p'.pc = 10 ∨ p'.pc = 11) : HIv nd n node W D (S.set i p') G := by
  have hm := mem_of_head hf
  have hno : G (i + 1) = [] := by
    rcases Classical.em (G (i + 1) = []) with e | e
    · exact e
    · have := h.dj _ _ _ hm (mem_of_head (h.first i e)); omega
  refine h.keep hi rfl (fun _ _ => rfl) rfl (fun k hm' => ?_) (fun hk => absurd hm (hk 0)) (fun hne => absurd hno hne) (fun _ _ _ _ => rfl) (fun hne => absurd hno hne) (fun _ _ => .inr ⟨rfl, fun _ hne => absurd hno hne⟩) (fun _ => .inr hp)
  have := h.dj _ _ _ hm (List.mem_of_mem_tail hm')
  subst this
  exact head_not_tail (h.nod 0) hf hm'
theorem HIv.masterNot (h : HIv nd n node W D S G) (hf : (G (i + 1)).head? = some i) : (∀ k, i ∉ (G k).tail) ∧ ¬ (G 0).head? = some i := by
  have hm := mem_of_head hf
  refine ⟨fun k hm' => ?_, fun hh => ?_⟩
  · have := h.dj _ _ _ hm (List.mem_of_mem_tail hm')
    subst this
    exact head_not_tail (h.nod _) hf hm'
  · have := h.dj _ _ _ hm (mem_of_head hh); omega
/-- step 2 -/
theorem HIv.s2 (h : HIv nd n node W D S G) (hi : i < n) (h2 : (sv S i).pc = 2) (hp : (p'.pc = 2 ∧ 0 < p'.b) ∨ p'.pc = 3) : HIv nd n node W D (S.set i p') G := by
  have hf := h.at234 hi (.inl h2)
  obtain ⟨q1, q2⟩ := h.masterNot hf
  refine h.keep hi rfl (fun _ _ => rfl) rfl q1 (fun hk => absurd (mem_of_head hf) (hk _)) (fun hne => ?_) (fun _ _ _ _ => rfl) (fun _ _ => by omega) (fun _ _ => .inr ⟨rfl, fun _ _ _ => by omega⟩) (fun hh => absurd hh q2)
  rcases h.mast i hne with ⟨_, h1⟩ | ⟨h1, _⟩
  · exact .inl ⟨hp, h1⟩
  · omega
/-- step 3 -/
theorem HIv.s3 (h : HIv nd n node W D S G) (hi : i < n) (h3 : (sv S i).pc = 3) (hp : p'.pc = 4) (hc : p'.c = lc W (node i)) : HIv nd n node (W.set (1 + node i) 0) D (S.set i p') G := by
  have hf := h.at234 hi (.inr (.inl h3))
  obtain ⟨q1, q2⟩ := h.masterNot hf
  have hv := h.nn i hi
  have hwl : 1 + node i < W.length := by rw [h.wl]; omega
  refine h.keep hi (by simp) (fun t _ => tnw_setL 0 hv) (tl_setL 0) q1 (fun hk => absurd (mem_of_head hf) (hk _)) (fun hne => ?_) (fun m hm hne h4 => ?_) (fun _ _ => by omega) (fun v _ => ?_) (fun hh => absurd hh q2)
  · rcases h.mast i hne with ⟨_, h1⟩ | ⟨h1, _⟩
    · exact .inr ⟨hp, hc.trans h1⟩
    · omega
  · rw [lc_set 0 hwl, if_neg]
    intro e
    exact hm (h.one m i hne (ne_of_head hf) e.symm h4 (by omega))
  · rw [lc_set 0 hwl]
    by_cases e : node i = v
    · exact .inl (by rw [if_pos e])
    · exact .inr ⟨by rw [if_neg e], fun e' => absurd e'.symm e⟩
/-- step 5, not its turn: nothing but a look -/
theorem HIv.same5 (h : HIv nd n node W D S G) (hi : i < n) (hp : p' = sv S i) : HIv nd n node W D (S.set i p') G := by
  have : S.set i p' = S := by
    subst hp
    apply List.ext_getElem?
    intro j
    rw [List.getElem?_set]
    by_cases e : i = j
    · subst e
      have : i < S.length := by rw [h.sl]; exact hi
      rw [if_pos rfl, if_pos this]
      unfold sv
      rw [List.getD_eq_getElem?_getD, List.getElem?_eq_getElem this]; rfl
    · rw [if_neg e]
  rw [this]; exact h
theorem HIv.s5 (h : HIv nd n node W D S G) (hi : i < n) (h5 : (sv S i).pc = 5) (hb : isB W (2 + (nd : Int)) n (sv S i).a = true) : (G 0).head? = some i := by
  rcases h.at5 hi h5 with ⟨k, p, _, h2, h3⟩ | h1
  · have hp := h.lt k p h2
    rw [h3, isB_tok h.wl h.n32 hp (by have := h.d0 p; omega), h.tw p hp] at hb
    have := of_decide_eq_true hb
    omega
  · exact h1.1
theorem HIv.s5n (h : HIv nd n node W D S G) (hf : (G 0).head? = some i) (h5 : (sv S i).pc = 5) : isB W (2 + (nd : Int)) n (sv S i).a = true := by
  rcases h.front i hf with ⟨_, t, d, h1, h2, h3, h4⟩ | h1 | h1
  · rw [h4, isB_tok h.wl h.n32 h1 (by omega), h.tw t h1]
    exact decide_eq_true h3
  · omega
  · omega
/-- step 1 into an empty row -/
theorem HIv.s1a (h : HIv nd n node W D S G) (hi : i < n) (h1 : (sv S i).pc = 1) (hl : lc W (node i) = 0) (hp : (p'.pc = 2 ∧ 0 < p'.b) ∨ p'.pc = 3) : HIv nd n node (W.set (1 + node i) (tokH i (dv D i + 1))) D (S.set i p') (upd G (i + 1) [i]) := by
  have hk := h.at01 (.inr h1)
  have hv := h.nn i hi
  have hwl : 1 + node i < W.length := by rw [h.wl]; omega
  have hii := sv_eq (S := S) (i := i) (p' := p') (by rw [h.sl]; exact hi)
  have hlt : lastT D [i] = tokH i (dv D i + 1) := lastT_some rfl
  have hnone : ∀ m, G (m + 1) ≠ [] → (sv S m).pc < 4 → node m ≠ node i := fun m hm h4 e => by
    rcases h.mast m hm with ⟨_, h2⟩ | ⟨h2, _⟩
    · rw [e, hl] at h2
      obtain ⟨t, ht, _⟩ := last_some hm
      rw [lastT_some ht] at h2
      exact tok_ne (by have := h.d0 t; omega) h2.symm
    · omega
  have hu : ∀ k, k ≠ i + 1 → upd G (i + 1) [i] k = G k := fun k e => upd_ne G _ e
  have hum : ∀ m, m ≠ i → upd G (i + 1) [i] (m + 1) = G (m + 1) := fun m e => hu _ (by omega)
  refine ⟨by simp [h.wl], by simp [h.sl], h.dl, h.n32, h.nn, fun t ht => (tnw_setL _ hv).trans (h.tw t ht), h.d0, fun k => ?_, fun k k' t hk1 hk2 => ?_, fun k t hm => ?_, fun k => ?_, fun t ht hk1 => ?_, fun m hm => ?_, fun m t hm => ?_, fun m hm => ?_, fun m m' hm hm' he h2 h3 => ?_, fun v hv' => ?_, fun t ht => ?_, ?_⟩
  · by_cases e : k = i + 1
    · rw [e, upd_eq]; simp
    · rw [hu k e]; exact h.nod k
  · by_cases e : k = i + 1 <;> by_cases e' : k' = i + 1
    · omega
    · rw [e, upd_eq] at hk1; rw [hu k' e'] at hk2
      rw [List.mem_singleton.1 hk1] at hk2
      exact absurd hk2 (hk k')
    · rw [e', upd_eq] at hk2; rw [hu k e] at hk1
      rw [List.mem_singleton.1 hk2] at hk1
      exact absurd hk1 (hk k)
    · rw [hu k e] at hk1; rw [hu k' e'] at hk2
      exact h.dj k k' t hk1 hk2
  · by_cases e : k = i + 1
    · rw [e, upd_eq] at hm
      rw [List.mem_singleton.1 hm]; exact hi
    · rw [hu k e] at hm; exact h.lt k t hm
  · by_cases e : k = i + 1
    · rw [e, upd_eq]; exact ⟨fun b hb => by simp at hb, trivial⟩
    · rw [hu k e]
      refine (h.lk k).mono fun a b _ hb hab => ?_
      have : b ≠ i := fun e => hk k (e ▸ List.mem_of_mem_tail hb)
      unfold HLk; rw [sv_ne this]; exact hab
  · have e : t ≠ i := fun e => hk1 (i + 1) (by rw [upd_eq, e]; simp)
    rw [sv_ne e]
    refine h.free t ht fun k => ?_
    by_cases e2 : k = i + 1
    · rw [e2, h.nil1 hk]; simp
    · have := hk1 k; rw [hu k e2] at this; exact this
  · by_cases e : m = i
    · rw [e, upd_eq]; rfl
    · rw [hum m e] at hm ⊢; exact h.first m hm
  · by_cases e : m = i
    · rw [e, upd_eq] at hm; rw [List.mem_singleton.1 hm, e]
    · rw [hum m e] at hm; exact h.same m t hm
  · by_cases e : m = i
    · subst e
      rw [upd_eq, hii, lc_set _ hwl, if_pos rfl, hlt]
      exact .inl ⟨hp, rfl⟩
    · rw [hum m e] at hm ⊢
      rw [sv_ne e]
      rcases h.mast m hm with ⟨h2, h3⟩ | h2
      · refine .inl ⟨h2, ?_⟩
        rw [lc_set _ hwl, if_neg (fun e' => hnone m hm (by omega) e'.symm)]; exact h3
      · exact .inr h2
  · by_cases e : m = i <;> by_cases e' : m' = i
    · omega
    · rw [hum m' e'] at hm'; rw [sv_ne e'] at h3
      subst e
      exact absurd he.symm (hnone m' hm' h3)
    · rw [hum m e] at hm; rw [sv_ne e] at h2
      subst e'
      exact absurd he (hnone m hm h2)
    · rw [hum m e] at hm; rw [hum m' e'] at hm'; rw [sv_ne e] at h2; rw [sv_ne e'] at h3
      exact h.one m m' hm hm' he h2 h3
  · by_cases e : node i = v
    · refine .inr ⟨i, by rw [upd_eq]; simp, ?_, e⟩
      rw [hii]; omega
    · rw [lc_set _ hwl, if_neg e]
      rcases h.loc v hv' with h2 | ⟨m, h2, h3, h4⟩
      · exact .inl h2
      · have e2 : m ≠ i := fun e2 => e (by rw [← e2]; exact h4)
        exact .inr ⟨m, by rw [hum m e2]; exact h2, by rw [sv_ne e2]; exact h3, h4⟩
  · rw [hu 0 (by omega)] at ht
    rw [sv_ne (fun e => hk 0 (by rw [← e]; exact mem_of_head ht))]
    exact h.front t ht
  · rw [hu 0 (by omega), tl_setL]; exact h.tail
/-- step 1 behind another one -/
theorem HIv.s1b (h : HIv nd n node W D S G) (hi : i < n) (h1 : (sv S i).pc = 1) (hl : lc W (node i) ≠ 0) (hp : p'.pc = 5) (ha : p'.a = lc W (node i)) :
    ∃ m t, G (m + 1) ≠ [] ∧ t ∈ G (m + 1) ∧ node t = node i ∧ p'.a = tokH t (dv D t + 1) ∧ HIv nd n node (W.set (1 + node i) (tokH i (dv D i + 1))) D (S.set i p') (upd G (m + 1) (G (m + 1) ++ [i])) := by
  have hk := h.at01 (.inr h1)
  have hv := h.nn i hi
  have hwl : 1 + node i < W.length := by rw [h.wl]; omega
  have hii := sv_eq (S := S) (i := i) (p' := p') (by rw [h.sl]; exact hi)
  rcases h.loc (node i) hv with h2 | ⟨m, hm, hm4, hmn⟩
  · exact absurd h2 hl
  have hml : lc W (node m) = lastT D (G (m + 1)) := by
    rcases h.mast m hm with ⟨_, h2⟩ | ⟨h2, _⟩
    · exact h2
    · omega
  obtain ⟨t, ht, htm⟩ := last_some hm
  have hpa : p'.a = tokH t (dv D t + 1) := by rw [ha, ← hmn, hml, lastT_some ht]
  have hmi : m ≠ i := fun e => by rw [e] at hm; exact hm (h.nil1 hk)
  refine ⟨m, t, hm, htm, (h.same m t htm).trans hmn, hpa, ?_⟩
  have hu : ∀ k, k ≠ m + 1 → upd G (m + 1) (G (m + 1) ++ [i]) k = G k := fun k e => upd_ne G _ e
  have hum : ∀ j, j ≠ m → upd G (m + 1) (G (m + 1) ++ [i]) (j + 1) = G (j + 1) := fun j e => hu _ (by omega)
  have hlast : lastT D (G (m + 1) ++ [i]) = tokH i (dv D i + 1) := by rw [lastT_append _ (by simp)]; exact lastT_some rfl
  have hne : ∀ j, upd G (m + 1) (G (m + 1) ++ [i]) (j + 1) ≠ [] → G (j + 1) ≠ [] := fun j hj => by
    by_cases e : j = m
    · rw [e]; exact hm
    · rw [hum j e] at hj; exact hj
  refine ⟨by simp [h.wl], by simp [h.sl], h.dl, h.n32, h.nn, fun t ht => (tnw_setL _ hv).trans (h.tw t ht), h.d0, fun k => ?_, fun k k' t hk1 hk2 => ?_, fun k t hm => ?_, fun k => ?_, fun t ht hk1 => ?_, fun j hj => ?_, fun j t hj => ?_, fun j hj => ?_, fun j j' hj hj' he h2 h3 => ?_, fun v hv' => ?_, fun t ht => ?_, ?_⟩
  · by_cases e : k = m + 1
    · rw [e, upd_eq]
      refine List.nodup_append.2 ⟨h.nod _, by simp, fun x hx y hy => ?_⟩
      rw [List.mem_singleton.1 hy]
      rintro rfl
      exact hk _ hx
    · rw [hu k e]; exact h.nod k
  · by_cases e : k = m + 1 <;> by_cases e' : k' = m + 1
    · omega
    · rw [e, upd_eq] at hk1; rw [hu k' e'] at hk2
      rcases List.mem_append.1 hk1 with hk1 | hk1
      · rw [e]; exact h.dj _ _ t hk1 hk2
      · rw [List.mem_singleton.1 hk1] at hk2; exact absurd hk2 (hk k')
    · rw [e', upd_eq] at hk2; rw [hu k e] at hk1
      rcases List.mem_append.1 hk2 with hk2 | hk2
      · rw [e']; exact h.dj _ _ t hk1 hk2
      · rw [List.mem_singleton.1 hk2] at hk1; exact absurd hk1 (hk k)
    · rw [hu k e] at hk1; rw [hu k' e'] at hk2
      exact h.dj k k' t hk1 hk2
  · by_cases e : k = m + 1
    · rw [e, upd_eq] at hm
      rcases List.mem_append.1 hm with hm | hm
      · exact h.lt _ t hm
      · rw [List.mem_singleton.1 hm]; exact hi
    · rw [hu k e] at hm; exact h.lt k t hm
  · have old : ∀ k, Lks (HLk D (S.set i p')) (G k) := fun k => (h.lk k).mono fun a b _ hb hab => by
      have : b ≠ i := fun e => hk k (e ▸ List.mem_of_mem_tail hb)
      unfold HLk; rw [sv_ne this]; exact hab
    by_cases e : k = m + 1
    · rw [e, upd_eq]
      refine (old _).append ⟨fun b hb => by simp at hb, trivial⟩ fun a b ha' hb' => ?_
      have e1 : b = i := by simpa using hb'.symm
      rw [ht] at ha'
      injection ha' with ha'
      subst e1 ha'
      unfold HLk
      rw [hii]
      exact ⟨hp, hpa⟩
    · rw [hu k e]; exact old k
  · have e : t ≠ i := fun e => hk1 (m + 1) (by rw [upd_eq, e]; simp)
    rw [sv_ne e]
    refine h.free t ht fun k => ?_
    by_cases e2 : k = m + 1
    · have := hk1 k
      rw [e2, upd_eq] at this
      rw [e2]
      exact fun hx => this (List.mem_append_left _ hx)
    · have := hk1 k; rw [hu k e2] at this; exact this
  · by_cases e : j = m
    · rw [e, upd_eq, List.head?_append, h.first m hm]; rfl
    · rw [hum j e] at hj ⊢; exact h.first j hj
  · by_cases e : j = m
    · rw [e, upd_eq] at hj
      rcases List.mem_append.1 hj with hj | hj
      · rw [e]; exact h.same m t hj
      · rw [List.mem_singleton.1 hj, e]; exact hmn.symm
    · rw [hum j e] at hj; exact h.same j t hj
  · have hji : j ≠ i := fun e => by have := hne j hj; rw [e] at this; exact this (h.nil1 hk)
    rw [sv_ne hji]
    by_cases e : j = m
    · subst e
      rcases h.mast j hm with ⟨h2, h3⟩ | ⟨h2, _⟩
      · exact .inl ⟨h2, by rw [upd_eq, hlast, lc_set _ hwl, if_pos hmn.symm]⟩
      · omega
    · rw [hum j e] at hj ⊢
      rcases h.mast j hj with ⟨h2, h3⟩ | h2
      · refine .inl ⟨h2, ?_⟩
        rw [lc_set _ hwl, if_neg]
        · exact h3
        · intro e'
          exact e (h.one j m hj hm (e'.symm.trans hmn.symm) (by omega) hm4)
      · exact .inr h2
  · have e1 : j ≠ i := fun e => by have := hne j hj; rw [e] at this; exact this (h.nil1 hk)
    have e2 : j' ≠ i := fun e => by have := hne j' hj'; rw [e] at this; exact this (h.nil1 hk)
    rw [sv_ne e1] at h2
    rw [sv_ne e2] at h3
    exact h.one j j' (hne j hj) (hne j' hj') he h2 h3
  · by_cases e : node i = v
    · exact .inr ⟨m, by rw [upd_eq]; simp, by rw [sv_ne hmi]; exact hm4, hmn.trans e⟩
    · rw [lc_set _ hwl, if_neg e]
      rcases h.loc v hv' with h2 | ⟨j, h2, h3, h4⟩
      · exact .inl h2
      · have e2 : j ≠ i := fun e2 => e (by rw [← e2]; exact h4)
        have e3 : j ≠ m := fun e3 => e (by rw [← h4, e3, hmn])
        exact .inr ⟨j, by rw [hum j e3]; exact h2, by rw [sv_ne e2]; exact h3, h4⟩
  · rw [hu 0 (by omega)] at ht
    rw [sv_ne (fun e => hk 0 (by rw [← e]; exact mem_of_head ht))]
    exact h.front t ht
  · rw [hu 0 (by omega), tl_setL]; exact h.tail
end
end Go.Proofs.YtkdaiomjbkpedaaGreat
end
section
/- Layer 31 (cna): what others than the first one do keeps the line. No program in sight. -/
namespace Go.Proofs.YtkdaiomjbkpedaaGreat
open Go

theorem Lks.mono' {P P' : Nat → Nat → Prop} {l : List Nat} (hn : l.Nodup) (h : Lks P l) (hm : ∀ a b, a ∈ l → b ∈ l.tail → l.getLast? ≠ some a → P a b → P' a b) : Lks P' l := by
  induction l with
  | nil => trivial
  | cons a l ih =>
    have hn' := List.nodup_cons.1 hn
    refine ⟨fun b hb => hm a b (by simp) (List.mem_of_mem_head? hb) (fun e => ?_) (h.1 b hb), ih hn'.2 h.2 fun x y hx hy hl => hm x y (List.mem_cons_of_mem _ hx) (List.mem_of_mem_tail hy) (fun e => hl ?_)⟩
    · cases l with
      | nil => simp at hb
      | cons c l =>
        rw [List.getLast?_cons_cons] at e
        exact hn'.1 (List.mem_of_getLast? e)
    · cases l with
      | nil => simp at hx
      | cons c l => rw [List.getLast?_cons_cons] at e; exact e
theorem nei {l : List Nat} {i u : Nat} (h : i ∉ l) (hu : u ∈ l) : u ≠ i := fun e => h (e ▸ hu)
section
variable {n : Nat} {bud : Int} {node : Nat → Int} {W W' : List Int} {w : Wk} {S S' : List Sp} {h i : Nat} {A R : List Nat} {p p' : Sp}
theorem CPh.cong (k : CPh n bud node W w S h A R p) (hf : p.pc ≤ 16 → ∀ f, R.head? = some f → CLk W' S' h f) (hN : ∀ u, u ∈ A → cnx W' u = cnx W u) (hS : csp W' h = csp W h) (hL : ∀ u, u ∈ A → cla W' u = cla W u) (hC : cct W' = cct W)
    (hs : ∀ u, u ∈ R → (sv S u).pc = 5 → (sv S' u).pc = 5) : CPh n bud node W' w S' h A R p := by
  have lead : ∀ x, Lead S R x → Lead S' R x := fun x hx => by
    obtain ⟨f, h1, h2, h3⟩ := hx
    exact ⟨f, h1, hs f (mem_of_head h1) h2, h3⟩
  have asd : ∀ B, (∀ u, u ∈ B → u ∈ A) → Asd W B → Asd W' B := fun B hB hd => by
    refine ⟨hd.1.mono fun a b ha _ hab => ?_, fun l hl => ?_⟩
    · rw [hN a (hB a ha)]; exact hab
    · rw [hN l (hB l (List.mem_of_getLast? hl))]; exact hd.2 l hl
  have asl : ∀ B, (∀ u, u ∈ B → u ∈ A) → Asl W B → Asl W' B := fun B hB hd a l ha hl => by
    rw [hL a (hB a (mem_of_head ha))]; exact hd a l ha hl
  refine ⟨k.pcs, hf, k.some_, fun e => lead _ (k.leadA e), fun e => lead _ (k.leadB e), fun e => lead _ (k.leadF e), fun e => asd A (fun _ h => h) (k.asd e), fun e => asl A (fun _ h => h) (k.asl e), fun e => by rw [hS]; exact k.own e, k.b, k.none_, k.some2, k.c, fun e => ?_, fun e => ?_, fun e => ?_, k.put2, by rw [hC]; exact k.ct0, by rw [hC]; exact k.ct, fun e => by rw [hC]; exact k.ctlt e⟩
  · obtain ⟨h1, h2, h3, P, R', h4, h5, h6, h7, h8⟩ := k.walk e
    exact ⟨h1, h2, h3, P, R', h4, h5, h6, h7, fun t ht => hs t (by rw [h4]; exact List.mem_append_left _ ht) (h8 t ht)⟩
  · obtain ⟨P, R', f, h4, h5, h6, h7, h8, h9⟩ := k.found e
    exact ⟨P, R', f, h4, h5, h6, hs f (by rw [h4]; simp) h7, h8, fun t ht => hs t (by rw [h4]; exact List.mem_append_left _ ht) (h9 t ht)⟩
  · obtain ⟨A0, P, h1, h2, h3, h4, h5, h6, h7⟩ := k.put e
    exact ⟨A0, P, h1, h2, h3, asd A0 (fun u hu => by rw [h1]; exact List.mem_append_left _ hu) h4, asl A0 (fun u hu => by rw [h1]; exact List.mem_append_left _ hu) h5, asd P (fun u hu => by rw [h1]; exact List.mem_append_right _ hu) h6, h7⟩
theorem CLk.cong {W W' : List Int} {S S' : List Sp} {a b : Nat} (k : CLk W S a b) (h1 : cnx W' a = cnx W a) (h2 : sv S' b = sv S b) : CLk W' S' a b := by
  unfold CLk; rw [h1, h2]; exact k
theorem lastin (h : Nat) (A R : List Nat) : lastD h R = h ∨ lastD h R ∈ A ++ R := (lastD_mem h R).imp id fun e => List.mem_append_right _ e
theorem CBs.waits (b : CBs n W S h A R) (hi : i ∈ A ++ R) : i ≠ h := fun e => b.nh (e ▸ hi)
/-- one who is not in the line takes a step: its own words and its spot turn -/
theorem CBs.outs (b : CBs n W S h A R) (hi : i < n) (hne : i ≠ h) (hni : i ∉ A ++ R) (hl : W'.length = W.length) (hN : ∀ u, u ≠ i → cnx W' u = cnx W u) (hS : ∀ u, u ≠ i → csp W' u = csp W u) (hT : Go.Proofs.YtkdaiomjbkpedaaGreat.ctl W' = Go.Proofs.YtkdaiomjbkpedaaGreat.ctl W)
    (hp : (0 ≤ p'.pc ∧ p'.pc ≤ 3) ∧ (2 ≤ p'.pc → cnx W' i = 0) ∧ (p'.pc = 3 → csp W' i = 0)) : CBs n W' (S.set i p') h A R := by
  have hlast : lastD h R ≠ i := fun e => by
    rcases lastin h A R with h1 | h1
    · exact hne (e.symm.trans h1)
    · exact hni (e ▸ h1)
  refine ⟨hl.trans b.wl, by simp [b.sl], b.nh, b.nd, b.hn, b.lt, fun t ht h1 h2 => ?_, fun t ht => ?_, fun t ht => ?_, b.chR.mono fun x y hx hy hxy => hxy.cong (hN x fun e => hni (e ▸ List.mem_append_right _ hx)) (sv_ne fun e => hni (e ▸ List.mem_append_right _ (List.mem_of_mem_tail hy))), hT.trans b.tl, by rw [hN _ hlast]; exact b.end0⟩
  · by_cases e : t = i
    · subst e; rw [sv_eq (by rw [b.sl]; exact hi)]; exact hp
    · rw [sv_ne e, hN t e, hS t e]; exact b.out t ht h1 h2
  · have e : t ≠ i := fun e => hni (e ▸ ht)
    rw [sv_ne e, hS t e]; exact b.wait t ht
  · have e : t ≠ i := fun e => hni (e ▸ List.mem_append_left _ ht)
    rw [sv_ne e]; exact b.a5 t ht
theorem CPh.outs (k : CPh n bud node W w S h A R p) (hne : i ≠ h) (hni : i ∉ A ++ R) (hN : ∀ u, u ≠ i → cnx W' u = cnx W u) (hS : ∀ u, u ≠ i → csp W' u = csp W u) (hL : ∀ u, cla W' u = cla W u) (hC : cct W' = cct W) : CPh n bud node W' w (S.set i p') h A R p :=
  k.cong (fun e f hf => (k.front e f hf).cong (hN h (Ne.symm hne)) (sv_ne fun e => hni (e ▸ List.mem_append_right _ (mem_of_head hf)))) (fun u hu => hN u fun e => hni (e ▸ List.mem_append_left _ hu)) (hS h (Ne.symm hne)) (fun u _ => hL u) hC
    (fun u hu h5 => by rw [sv_ne (nei hni (List.mem_append_right _ hu))]; exact h5)
/-- one comes into the line -/
theorem CBs.joins (b : CBs n W S h A R) (hi : i < n) (hne : i ≠ h) (hni : i ∉ A ++ R) (h3 : (sv S i).pc = 3) (hl : W'.length = W.length) (hN : ∀ u, cnx W' u = cnx W u) (hS : ∀ u, csp W' u = csp W u) (hT : Go.Proofs.YtkdaiomjbkpedaaGreat.ctl W' = num i) (hp : p'.pc = 4) (ha : p'.a = Go.Proofs.YtkdaiomjbkpedaaGreat.ctl W) :
    CBs n W' (S.set i p') h A (R ++ [i]) ∧ CLk W' (S.set i p') (lastD h R) i := by
  have hii : sv (S.set i p') i = p' := sv_eq (by rw [b.sl]; exact hi)
  have ho := b.out i hi hne hni
  have hlink : CLk W' (S.set i p') (lastD h R) i := .inl ⟨by rw [hii]; exact hp, by rw [hii, ha]; exact b.tl, by rw [hN]; exact b.end0⟩
  have hmem : ∀ t, t ∈ A ++ (R ++ [i]) ↔ t ∈ A ++ R ∨ t = i := fun t => by rw [← List.append_assoc, List.mem_append]; simp
  refine ⟨⟨hl.trans b.wl, by simp [b.sl], fun hm => ?_, ?_, b.hn, fun t ht => ?_, fun t ht h1 h2 => ?_, fun t ht => ?_, fun t ht => ?_, ?_, by rw [lastD_append]; exact hT, by rw [lastD_append, hN]; exact ho.2.1 (by omega)⟩, hlink⟩
  · rcases (hmem h).1 hm with h1 | h1
    · exact b.nh h1
    · exact hne h1.symm
  · rw [← List.append_assoc]
    refine List.nodup_append.2 ⟨b.nd, by simp, fun x hx y hy e => ?_⟩
    rw [List.mem_singleton.1 hy] at e
    exact hni (e ▸ hx)
  · rcases (hmem t).1 ht with h1 | h1
    · exact b.lt t h1
    · rw [h1]; exact hi
  · have e : t ≠ i := fun e => h2 ((hmem t).2 (.inr e))
    rw [sv_ne e, hN, hS]
    exact b.out t ht h1 fun hm => h2 ((hmem t).2 (.inl hm))
  · rcases (hmem t).1 ht with h1 | h1
    · have e : t ≠ i := fun e => hni (e ▸ h1)
      rw [sv_ne e, hS]; exact b.wait t h1
    · subst h1
      rw [hii, hS]
      exact ⟨ho.2.2 h3, .inl hp⟩
  · have e : t ≠ i := fun e => hni (e ▸ List.mem_append_left _ ht)
    rw [sv_ne e]; exact b.a5 t ht
  · refine (b.chR.mono fun x y hx hy hxy => hxy.cong (hN x) (sv_ne (nei hni (List.mem_append_right _ (List.mem_of_mem_tail hy))))).append ⟨fun _ hb => by simp at hb, trivial⟩ fun x y hx hy => ?_
    obtain rfl : i = y := by simpa using hy
    rw [lastD_some hx] at hlink
    exact hlink
theorem CPh.joins (k : CPh n bud node W w S h A R p) (hni : i ∉ A ++ R) (hN : ∀ u, cnx W' u = cnx W u) (hS : ∀ u, csp W' u = csp W u) (hL : ∀ u, cla W' u = cla W u) (hC : cct W' = cct W) (hlink : CLk W' (S.set i p') (lastD h R) i) :
    CPh n bud node W' w (S.set i p') h A (R ++ [i]) p := by
  have hsv : ∀ u, u ∈ R → sv (S.set i p') u = sv S u := fun u hu => sv_ne fun e => hni (e ▸ List.mem_append_right _ hu)
  have k' : CPh n bud node W' w (S.set i p') h A R p := k.cong (fun e f hf => (k.front e f hf).cong (hN h) (hsv f (mem_of_head hf))) (fun u _ => hN u) (hS h) (fun u _ => hL u) hC (fun u hu h5 => by rw [hsv u hu]; exact h5)
  have lead : ∀ x, Lead (S.set i p') R x → Lead (S.set i p') (R ++ [i]) x := fun x hx => by
    obtain ⟨f, h1, h2⟩ := hx
    refine ⟨f, ?_, h2⟩
    rw [List.head?_append, h1]; rfl
  refine ⟨k'.pcs, fun e f hf => ?_, fun _ => by simp, fun e => lead _ (k'.leadA e), fun e => lead _ (k'.leadB e), fun e => lead _ (k'.leadF e), k'.asd, k'.asl, k'.own, k'.b, k'.none_, k'.some2, k'.c, fun e => ?_, fun e => ?_, k'.put, k'.put2, k'.ct0, k'.ct, k'.ctlt⟩
  · by_cases hR : R = []
    · subst hR
      obtain rfl : i = f := by simpa using hf
      exact hlink
    · refine k'.front e f ?_
      cases R with
      | nil => exact absurd rfl hR
      | cons a l => simpa using hf
  · obtain ⟨h1, h2, h3, P, R', h4, h5⟩ := k'.walk e
    exact ⟨h1, h2, h3, P, R' ++ [i], by rw [h4, List.append_assoc], h5⟩
  · obtain ⟨P, R', f, h4, h5⟩ := k'.found e
    exact ⟨P, R' ++ [i], f, by rw [h4]; simp, h5⟩
/-- one in the line tells who is ahead of it -/
theorem CBs.tells (b : CBs n W S h A R) (k : CPh n bud node W w S h A R p) (hi : i ∈ A ++ R) (h4 : (sv S i).pc = 4) (hp : p'.pc = 5) :
    ∃ q, q < n ∧ (sv S i).a = num q ∧ ∀ W', W'.length = W.length → cnx W' q = num i → (∀ u, u ≠ q → cnx W' u = cnx W u) → (∀ u, csp W' u = csp W u) → (∀ u, cla W' u = cla W u) → Go.Proofs.YtkdaiomjbkpedaaGreat.ctl W' = Go.Proofs.YtkdaiomjbkpedaaGreat.ctl W → cct W' = cct W →
      CBs n W' (S.set i p') h A R ∧ CPh n bud node W' w (S.set i p') h A R p := by
  have hiA : i ∉ A := fun hm => by have := b.a5 i hm; omega
  have hiR : i ∈ R := by
    rcases List.mem_append.1 hi with h1 | h1
    · exact absurd h1 hiA
    · exact h1
  obtain ⟨R1, R2, rfl⟩ := List.append_of_mem hiR
  have hndR : (R1 ++ i :: R2).Nodup := (List.nodup_append.1 b.nd).2.1
  have hnd1 := List.nodup_append.1 hndR
  have hi1 : i ∉ R1 := fun hm => hnd1.2.2 i hm i (by simp) rfl
  have hi2 : i ∉ R2 := (List.nodup_cons.1 hnd1.2.1).1
  have hii : sv (S.set i p') i = p' := sv_eq (by rw [b.sl]; exact b.lt i hi)
  have hih := b.waits hi
  -- who is ahead
  have hq : (sv S i).a = num (lastD h R1) ∧ cnx W (lastD h R1) = 0 := by
    have hlk : CLk W S (lastD h R1) i := by
      by_cases e : R1 = []
      · subst e
        refine k.front ?_ i rfl
        rcases k.pcs with h1 | h1 | h1
        · omega
        · omega
        · apply Classical.byContradiction
          intro hgt
          have lead : ∀ x, Lead S ([] ++ i :: R2) x → False := fun x hx => by
            obtain ⟨f, h1, h2, _⟩ := hx
            obtain rfl : i = f := by simpa using h1
            omega
          have : p.pc = 17 ∨ p.pc = 18 ∨ p.pc = 19 ∨ p.pc = 20 ∨ p.pc = 21 ∨ p.pc = 22 ∨ p.pc = 23 ∨ p.pc = 24 ∨ p.pc = 25 ∨ p.pc = 26 ∨ p.pc = 27 ∨ p.pc = 28 ∨ p.pc = 29 ∨ p.pc = 30 := by omega
          rcases this with e | e | e | e | e | e | e | e | e | e | e | e | e | e
          · exact lead _ (k.leadA (by rw [e]; decide))
          · exact lead _ (k.leadA (by rw [e]; decide))
          · exact lead _ (k.leadA (by rw [e]; decide))
          · exact lead _ (k.leadF (.inl e))
          · exact lead _ (k.leadF (.inr (.inl e)))
          · exact lead _ (k.leadF (.inr (.inr e)))
          · exact lead _ (k.leadA (by rw [e]; decide))
          · exact lead _ (k.leadA (by rw [e]; decide))
          · exact lead _ (k.leadA (by rw [e]; decide))
          · exact lead _ (k.leadA (by rw [e]; decide))
          · exact lead _ (k.leadB (.inl e))
          · exact lead _ (k.leadB (.inr e))
          · exact lead _ (k.leadA (by rw [e]; decide))
          · exact lead _ (k.leadA (by rw [e]; decide))
      · obtain ⟨t, ht, _⟩ := last_some e
        rw [lastD_some ht]
        exact b.chR.joint ht rfl
    rcases hlk with h1 | h1
    · exact h1.2
    · omega
  have hqm : lastD h R1 = h ∨ (lastD h R1 ∈ R1 ∧ R1 ≠ []) := (lastD_mem h R1).imp id fun e => ⟨e, fun e' => by rw [e'] at e; simp at e⟩
  have hqn : lastD h R1 < n := by
    rcases hqm with e | e
    · rw [e]; exact b.hn
    · exact b.lt _ (by simp [e.1])
  refine ⟨lastD h R1, hqn, hq.1, fun W' hl hNq hN hS hL hT hC => ?_⟩
  have hqi : lastD h R1 ≠ i := fun e => by
    rcases hqm with e' | e'
    · exact hih (e.symm.trans e')
    · exact hi1 (e ▸ e'.1)
  have hq2 : lastD h R1 ∉ R2 := fun hm => by
    rcases hqm with e' | e'
    · exact b.nh (by rw [← e']; simp [hm])
    · exact hnd1.2.2 _ e'.1 _ (List.mem_cons_of_mem _ hm) rfl
  have hqA : lastD h R1 ∉ A := fun hm => by
    rcases hqm with e' | e'
    · exact b.nh (by rw [← e']; simp [hm])
    · exact (List.nodup_append.1 b.nd).2.2 _ hm _ (List.mem_append_left _ e'.1) rfl
  have hsv : ∀ u, u ≠ i → sv (S.set i p') u = sv S u := fun u e => sv_ne e
  have hlinkq : CLk W' (S.set i p') (lastD h R1) i := .inr ⟨by rw [hii]; exact hp, hNq⟩
  have ch : Lks (CLk W' (S.set i p')) (R1 ++ i :: R2) := by
    refine (b.chR.left.mono' hnd1.1 fun x y hx hy hlx hxy => hxy.cong (hN x fun e => hlx ?_) (hsv y fun e => hi1 (e ▸ List.mem_of_mem_tail hy))).append (b.chR.right.mono fun x y hx hy hxy => hxy.cong (hN x fun e => ?_) (hsv y fun e => hi2 (e ▸ hy))) fun x y hx hy => ?_
    · obtain ⟨t, ht, _⟩ := last_some (List.ne_nil_of_mem hx)
      rw [lastD_some ht] at e
      rw [ht, e]
    · rcases List.mem_cons.1 hx with e' | e'
      · exact hqi (e.symm.trans e')
      · exact hq2 (e ▸ e')
    · obtain rfl : i = y := by simpa using hy
      rw [← lastD_some (h := h) hx]; exact hlinkq
  have hlast : lastD h (R1 ++ i :: R2) ≠ lastD h R1 := fun e => by
    obtain ⟨t, ht, hm⟩ := last_some (show i :: R2 ≠ [] by simp)
    have e2 : lastD h (R1 ++ i :: R2) = t := lastD_some (by rw [List.getLast?_append, ht]; rfl)
    rw [e2] at e
    rcases List.mem_cons.1 hm with e' | e'
    · exact hqi (e.symm.trans e')
    · exact hq2 (e ▸ e')
  refine ⟨⟨hl.trans b.wl, by simp [b.sl], b.nh, b.nd, b.hn, b.lt, fun t ht h1 h2 => ?_, fun t ht => ?_, fun t ht => ?_, ch, hT.trans b.tl, by rw [hN _ hlast]; exact b.end0⟩, k.cong (fun e f hf => ?_) (fun u hu => hN u fun e => hqA (e ▸ hu)) (hS h) (fun u _ => hL u) hC fun u _ h5 => ?_⟩
  · have e : t ≠ i := fun e => h2 (e ▸ hi)
    have e2 : t ≠ lastD h R1 := fun e2 => by
      rcases hqm with e' | e'
      · exact h1 (e2.trans e')
      · exact h2 (by rw [e2]; simp [e'.1])
    rw [hsv t e, hN t e2, hS]; exact b.out t ht h1 h2
  · by_cases e : t = i
    · subst e; rw [hii, hS]; exact ⟨(b.wait t ht).1, .inr hp⟩
    · rw [hsv t e, hS]; exact b.wait t ht
  · rw [hsv t fun e => hiA (e ▸ ht)]; exact b.a5 t ht
  · cases R1 with
    | nil =>
      obtain rfl : i = f := by simpa using hf
      exact hlinkq
    | cons a l =>
      obtain rfl : a = f := by simpa using hf
      refine (k.front e a rfl).cong (hN h fun e' => ?_) (hsv a fun e' => hi1 (by rw [← e']; simp))
      rcases hqm with e2 | e2
      · obtain ⟨t, ht, hm⟩ := last_some (show a :: l ≠ [] by simp)
        rw [lastD_some ht] at e2
        exact b.nh (by rw [← e2]; exact List.mem_append_right _ (List.mem_append_left _ hm))
      · exact b.nh (by rw [e']; exact List.mem_append_right _ (List.mem_append_left _ e2.1))
  · by_cases e : u = i
    · rw [e, hii]; exact hp
    · rw [hsv u e]; exact h5
/-- one in the line looks, and it is not its turn -/
theorem CBs.looks (b : CBs n W S h A R) (k : CPh n bud node W w S h A R p) (hi : i ∈ A ++ R) (h5 : (sv S i).pc = 5) (hp : p'.pc = 5) : CBs n W (S.set i p') h A R ∧ CPh n bud node W w (S.set i p') h A R p := by
  have hii : sv (S.set i p') i = p' := sv_eq (by rw [b.sl]; exact b.lt i hi)
  have hpc : ∀ u, (sv (S.set i p') u).pc = (sv S u).pc := fun u => by
    by_cases e : u = i
    · rw [e, hii, hp, h5]
    · rw [sv_ne e]
  have hlk : ∀ a c, CLk W S a c → CLk W (S.set i p') a c := fun a c hac => by
    by_cases e : c = i
    · subst e
      rcases hac with h1 | h1
      · omega
      · exact .inr ⟨by rw [hpc]; exact h1.1, h1.2⟩
    · exact hac.cong rfl (sv_ne e)
  refine ⟨⟨b.wl, by simp [b.sl], b.nh, b.nd, b.hn, b.lt, fun t ht h1 h2 => by rw [hpc]; exact b.out t ht h1 h2, fun t ht => by rw [hpc]; exact b.wait t ht, fun t ht => by rw [hpc]; exact b.a5 t ht, b.chR.mono fun x y _ _ hxy => hlk x y hxy, b.tl, b.end0⟩, k.cong (fun e f hf => hlk _ _ (k.front e f hf)) (fun _ _ => rfl) rfl (fun _ _ => rfl) rfl fun u _ hu => by rw [hpc]; exact hu⟩
/-- the first one takes a step: its spot turns, and maybe its spin -/
theorem CBs.ctrl (b : CBs n W S h A R) (hl : W'.length = W.length) (hN : ∀ u, cnx W' u = cnx W u) (hS : ∀ u, u ≠ h → csp W' u = csp W u) (hT : Go.Proofs.YtkdaiomjbkpedaaGreat.ctl W' = Go.Proofs.YtkdaiomjbkpedaaGreat.ctl W) : CBs n W' (S.set h p') h A R := by
  have hsv : ∀ u, u ∈ A ++ R → sv (S.set h p') u = sv S u := fun u hu => sv_ne (b.waits hu)
  refine ⟨hl.trans b.wl, by simp [b.sl], b.nh, b.nd, b.hn, b.lt, fun t ht h1 h2 => by rw [sv_ne h1, hN, hS t h1]; exact b.out t ht h1 h2, fun t ht => by rw [hsv t ht, hS t (b.waits ht)]; exact b.wait t ht, fun t ht => by rw [hsv t (List.mem_append_left _ ht)]; exact b.a5 t ht, b.chR.mono fun x y hx hy hxy => hxy.cong (hN x) (hsv y (List.mem_append_right _ (List.mem_of_mem_tail hy))), hT.trans b.tl, by rw [hN]; exact b.end0⟩
end
end Go.Proofs.YtkdaiomjbkpedaaGreat
end
section
/- Layer 31 (cna): what the first one of the line does, but for handing on. No program in sight. -/
namespace Go.Proofs.YtkdaiomjbkpedaaGreat
open Go

section
variable {n : Nat} {bud : Int} {node : Nat → Int} {W W' : List Int} {w w' : Wk} {S S' : List Sp} {h i : Nat} {A R : List Nat} {p p' : Sp}
theorem Lead.ctrl {x : Int} (b : CBs n W S h A R) (k : Lead S R x) : Lead (S.set h p') R x := by
  obtain ⟨f, h1, h2, h3⟩ := k
  exact ⟨f, h1, by rw [sv_ne (b.waits (List.mem_append_right _ (mem_of_head h1)))]; exact h2, h3⟩
theorem CBs.frontS (b : CBs n W S h A R) (k : ∀ f, R.head? = some f → CLk W S h f) (hN : ∀ u, cnx W' u = cnx W u) : ∀ f, R.head? = some f → CLk W' (S.set h p') h f := fun f hf =>
  (k f hf).cong (hN h) (sv_ne (b.waits (List.mem_append_right _ (mem_of_head hf))))
theorem CBs.same (b : CBs n W S h A R) : CBs n W (S.set h p') h A R := b.ctrl rfl (fun _ => rfl) (fun _ _ => rfl) rfl
/-- 5, its turn -/
theorem CPh.c5 (k : CPh n bud node W w S h A R p) (b : CBs n W S h A R) (e : p.pc = 5) (hq : p'.pc = 10) : CPh n bud node W w (S.set h p') h A R p' := by
  constructor
  all_goals (try (intro e; exfalso; rw [hq] at e; revert e; decide))
  case pcs => omega
  case front => exact fun _ => b.frontS (k.front (by omega)) fun _ => rfl
  case asd => exact fun _ => k.asd (by rw [e]; decide)
  case asl => exact fun _ => k.asl (by rw [e]; decide)
  case own => exact fun _ => k.own (.inl e)
  case ct0 => exact k.ct0
  case ct => exact k.ct
/-- 6 -/
theorem CPh.c6 (k : CPh n bud node W w S h A R p) (b : CBs n W S h A R) (e : p.pc = 6) (hq : p'.pc = 10) (hN : ∀ u, cnx W' u = cnx W u) (hS : csp W' h = -1) (hC : cct W' = cct W) : CPh n bud node W' w (S.set h p') h A R p' := by
  have hA := k.none_ (by rw [e]; decide)
  constructor
  all_goals (try (intro e; exfalso; rw [hq] at e; revert e; decide))
  case pcs => omega
  case front => exact fun _ => b.frontS (k.front (by omega)) hN
  case asd => exact fun _ => by rw [hA]; exact ⟨trivial, fun l hl => by simp at hl⟩
  case asl => exact fun _ => by rw [hA]; exact fun a l ha => by simp at ha
  case own => exact fun _ => by rw [hA, hS]; rfl
  case ct0 => rw [hC]; exact k.ct0
  case ct => rw [hC]; exact k.ct
/-- 10, it leaves -/
theorem CPh.c10 (k : CPh n bud node W w S h A R p) (b : CBs n W S h A R) (e : p.pc = 10) (hq : p'.pc = 11) : CPh n bud node W w (S.set h p') h A R p' := by
  constructor
  all_goals (try (intro e; exfalso; rw [hq] at e; revert e; decide))
  case pcs => omega
  case front => exact fun _ => b.frontS (k.front (by omega)) fun _ => rfl
  case asd => exact fun _ => k.asd (by rw [e]; decide)
  case asl => exact fun _ => k.asl (by rw [e]; decide)
  case own => exact fun _ => k.own (.inr (.inl e))
  case ct0 => exact k.ct0
  case ct => exact k.ct
theorem CPh.c11 (k : CPh n bud node W w S h A R p) (b : CBs n W S h A R) (e : p.pc = 11) (hq : p'.pc = 12) (hb : p'.b = csp W h) : CPh n bud node W w (S.set h p') h A R p' := by
  constructor
  all_goals (try (intro e; exfalso; rw [hq] at e; revert e; decide))
  case pcs => omega
  case front => exact fun _ => b.frontS (k.front (by omega)) fun _ => rfl
  case asd => exact fun _ => k.asd (by rw [e]; decide)
  case asl => exact fun _ => k.asl (by rw [e]; decide)
  case b => exact fun _ => by rw [hb]; exact k.own (.inr (.inr e))
  case ct0 => exact k.ct0
  case ct => exact k.ct
/-- what next(h) tells -/
theorem CPh.nextA (k : CPh n bud node W w S h A R p) (b : CBs n W S h A R) (e : p.pc ≤ 16) : (cnx W h ≠ 0 → Lead S R (cnx W h)) := fun h0 => by
  cases R with
  | nil => exact absurd b.end0 h0
  | cons f l =>
    rcases k.front e f rfl with h1 | h1
    · exact absurd h1.2.2 h0
    · exact ⟨f, rfl, h1.1, h1.2⟩
theorem Lead.ne {x : Int} (k : Lead S R x) : R ≠ [] := by
  obtain ⟨f, h1, _⟩ := k
  exact ne_of_head h1
/-- 12 and 16, and there is one behind it -/
theorem CPh.c17 (k : CPh n bud node W w S h A R p) (b : CBs n W S h A R) (e : p.pc = 12 ∨ p.pc = 16) (h0 : cnx W h ≠ 0) (hq : p'.pc = 17) (ha : p'.a = cnx W h) (hb : p'.b = p.b) : CPh n bud node W w (S.set h p') h A R p' := by
  have hl := k.nextA b (by omega) h0
  constructor
  all_goals (try (intro e; exfalso; rw [hq] at e; revert e; decide))
  case pcs => omega
  case some_ => exact fun _ => hl.ne
  case leadA => exact fun _ => by rw [ha]; exact hl.ctrl b
  case asd => exact fun _ => k.asd (by rcases e with e | e <;> rw [e] <;> decide)
  case asl => exact fun _ => k.asl (by rcases e with e | e <;> rw [e] <;> decide)
  case b => exact fun _ => by rw [hb]; exact k.b (by rcases e with e | e <;> rw [e] <;> decide)
  case ct0 => exact k.ct0
  case ct => exact k.ct
theorem CPh.c12a (k : CPh n bud node W w S h A R p) (b : CBs n W S h A R) (e : p.pc = 12) (h0 : 0 < p.b) (hq : p'.pc = 14) (hb : p'.b = p.b) : CPh n bud node W w (S.set h p') h A R p' := by
  have hB := k.b (by rw [e]; decide)
  constructor
  all_goals (try (intro e; exfalso; rw [hq] at e; revert e; decide))
  case pcs => omega
  case front => exact fun _ => b.frontS (k.front (by omega)) fun _ => rfl
  case asd => exact fun _ => k.asd (by rw [e]; decide)
  case asl => exact fun _ => k.asl (by rw [e]; decide)
  case b => exact fun _ => by rw [hb]; exact hB
  case some2 => exact fun _ => vA_pos.1 (by omega)
  case ct0 => exact k.ct0
  case ct => exact k.ct
theorem CPh.c12b (k : CPh n bud node W w S h A R p) (b : CBs n W S h A R) (e : p.pc = 12) (h0 : ¬ 0 < p.b) (hq : p'.pc = 13) (hb : p'.b = p.b) : CPh n bud node W w (S.set h p') h A R p' := by
  have hB := k.b (by rw [e]; decide)
  constructor
  all_goals (try (intro e; exfalso; rw [hq] at e; revert e; decide))
  case pcs => omega
  case front => exact fun _ => b.frontS (k.front (by omega)) fun _ => rfl
  case asd => exact fun _ => k.asd (by rw [e]; decide)
  case asl => exact fun _ => k.asl (by rw [e]; decide)
  case b => exact fun _ => by rw [hb]; exact hB
  case none_ =>
    intro _
    apply Classical.byContradiction
    intro hne
    exact h0 (by rw [hB]; exact vA_pos.2 hne)
  case ct0 => exact k.ct0
  case ct => exact k.ct
/-- 13 and 15, and the tail is another one's -/
theorem CPh.c16 (k : CPh n bud node W w S h A R p) (b : CBs n W S h A R) (e : p.pc = 13 ∨ p.pc = 15) (h0 : R ≠ []) (hq : p'.pc = 16) (hb : p'.b = p.b) : CPh n bud node W w (S.set h p') h A R p' := by
  constructor
  all_goals (try (intro e; exfalso; rw [hq] at e; revert e; decide))
  case pcs => omega
  case front => exact fun _ => b.frontS (k.front (by omega)) fun _ => rfl
  case some_ => exact fun _ => h0
  case asd => exact fun _ => k.asd (by rcases e with e | e <;> rw [e] <;> decide)
  case asl => exact fun _ => k.asl (by rcases e with e | e <;> rw [e] <;> decide)
  case b => exact fun _ => by rw [hb]; exact k.b (by rcases e with e | e <;> rw [e] <;> decide)
  case ct0 => exact k.ct0
  case ct => exact k.ct
theorem CPh.c16s (k : CPh n bud node W w S h A R p) (b : CBs n W S h A R) (e : p.pc = 16) (hq : p'.pc = 16) (hb : p'.b = p.b) : CPh n bud node W w (S.set h p') h A R p' := by
  constructor
  all_goals (try (intro e; exfalso; rw [hq] at e; revert e; decide))
  case pcs => omega
  case front => exact fun _ => b.frontS (k.front (by omega)) fun _ => rfl
  case some_ => exact fun _ => k.some_ (by omega)
  case asd => exact fun _ => k.asd (by rw [e]; decide)
  case asl => exact fun _ => k.asl (by rw [e]; decide)
  case b => exact fun _ => by rw [hb]; exact k.b (by rw [e]; decide)
  case ct0 => exact k.ct0
  case ct => exact k.ct
/-- whose tail it is -/
theorem CBs.tailIs (b : CBs n W S h A R) : Go.Proofs.YtkdaiomjbkpedaaGreat.ctl W = num h ↔ R = [] := by
  rw [b.tl]
  refine ⟨fun e => ?_, fun e => by rw [e]; rfl⟩
  have e := num_inj e
  apply Classical.byContradiction
  intro hR
  obtain ⟨t, ht, hm⟩ := last_some hR
  rw [lastD_some ht] at e
  exact b.nh (e ▸ List.mem_append_right _ hm)
theorem CPh.headB (k : CPh n bud node W w S h A R p) (hb : p.pc ∈ [12, 13, 14, 15, 16, 17, 18, 19, 20, 21, 22, 23, 24, 25, 26]) (hA : A ≠ []) : ∃ a l, A.head? = some a ∧ A.getLast? = some l ∧ p.b = num a := by
  obtain ⟨l, hl, _⟩ := last_some hA
  cases A with
  | nil => exact absurd rfl hA
  | cons a A => exact ⟨a, l, rfl, hl, by rw [k.b hb]; exact vA_some rfl⟩
/-- 14 and 25: the last one put aside -/
theorem CPh.c14 (k : CPh n bud node W w S h A R p) (b : CBs n W S h A R) (e : p.pc = 14) (a : Nat) (ha : p.b = num a) (hq : p'.pc = 15) (hc : p'.c = cla W a) (hb : p'.b = p.b) : CPh n bud node W w (S.set h p') h A R p' := by
  have hA := k.some2 (by rw [e]; decide)
  have hB := k.b (by rw [e]; decide)
  have hsl := k.asl (by rw [e]; decide)
  obtain ⟨a', l, h1, h2, h3⟩ := k.headB (by rw [e]; decide) hA
  obtain rfl : a = a' := num_inj (ha.symm.trans h3)
  constructor
  all_goals (try (intro e; exfalso; rw [hq] at e; revert e; decide))
  case pcs => omega
  case front => exact fun _ => b.frontS (k.front (by omega)) fun _ => rfl
  case asd => exact fun _ => k.asd (by rw [e]; decide)
  case asl => exact fun _ => hsl
  case b => exact fun _ => by rw [hb]; exact hB
  case some2 => exact fun _ => hA
  case c => exact fun _ l hl => by rw [hc]; exact hsl a l h1 hl
  case ct0 => exact k.ct0
  case ct => exact k.ct
theorem CPh.c25 (k : CPh n bud node W w S h A R p) (b : CBs n W S h A R) (e : p.pc = 25) (a : Nat) (ha : p.b = num a) (hq : p'.pc = 26) (hc : p'.c = cla W a) (hb : p'.b = p.b) (haa : p'.a = p.a) : CPh n bud node W w (S.set h p') h A R p' := by
  have hA := k.some2 (by rw [e]; decide)
  have hB := k.b (by rw [e]; decide)
  have hsl := k.asl (by rw [e]; decide)
  obtain ⟨a', l, h1, h2, h3⟩ := k.headB (by rw [e]; decide) hA
  obtain rfl : a = a' := num_inj (ha.symm.trans h3)
  constructor
  all_goals (try (intro e; exfalso; rw [hq] at e; revert e; decide))
  case pcs => omega
  case some_ => exact fun _ => k.some_ (by omega)
  case leadA => exact fun _ => by rw [haa]; exact (k.leadA (by rw [e]; decide)).ctrl b
  case asd => exact fun _ => k.asd (by rw [e]; decide)
  case asl => exact fun _ => hsl
  case b => exact fun _ => by rw [hb]; exact hB
  case some2 => exact fun _ => hA
  case c => exact fun _ l hl => by rw [hc]; exact hsl a l h1 hl
  case ct0 => exact k.ct0
  case ct => exact k.ct
/-- 17 and 18: no more of its node, or no more budget: with those put aside, or without -/
theorem CPh.cF25 (k : CPh n bud node W w S h A R p) (b : CBs n W S h A R) (e : p.pc = 17 ∨ p.pc = 18) (h0 : 0 < p.b) (hq : p'.pc = 25) (haa : p'.a = p.a) (hb : p'.b = p.b) : CPh n bud node W w' (S.set h p') h A R p' := by
  have hB := k.b (by rcases e with e | e <;> rw [e] <;> decide)
  constructor
  all_goals (try (intro e; exfalso; rw [hq] at e; revert e; decide))
  case pcs => omega
  case some_ => exact fun _ => k.some_ (by omega)
  case leadA => exact fun _ => by rw [haa]; exact (k.leadA (by rcases e with e | e <;> rw [e] <;> decide)).ctrl b
  case asd => exact fun _ => k.asd (by rcases e with e | e <;> rw [e] <;> decide)
  case asl => exact fun _ => k.asl (by rcases e with e | e <;> rw [e] <;> decide)
  case b => exact fun _ => by rw [hb]; exact hB
  case some2 => exact fun _ => vA_pos.1 (by omega)
  case ct0 => exact k.ct0
  case ct => exact k.ct
theorem CPh.cF29 (k : CPh n bud node W w S h A R p) (b : CBs n W S h A R) (e : p.pc = 17 ∨ p.pc = 18) (h0 : ¬ 0 < p.b) (hq : p'.pc = 29) (haa : p'.a = p.a) : CPh n bud node W w' (S.set h p') h A R p' := by
  have hB := k.b (by rcases e with e | e <;> rw [e] <;> decide)
  constructor
  all_goals (try (intro e; exfalso; rw [hq] at e; revert e; decide))
  case pcs => omega
  case some_ => exact fun _ => k.some_ (by omega)
  case leadA => exact fun _ => by rw [haa]; exact (k.leadA (by rcases e with e | e <;> rw [e] <;> decide)).ctrl b
  case asd => exact fun _ => k.asd (by rcases e with e | e <;> rw [e] <;> decide)
  case asl => exact fun _ => k.asl (by rcases e with e | e <;> rw [e] <;> decide)
  case none_ =>
    intro _
    apply Classical.byContradiction
    intro hne
    exact h0 (by rw [hB]; exact vA_pos.2 hne)
  case ct0 => exact k.ct0
  case ct => exact k.ct
theorem nodup_len : ∀ (m : Nat) (l : List Nat), l.Nodup → (∀ x ∈ l, x < m) → l.length ≤ m := by
  intro m
  induction m with
  | zero =>
    intro l _ hl
    cases l with
    | nil => simp
    | cons a l => have := hl a (by simp); omega
  | succ m ih =>
    intro l hn hl
    have h1 := ih (l.erase m) (hn.erase m) fun x hx => by
      have h2 := hl x (List.mem_of_mem_erase hx)
      have h3 : x ≠ m := fun e => by rw [e] at hx; exact hn.not_mem_erase hx
      omega
    have h2 := List.length_erase (a := m) (l := l)
    split at h2 <;> omega
theorem len_lt (b : CBs n W S h A R) : R.length < n := by
  have hnd : (h :: R).Nodup := List.nodup_cons.2 ⟨fun hm => b.nh (List.mem_append_right _ hm), (List.nodup_append.1 b.nd).2.1⟩
  have := nodup_len n (h :: R) hnd fun x hx => by
    rcases List.mem_cons.1 hx with rfl | hx
    · exact b.hn
    · exact b.lt x (List.mem_append_right _ hx)
  rw [List.length_cons] at this
  omega
/-- 17: the walk begins -/
theorem CPh.c17w (k : CPh n bud node W w S h A R p) (b : CBs n W S h A R) (e : p.pc = 17) (hc : cct W < bud) (hw : w' = beginW n node w p.a (node h)) (haa : p'.a = p.a) (hb : p'.b = p.b) (hq : p'.pc = if w'.way then 18 else 23) : CPh n bud node W w' (S.set h p') h A R p' := by
  have hB := k.b (by rw [e]; decide)
  obtain ⟨f, h1, h2, h3⟩ := k.leadA (by rw [e]; decide)
  have hla := (k.leadA (by rw [e]; decide)).ctrl (p' := p') b
  have hfR := mem_of_head h1
  have hfn := b.lt f (List.mem_append_right _ hfR)
  have e1 : (p.a - 1).toNat = f := by rw [h3]; unfold num; omega
  have hpos : 0 < n := by omega
  by_cases hnd : node f = node h
  · have hw' : w' = { node := node h, way := false, passed := 0, last := 0, found := num f } := by
      rw [hw]; unfold beginW takeW
      rw [if_neg, if_pos]
      · rw [h3]
      · rw [e1]; exact hnd
      · rw [h3]; unfold num; simp; omega
    have hq' : p'.pc = 23 := by rw [hq, hw']; rfl
    constructor
    all_goals (try (intro e; exfalso; rw [hq'] at e; revert e; decide))
    case pcs => omega
    case some_ => exact fun _ => k.some_ (by omega)
    case leadA => exact fun _ => by rw [haa]; exact hla
    case asd => exact fun _ => k.asd (by rw [e]; decide)
    case asl => exact fun _ => k.asl (by rw [e]; decide)
    case b => exact fun _ => by rw [hb]; exact hB
    case ct0 => exact k.ct0
    case ct => exact k.ct
    case ctlt => exact fun _ => hc
  · have hw' : w' = { node := node h, way := true, passed := 0 + 1, last := num f, found := 0 } := by
      rw [hw]; unfold beginW takeW
      rw [if_neg, if_neg]
      · rw [h3]
      · rw [e1]; exact hnd
      · rw [h3]; unfold num; simp; omega
    have hq' : p'.pc = 18 := by rw [hq, hw']; rfl
    constructor
    all_goals (try (intro e; exfalso; rw [hq'] at e; revert e; decide))
    case pcs => omega
    case some_ => exact fun _ => k.some_ (by omega)
    case leadA => exact fun _ => by rw [haa]; exact hla
    case asd => exact fun _ => k.asd (by rw [e]; decide)
    case asl => exact fun _ => k.asl (by rw [e]; decide)
    case b => exact fun _ => by rw [hb]; exact hB
    case walk =>
      intro _
      rw [hw']
      refine ⟨rfl, rfl, rfl, [f], R.tail, ?_, by simp, rfl, fun l hl => by simp at hl; rw [hl], fun t ht => ?_⟩
      · cases R with
        | nil => simp at h1
        | cons a l => simp at h1; subst h1; rfl
      · rw [List.mem_singleton.1 ht, sv_ne (b.waits (List.mem_append_right _ hfR))]; exact h2
    case ct0 => exact k.ct0
    case ct => exact k.ct
    case ctlt => exact fun _ => hc
/-- 18: a step of the walk: who is behind the last one -/
theorem CPh.walkAt (k : CPh n bud node W w S h A R p) (b : CBs n W S h A R) (e : p.pc = 18) :
    ∃ l, l < n ∧ w.last = num l ∧ ∀ w', w' = takeW n node w (cnx W l) →
      (w'.way = true ∧ ∀ p', p'.pc = 18 → p'.a = p.a → p'.b = p.b → CPh n bud node W w' (S.set h p') h A R p') ∨
      (w'.way = false ∧ w'.found = 0) ∨
      (w'.way = false ∧ w'.found ≠ 0 ∧ ∀ p', p'.pc = 19 → p'.a = p.a → p'.b = p.b → CPh n bud node W w' (S.set h p') h A R p') := by
  have hB := k.b (by rw [e]; decide)
  obtain ⟨hway, hnode, hfound, P, R', hR, hP, hpas, hlast, hp5⟩ := k.walk e
  obtain ⟨l, hl, hlm⟩ := last_some hP
  have hlR : l ∈ R := by rw [hR]; exact List.mem_append_left _ hlm
  have hlen := len_lt b
  have hlenR : R.length = P.length + R'.length := by rw [hR]; simp
  refine ⟨l, b.lt l (List.mem_append_right _ hlR), hlast l hl, fun w' hw => ?_⟩
  have over : cnx W l = 0 → (w'.way = false ∧ w'.found = 0) := fun h0 => by
    rw [hw, h0]; unfold takeW
    rw [if_pos (.inl (by omega))]
    exact ⟨rfl, hfound⟩
  cases R' with
  | nil =>
    refine .inr (.inl (over ?_))
    have := b.end0
    rw [hR, List.append_nil, lastD_some hl] at this
    exact this
  | cons s R'' =>
    have hlk : CLk W S l s := by
      have := b.chR
      rw [hR] at this
      exact this.joint hl rfl
    rcases hlk with h1 | ⟨hs5, hs⟩
    · exact .inr (.inl (over h1.2.2))
    · have hsR : s ∈ R := by rw [hR]; simp
      have hsn := b.lt s (List.mem_append_right _ hsR)
      have e1 : (num s - 1).toNat = s := by unfold num; omega
      have c1 : ¬ (¬ (1 ≤ num s ∧ num s ≤ (n : Int)) ∨ w.passed = n) := by
        rw [hpas]; unfold num; simp at hlenR; omega
      have lead' : ∀ p' : Sp, p'.a = p.a → Lead (S.set h p') R p'.a := fun p' haa => by rw [haa]; exact (k.leadA (by rw [e]; decide)).ctrl b
      have hsv : ∀ (p' : Sp) u, u ∈ R → sv (S.set h p') u = sv S u := fun p' u hu => sv_ne (b.waits (List.mem_append_right _ hu))
      have hPR : ∀ t, t ∈ P → t ∈ R := fun t ht => by rw [hR]; exact List.mem_append_left _ ht
      by_cases hnd : node s = node h
      · have hw' : w' = { w with way := false, found := num s } := by
          rw [hw, hs]; unfold takeW
          rw [if_neg c1, if_pos (by rw [e1, hnode]; exact hnd)]
        refine .inr (.inr ⟨by rw [hw'], by rw [hw']; exact num_ne s, fun p' hq haa hb => ?_⟩)
        constructor
        all_goals (try (intro e; exfalso; rw [hq] at e; revert e; decide))
        case pcs => omega
        case some_ => exact fun _ => k.some_ (by omega)
        case leadA => exact fun _ => lead' p' haa
        case asd => exact fun _ => k.asd (by rw [e]; decide)
        case asl => exact fun _ => k.asl (by rw [e]; decide)
        case b => exact fun _ => by rw [hb]; exact hB
        case found =>
          intro _
          refine ⟨P, R'', s, hR, hP, by rw [hw'], by rw [hsv p' s hsR]; exact hs5, fun l hl => by rw [hw']; exact hlast l hl, fun t ht => by rw [hsv p' t (hPR t ht)]; exact hp5 t ht⟩
        case ct0 => exact k.ct0
        case ct => exact k.ct
        case ctlt => exact fun _ => k.ctlt (by rw [e]; decide)
      · have hw' : w' = { w with way := true, last := num s, passed := w.passed + 1 } := by
          rw [hw, hs]; unfold takeW
          rw [if_neg c1, if_neg (by rw [e1, hnode]; exact hnd)]
        refine .inl ⟨by rw [hw'], fun p' hq haa hb => ?_⟩
        constructor
        all_goals (try (intro e; exfalso; rw [hq] at e; revert e; decide))
        case pcs => omega
        case some_ => exact fun _ => k.some_ (by omega)
        case leadA => exact fun _ => lead' p' haa
        case asd => exact fun _ => k.asd (by rw [e]; decide)
        case asl => exact fun _ => k.asl (by rw [e]; decide)
        case b => exact fun _ => by rw [hb]; exact hB
        case walk =>
          intro _
          rw [hw']
          refine ⟨rfl, hnode, hfound, P ++ [s], R'', by rw [hR]; simp, by simp, by rw [hpas]; simp, fun l hl => ?_, fun t ht => ?_⟩
          · obtain rfl : s = l := by simpa using hl
            rfl
          · rcases List.mem_append.1 ht with ht | ht
            · rw [hsv p' t (hPR t ht)]; exact hp5 t ht
            · rw [List.mem_singleton.1 ht, hsv p' s hsR]; exact hs5
        case ct0 => exact k.ct0
        case ct => exact k.ct
        case ctlt => exact fun _ => k.ctlt (by rw [e]; decide)
end
end Go.Proofs.YtkdaiomjbkpedaaGreat
end
