/- Layer 40: the kinds' names. No program in sight. -/
import Derived.Tactics
namespace Go.Proofs.YtgbfbeohmogadaaGreat
open Go
def nmB : Nat → ByteArray
  | 1 => ⟨#[116, 97, 115]⟩
  | 2 => ⟨#[116, 105, 99, 107, 101, 116]⟩
  | 3 => ⟨#[112, 97, 114, 116, 101, 100]⟩
  | 4 => ⟨#[109, 99, 115]⟩
  | 5 => ⟨#[99, 108, 104]⟩
  | 6 => ⟨#[99, 111, 104, 111, 114, 116]⟩
  | 7 => ⟨#[104, 109, 99, 115]⟩
  | 8 => ⟨#[104, 99, 108, 104]⟩
  | 9 => ⟨#[99, 110, 97]⟩
  | 10 => ⟨#[109, 97, 108, 116, 104, 117, 115]⟩
  | 11 => ⟨#[110, 101, 117, 116, 114, 97, 108]⟩
  | 12 => ⟨#[114, 101, 97, 100, 101, 114, 115]⟩
  | 13 => ⟨#[119, 114, 105, 116, 101, 114, 115]⟩
  | _ => ⟨#[]⟩
def nameS (n : Int) : ByteArray := nmB n.toNat
def KindIs (s : ByteArray) (k : Nat) : Prop := (k = 0 ∧ ∀ i, 1 ≤ i → i ≤ 13 → nmB i ≠ s) ∨ (1 ≤ k ∧ k ≤ 13 ∧ nmB k = s)
theorem nmB_inj : ∀ i, i < 14 → ∀ j, j < 14 → nmB i = nmB j → i = j := by
  have h : ∀ i, i < 14 → ∀ j, j < 14 → (nmB i).data = (nmB j).data → i = j := by decide +kernel
  exact fun i hi j hj e => h i hi j hj (by rw [e])
theorem nmB_ne : ∀ i, 1 ≤ i → i ≤ 13 → ¬ (nmB i).toList = [] ∧ (nmB i).toList.isEmpty = false := by
  have h : ∀ i, i < 14 → 1 ≤ i → (¬ (nmB i).toList = [] ∧ (nmB i).toList.isEmpty = false) := by decide +kernel
  exact fun i h1 h2 => h i (by omega) h1
theorem nmB_size : ∀ i, i ≤ 13 → (nmB i).size ≤ 7 := by
  have h : ∀ i, i < 14 → (nmB i).size ≤ 7 := by decide +kernel
  exact fun i h2 => h i (by omega)
theorem nmB_out {i : Nat} (h : 14 ≤ i) : nmB i = ⟨#[]⟩ := by
  unfold nmB
  split <;> first | omega | rfl
theorem KindIs.uniq {s : ByteArray} {j k : Nat} (h1 : KindIs s j) (h2 : KindIs s k) : j = k := by
  rcases h1 with ⟨rfl, a⟩ | ⟨a1, a2, a3⟩
  · rcases h2 with ⟨rfl, _⟩ | ⟨b1, b2, b3⟩
    · rfl
    · exact absurd b3 (a k b1 b2)
  · rcases h2 with ⟨rfl, b⟩ | ⟨b1, b2, b3⟩
    · exact absurd a3 (b j a1 a2)
    · exact nmB_inj j (by omega) k (by omega) (a3.trans b3.symm)
theorem KindIs.long {s : ByteArray} {k : Nat} (h : KindIs s k) (hs : 100 < s.size) : k = 0 := by
  rcases h with ⟨rfl, _⟩ | ⟨a1, a2, a3⟩
  · rfl
  · have := nmB_size k a2
    rw [a3] at this; omega
theorem KindIs.le {s : ByteArray} {k : Nat} (h : KindIs s k) : k ≤ 13 := by
  rcases h with ⟨rfl, _⟩ | ⟨_, a2, _⟩ <;> omega
/-- the kind of a name -/
theorem KindIs.name {n : Int} {k : Nat} (h : KindIs (nameS n) k) : nameS n = ⟨#[]⟩ ∨ (k : Int) = n := by
  unfold nameS at *
  by_cases h1 : 1 ≤ n.toNat ∧ n.toNat ≤ 13
  · have h2 : KindIs (nmB n.toNat) n.toNat := .inr ⟨h1.1, h1.2, rfl⟩
    have := h.uniq h2
    exact .inr (by omega)
  · left
    by_cases h0 : n.toNat = 0
    · rw [h0]; rfl
    · exact nmB_out (by omega)
end Go.Proofs.YtgbfbeohmogadaaGreat
