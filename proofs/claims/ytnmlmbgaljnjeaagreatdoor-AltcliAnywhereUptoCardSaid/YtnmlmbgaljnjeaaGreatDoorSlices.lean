/- Slices of structs: what they read as, and where they stay. No conditions. -/
import Derived.Test.YtnmlmbgaljnjeaaGreatDoorBase
set_option linter.unusedVariables false
set_option linter.unusedSimpArgs false
namespace Go.Proofs.YtnmlmbgaljnjeaaGreatDoor
open Go.RowKit

/-- block b is one that stays: it lay below lo, or its cells are of type T -/
def Stays (T lo : Nat) (w : World) (b : Nat) : Prop := b < lo ∨ ∃ blk fz, w.heap[b]? = some (.cells blk T fz)
/-- v is a slice that reads as l: each element's cells, one behind the other -/
def RowAt {α : Type} (enc : α → List Value) (sz T lo : Nat) (w : World) (v : Value) (l : List α) : Prop :=
  ∃ A c, v = .slice A l.length c ∧ l.length ≤ c ∧ (l ≠ [] → ∃ b o, A = some ⟨b, o, none⟩ ∧ b < w.heap.size ∧ Stays T lo w b ∧ ∀ i x, l[i]? = some x → ∀ j u, (enc x)[j]? = some u → w.cell? ⟨b, o + i * sz + j, none⟩ = some u)

/-- blocks outside of S lie as they lay -/
def Keeps (S : Nat → Prop) (w w' : World) : Prop := w.heap.size ≤ w'.heap.size ∧ ∀ i, i < w.heap.size → ¬ S i → w'.heap[i]? = w.heap[i]?
theorem Keeps.refl (S : Nat → Prop) (w : World) : Keeps S w w := ⟨Nat.le_refl _, fun _ _ _ => rfl⟩
theorem Keeps.trans {S : Nat → Prop} {a b c : World} (h : Keeps S a b) (k : Keeps S b c) : Keeps S a c :=
  ⟨Nat.le_trans h.1 k.1, fun i hi hs => (k.2 i (Nat.lt_of_lt_of_le hi h.1) hs).trans (h.2 i hi hs)⟩
theorem keeps_of_below {S : Nat → Prop} {w w' : World} (h : Below w.heap.size w w') : Keeps S w w' := ⟨h.size, fun i hi _ => h.block i hi⟩
theorem Keeps.mono {S S' : Nat → Prop} {w w' : World} (h : Keeps S w w') (hs : ∀ i, S i → S' i) : Keeps S' w w' := ⟨h.1, fun i hi hn => h.2 i hi (fun k => hn (hs i k))⟩
theorem cell_of_block {w w' : World} {b : Nat} (h : w'.heap[b]? = w.heap[b]?) (o : Nat) : w'.cell? ⟨b, o, none⟩ = w.cell? ⟨b, o, none⟩ := by simp [World.cell?, h]

theorem RowAt.keeps {α : Type} {enc : α → List Value} {sz T lo : Nat} {w w' : World} {v : Value} {l : List α} {S : Nat → Prop} (h : RowAt enc sz T lo w v l) (k : Keeps S w w')
    (hS : ∀ i, S i → ¬ Stays T lo w i) : RowAt enc sz T lo w' v l := by
  obtain ⟨A, c, rfl, hc, hr⟩ := h
  refine ⟨A, c, rfl, hc, fun hl => ?_⟩
  obtain ⟨b, o, rfl, hb, hst, hcells⟩ := hr hl
  have e : w'.heap[b]? = w.heap[b]? := k.2 b hb (fun s => hS b s hst)
  refine ⟨b, o, rfl, Nat.lt_of_lt_of_le hb k.1, ?_, fun i x hx j u hu => by rw [cell_of_block e]; exact hcells i x hx j u hu⟩
  unfold Stays
  rw [e]
  exact hst
theorem RowAt.below {α : Type} {enc : α → List Value} {sz T lo : Nat} {w w' : World} {v : Value} {l : List α} (h : RowAt enc sz T lo w v l) (k : Below w.heap.size w w') : RowAt enc sz T lo w' v l :=
  h.keeps (S := fun _ => False) (keeps_of_below k) (fun _ h => h.elim)

/-- a row of the call's own reads so -/
theorem rowAt_own {α : Type} {enc : α → List Value} {sz T lo base n : Nat} {w : World} {v : Value} {xs : List Value} {l : List α} (h : w.ownsRow base T sz v n xs) (hn : n = l.length) (hx : xs = l.flatMap enc) (hsz : ∀ x, (enc x).length = sz) :
    RowAt enc sz T lo w v l := by
  subst hn hx
  rcases h.2 with ⟨rfl, h0⟩ | ⟨g, cap, cur, rfl, hb, hh, h1, h2, h3, h4⟩
  · obtain rfl : l = [] := List.eq_nil_of_length_eq_zero h0
    exact ⟨none, 0, rfl, Nat.le_refl _, fun h => absurd rfl h⟩
  · refine ⟨some ⟨g, 0, none⟩, cap, rfl, h1, fun hl => ⟨g, 0, rfl, (Array.getElem?_eq_some_iff.1 hh).1, .inr ⟨cur, _, hh⟩, fun i x hx j u hu => ?_⟩⟩
    have hget : ∀ (l : List α) (i : Nat) (x : α), l[i]? = some x → ∀ j u, (enc x)[j]? = some u → (l.flatMap enc)[i * sz + j]? = some u := by
      intro l
      induction l with
      | nil => intro i x hx; simp at hx
      | cons a l ih =>
        intro i x hx j u hu
        rw [List.flatMap_cons]
        cases i with
        | zero =>
          simp at hx; subst hx
          have hj : j < (enc a).length := (List.getElem?_eq_some_iff.1 hu).1
          rw [Nat.zero_mul, Nat.zero_add, List.getElem?_append_left hj]; exact hu
        | succ i =>
          rw [List.getElem?_append_right (by rw [hsz, Nat.succ_mul]; omega), hsz, show (i + 1) * sz + j - sz = i * sz + j from by rw [Nat.succ_mul]; omega]
          exact ih i x (by simpa using hx) j u hu
    have h5 := hget l i x hx j u hu
    rw [← h4, List.getElem?_take] at h5
    split at h5
    · have h6 : cur[i * sz + j]? = some u := by simpa using h5
      simp [World.cell?, hh, h6]
    · simp at h5

theorem rowAt_nil {α : Type} (enc : α → List Value) (sz T lo : Nat) (w : World) (A : Option Addr) (c : Nat) : RowAt enc sz T lo w (.slice A 0 c) ([] : List α) := ⟨A, c, rfl, Nat.zero_le _, fun h => absurd rfl h⟩

abbrev StrAt (lo : Nat) (w : World) (v : Value) (l : List ByteArray) : Prop := RowAt (fun s => [Value.string s]) 1 9 lo w v l

/-- a shorter cut of a row of the call's own -/
theorem own_take {w : World} {base : Nat} {e : TypeId} {size g k m cap : Nat} {xs : List Value} (h : w.ownsRow base e size (.slice (some ⟨g, 0, none⟩) k cap) k xs) (hm : m ≤ k) : w.ownsRow base e size (.slice (some ⟨g, 0, none⟩) m cap) m (xs.take (m * size)) := by
  have hl := h.1
  have hmk : m * size ≤ k * size := Nat.mul_le_mul_right _ hm
  rcases h.2 with ⟨h1, _⟩ | ⟨g', cap', cur, h1, h2, h3, h4, h5, h6⟩
  · cases h1
  · cases h1
    refine ⟨by rw [List.length_take]; omega, .inr ⟨g, cap, cur, rfl, h2, h3, ?_⟩⟩
    refine ⟨Nat.le_trans hm h4, h5, h6.1, ?_⟩
    rw [← h6.2, List.take_take, Nat.min_eq_left hmk]

theorem own_slice {w : World} {base n : Nat} {e : TypeId} {size : Nat} {v : Value} {xs : List Value} (h : w.ownsRow base e size v n xs) : ∃ A c, v = .slice A n c := by
  rcases h.2 with ⟨rfl, rfl⟩ | ⟨g, cap, cur, rfl, _⟩
  · exact ⟨none, 0, rfl⟩
  · exact ⟨_, cap, rfl⟩

theorem own_cap {w : World} {base n c : Nat} {A : Option Addr} {e : TypeId} {size : Nat} {xs : List Value} (h : w.ownsRow base e size (.slice A n c) n xs) : n ≤ c := by
  rcases h.2 with ⟨h1, h2⟩ | ⟨g, cap, cur, h1, _, _, h2, _⟩
  · omega
  · cases h1; exact h2

/-- the cells of a slice, one by one -/
theorem rowAt_cells {α : Type} {enc : α → List Value} {sz T lo : Nat} {w : World} {A : Option Addr} {n c : Nat} {l : List α} (h : RowAt enc sz T lo w (.slice A n c) l) (hsz : ∀ x, (enc x).length = sz) (hl : l ≠ []) :
    n = l.length ∧ ∃ b o, A = some ⟨b, o, none⟩ ∧ b < w.heap.size ∧ ∀ j u, (l.flatMap enc)[j]? = some u → w.cell? ((⟨b, o, none⟩ : Addr).add j) = some u := by
  obtain ⟨A', c', hv, hc, hr⟩ := h
  cases hv
  obtain ⟨b, o, rfl, hb, _, hcells⟩ := hr hl
  refine ⟨rfl, b, o, rfl, hb, fun j u hu => ?_⟩
  have e1 : (⟨b, o, none⟩ : Addr).add j = ⟨b, o + j, none⟩ := by unfold Addr.add; split <;> simp_all
  rw [e1]
  have key : ∀ (l : List α) (k : Nat), (∀ i x, l[i]? = some x → ∀ j u, (enc x)[j]? = some u → w.cell? ⟨b, o + (k + i) * sz + j, none⟩ = some u) → ∀ j u, (l.flatMap enc)[j]? = some u → w.cell? ⟨b, o + k * sz + j, none⟩ = some u := by
    intro l
    induction l with
    | nil => intro k _ j u hu; simp at hu
    | cons a l ih =>
      intro k hk j u hu
      rw [List.flatMap_cons] at hu
      by_cases hj : j < sz
      · rw [List.getElem?_append_left (by rw [hsz]; exact hj)] at hu
        exact hk 0 a rfl j u hu
      · rw [List.getElem?_append_right (by rw [hsz]; omega), hsz] at hu
        have := ih (k + 1) (fun i x hx j u hu => by
          have := hk (i + 1) x (by simpa using hx) j u hu
          rwa [show k + (i + 1) = k + 1 + i from by omega] at this) (j - sz) u hu
        rwa [Nat.add_mul, show o + (k * sz + 1 * sz) + (j - sz) = o + k * sz + j from by omega] at this
  have := key l 0 (fun i x hx j u hu => by rw [Nat.zero_add]; exact hcells i x hx j u hu) j u hu
  rwa [Nat.zero_mul, Nat.add_zero] at this

end Go.Proofs.YtnmlmbgaljnjeaaGreatDoor
