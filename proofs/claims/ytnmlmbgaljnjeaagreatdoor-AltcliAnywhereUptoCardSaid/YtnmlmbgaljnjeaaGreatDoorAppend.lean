/- append of a slice to a row of the call's own, as one law. Conditions: 2^47 bytes. -/
import Derived.Test.YtnmlmbgaljnjeaaGreatDoorSlices
import Derived.Maps.AppendAt
import Derived.Laws.AppendOwnNone
set_option linter.unusedVariables false
set_option linter.unusedSimpArgs false
namespace Go.Proofs.YtnmlmbgaljnjeaaGreatDoor
open Go.RowKit

/-- a slice at no address is nil -/
def Tight (v : Value) : Prop := ∀ n c, v = .slice none n c → n = 0 ∧ c = 0
theorem tight_some (p : Addr) (n c : Nat) : Tight (.slice (some p) n c) := fun _ _ h => by cases h
theorem tight_nil : Tight (.slice none 0 0) := fun _ _ h => by cases h; exact ⟨rfl, rfl⟩
theorem own_tight {w : World} {base n : Nat} {e : TypeId} {size : Nat} {v : Value} {xs : List Value} (h : w.ownsRow base e size v n xs) : Tight v := by
  rcases h.2 with ⟨rfl, rfl⟩ | ⟨g, cap, cur, rfl, _⟩
  · exact tight_nil
  · exact tight_some _ _ _

theorem RowAt.alloc' {α : Type} {enc : α → List Value} {sz T lo : Nat} {w : World} {v : Value} {l : List α} (h : RowAt enc sz T lo w v l) (o : Obj) : RowAt enc sz T lo (w.alloc o) v l :=
  h.below ((Below.refl _ w).alloc (Nat.le_refl _) o)
/-- w' is w as far as w's blocks go -/
theorem RowAt.below' {α : Type} {enc : α → List Value} {sz T lo : Nat} {w w' : World} {v : Value} {l : List α} (h : RowAt enc sz T lo w v l) (k : Below w.heap.size w w') : RowAt enc sz T lo w' v l := h.below k

theorem flat_len {α : Type} (enc : α → List Value) (sz : Nat) (hsz : ∀ x, (enc x).length = sz) (l : List α) : (l.flatMap enc).length = l.length * sz := by
  induction l with
  | nil => simp
  | cons a l ih => rw [List.flatMap_cons, List.length_append, ih, hsz, List.length_cons, Nat.succ_mul]; omega

theorem wpList_append_row {P : Program} {w : World} {ops : Array Oper} {rest : List Oper} {o : Oper} {a : Act} {Q : Exit → Act → World → Prop} (hgd : o.guard = none) (s x : Operand) (t : TypeId)
    (ho : o.op = .call { callee := .builtin .append, args := #[s, x], argTypes := #[t, t] })
    (base : Nat) (e : TypeId) (i : TypeInfo) (z : Value) (size bytes : Nat) (ht : P.underlying t = some (.slice e)) (hi : P.info? e = some i) (hz : i.zero = some z)
    (hsize : i.size = size) (hby : i.bytes = bytes) (hzs : z.cells.size = size) (hsz : 0 < size)
    (v : Value) (n : Nat) (xs : List Value) (hs : a.eval s = v) (hown : w.ownsRow base e size v n xs)
    {α : Type} {enc : α → List Value} {T lo : Nat} {xv : Value} {l : List α} (hx : a.eval x = xv) (hl : RowAt enc size T lo w xv l) (htl : Tight xv) (henc : ∀ x, (enc x).length = size) (h1 : ∀ x, ∀ u ∈ enc x, u.oneCell' = true)
    (h63 : n + l.length ≤ maxLen) (hbytes : (n + l.length) * bytes ≤ 140737488355328) (hbase : base ≤ w.heap.size)
    (h : ∀ v' w', w'.ownsRow base e size v' (n + l.length) (xs ++ l.flatMap enc) → w.grownBy w' v.ownBlock → wpList P ops Q rest (a.put o.dst v') w') :
    wpList P ops Q (o :: rest) a w := by
  by_cases hl0 : l = []
  · subst hl0
    obtain ⟨A, c, rfl, _, _⟩ := hl
    cases A with
    | none =>
      obtain ⟨_, hc0⟩ := htl _ _ rfl
      subst hc0
      exact wpList_append_own_none hgd s x t ho base e i size ht hi v n xs hs hown hx (h v w (by simpa using hown) ⟨rfl, rfl, rfl, Nat.le_refl _, fun _ _ _ => rfl⟩)
    | some ad =>
      exact wpList_append_own_at w hgd s x t ho base e i z size bytes ht hi hz hsize hby hzs hsz v n xs hs hown ad 0 c [] hx (by simp) (fun j u hu => by simp at hu) (fun u hu => by simp at hu) (by simpa using h63) (by simpa using hbytes) hbase
        (fun v' w' h2 h3 _ _ => h v' w' (by simpa using h2) h3)
  · have hv := hl
    obtain ⟨A, c, rfl, _, _⟩ := hv
    obtain ⟨_, b, o', rfl, hb, hcells⟩ := rowAt_cells hl henc hl0
    exact wpList_append_own_at w hgd s x t ho base e i z size bytes ht hi hz hsize hby hzs hsz v n xs hs hown ⟨b, o', none⟩ l.length c (l.flatMap enc) hx (flat_len enc size henc l) hcells (fun u hu => by
        obtain ⟨y, _, hu⟩ := List.mem_flatMap.1 hu
        exact h1 y u hu) h63 hbytes hbase (fun v' w' h2 h3 _ _ => h v' w' h2 h3)

end Go.Proofs.YtnmlmbgaljnjeaaGreatDoor
