/- args, in plain lists: which items words are. No conditions. -/
import Derived.Test.YtnmlmbgaljnjeaaGreatDoorPath
import Derived.Test.YtnmlmbgaljnjeaaGreatDoorAppend
set_option linter.unusedVariables false
set_option linter.unusedSimpArgs false
namespace Go.Proofs.YtnmlmbgaljnjeaaGreatDoor
open Go.RowKit

/-- an option that may be -/
structure Spc where
  long : ByteArray
  short : UInt8
  needs : Int
/-- an item: its name, its values -/
abbrev Itm := ByteArray × List ByteArray

def encSpc (s : Spc) : List Value := [.string s.long, .int .u8 (s.short.toNat : Int), .int .i64 s.needs]
/-- an item's cells: y.2 is the slice of its values -/
def encItm (y : Itm × Value) : List Value := [.string y.1.1, y.2]
abbrev SpcAt (lo : Nat) (w : World) (v : Value) (l : List Spc) : Prop := RowAt encSpc 3 30 lo w v l
/-- items' values -/
def Vals (lo : Nat) (w : World) (m : List (Itm × Value)) : Prop := ∀ y ∈ m, StrAt lo w y.2 y.1.2 ∧ Tight y.2
/-- v is a slice of items -/
def ItmAt (lo : Nat) (w : World) (v : Value) (l : List Itm) : Prop := ∃ m : List (Itm × Value), m.map (·.1) = l ∧ RowAt encItm 2 62 lo w v m ∧ Vals lo w m

/-- the first option that is so -/
def sfind (S : List Spc) (p : Spc → Bool) : Option Spc := S.find? (fun s => !s.long.toList.isEmpty && p s)
/-- an option with the next words -/
def aput (s : Spc) (rest : List ByteArray) : Option (Itm × Nat) :=
  if s.needs.toNat ≤ rest.length then some ((s.long, rest.take s.needs.toNat), s.needs.toNat) else none
def along (S : List Spc) (w : ByteArray) (rest : List ByteArray) : Option (List Itm × Nat) :=
  match sfind S (fun s => s.long.toList == (cut1 w 61).1.toList) with
  | none => none
  | some s => if (cut1 w 61).2.2 then (if s.needs = 1 then some ([(s.long, [(cut1 w 61).2.1])], 0) else none) else (aput s rest).map (fun x => ([x.1], x.2))
def ashort (S : List Spc) (rest : List ByteArray) : List UInt8 → Option (List Itm × Nat)
  | [] => some ([], 0)
  | c :: t => match sfind S (fun s => s.short != 0 && s.short == c) with
    | none => none
    | some s => if 1 < s.needs ∧ t ≠ [] then none
      else if s.needs = 1 ∧ t ≠ [] then some ([(s.long, [⟨t.toArray⟩])], 0)
      else match aput s rest with
        | none => none
        | some x => match ashort S (rest.drop x.2) t with
          | none => none
          | some y => some (x.1 :: y.1, x.2 + y.2)
def aword (S : List Spc) (w : ByteArray) (rest : List ByteArray) : Option (List Itm × Nat) :=
  if [45, 45] <+: w.data.toList then along S (w.extract 2 w.size) rest
  else if 1 < w.size ∧ w.data.toList.head? = some 45 then ashort S rest (w.data.toList.drop 1)
  else some ([(⟨#[]⟩, [w])], 0)
def dashes : ByteArray := ⟨#[45, 45]⟩
/-- items; or the place of what is wrong -/
def aparse (S : List Spc) (at' : Nat) (ws : List ByteArray) : Except Nat (List Itm) :=
  match ws with
  | [] => .ok []
  | w :: rest => if w = dashes then .ok (rest.map (fun x => (⟨#[]⟩, [x])))
    else match aword S w rest with
      | none => .error at'
      | some x => match aparse S (at' + 1 + x.2) (rest.drop x.2) with
        | .error k => .error k
        | .ok l => .ok (x.1 ++ l)
termination_by ws.length
decreasing_by simp; omega

def avalues (l : List Itm) (n : ByteArray) : List ByteArray := l.flatMap (fun x => if x.1.toList == n.toList then x.2 else [])
def ahas (l : List Itm) (n : ByteArray) : Bool := !n.toList.isEmpty && l.any (fun x => x.1.toList == n.toList)
/-- where the first one that is so stands; -1 -/
def fidx {α : Type} (p : α → Bool) (l : List α) : Int := match l.findIdx? p with | some i => i | none => -1

theorem Vals.keeps {lo : Nat} {w w' : World} {m : List (Itm × Value)} {S : Nat → Prop} (h : Vals lo w m) (k : Keeps S w w') (hS : ∀ i, S i → ¬ Stays 9 lo w i) : Vals lo w' m :=
  fun y hy => ⟨RowAt.keeps (h y hy).1 k hS, (h y hy).2⟩
theorem Vals.below {lo : Nat} {w w' : World} {m : List (Itm × Value)} (h : Vals lo w m) (k : Below w.heap.size w w') : Vals lo w' m := fun y hy => ⟨RowAt.below (h y hy).1 k, (h y hy).2⟩
theorem ItmAt.below {lo : Nat} {w w' : World} {v : Value} {l : List Itm} (h : ItmAt lo w v l) (k : Below w.heap.size w w') : ItmAt lo w' v l := by
  obtain ⟨m, h0, h1, h2⟩ := h
  exact ⟨m, h0, h1.below k, h2.below k⟩

end Go.Proofs.YtnmlmbgaljnjeaaGreatDoor
