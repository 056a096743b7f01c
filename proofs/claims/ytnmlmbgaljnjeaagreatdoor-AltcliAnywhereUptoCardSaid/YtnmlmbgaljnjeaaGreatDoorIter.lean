/- A loop over an iterator that keeps its own place in a box (a captured variable that it writes between two rounds). Conditions: the loop's invariant bears a turn of that box. -/
import Derived.Test.YtnmlmbgaljnjeaaGreatDoorBase
import Derived.RangeFuncBox
import Derived.RangeFuncNested
import Derived.RangeFuncBound
import Derived.RangeFuncCalls
import Derived.RangeFuncLeaves
import Derived.Shelf.Abstract
import Derived.Shelf.RegionOpen
import Derived.OwnWalkIn
import Derived.TacticsInMore
import Derived.LoopNIn
import Derived.LoopIn
import Derived.Maps.AppendAt
set_option linter.unusedVariables false
set_option linter.unusedSimpArgs false
namespace Go.Proofs.YtnmlmbgaljnjeaaGreatDoor
open Go.RowKit Go.Lib

/-- J bears a turn of block X, new blocks, and draws -/
def BearsBox {β : Type} (X : Nat) (J : β → World → Prop) : Prop := ∀ s W W', J s W → W.grownBy W' (some X) → J s W'
/-- I bears a turn of block X, and of blocks from B on that are no cells -/
def BearsFrom {β : Type} (X B : Nat) (I : β → World → Prop) : Prop :=
  ∀ s W W' row, I s W → W.grownBy W' row → (∀ r, row = some r → r = X ∨ (B ≤ r ∧ ∃ o : Obj, W.heap[r]? = some o ∧ o.isCells = false)) → I s W'
/-- block X lies as it lay -/
def SameBox (X : Nat) (W W' : World) : Prop := W.heap.size ≤ W'.heap.size ∧ W'.heap[X]? = W.heap[X]?
/-- An iterator with a box X of its own hands out xs, one by one, or a beginning of it, where a round says no. -/
def SeqBox {α : Type} (F : Fence) (n : Nat) (P : Program) (g : Nat) (lb : Array Value) (encs : α → Array Value) (X : Nat) (xs : List α) (w : World) : Prop :=
  ∀ (l : Nat) (J Jx : List α → World → Prop) (W : World), w.heap[X]? = W.heap[X]? → BearsBox X J → BearsBox X Jx →
    (∀ pre x W1, J pre W1 → pre ++ [x] <+: xs → YieldAt F (n - 1) P l (encs x) W1 fun e W' =>
      (e = .returned (.bool true) ∧ J (pre ++ [x]) W' ∧ SameBox X W1 W') ∨ (e = .returned (.bool false) ∧ Jx (pre ++ [x]) W')) →
    J [] W →
    CallsIn F n P g (#[.func (.yield l) #[] #[]] ++ lb) W fun e W' => (∃ v, e = .returned v) ∧ (J xs W' ∨ ∃ pre, pre <+: xs ∧ Jx pre W')

/-- How a round may end: it goes on with I, or leaves by a jump with Ix. -/
def boxPost {α : Type} (B X : Nat) (I : List α → World → Prop) (Ix : Code → List α → World → Prop) (ys : List α) (W : World) : Exit → Act → World → Prop
  | .normal, _, W' => KeepsFrom B W W' ∧ SameBox X W W' ∧ I ys W'
  | .ret, _, W' => KeepsFrom B W W' ∧ Ix .ret ys W'
  | .exit id, _, W' => KeepsFrom B W W' ∧ Ix (.exit id) ys W'
  | .goto t, _, W' => KeepsFrom B W W' ∧ Ix (.goto t) ys W'
  | .panic _, _, _ => False
  | .outgrown, _, _ => False

theorem BearsFrom.put {β : Type} {X B : Nat} {I : β → World → Prop} (h : BearsFrom X B I) {s : β} {W : World} {l : Nat} {o : Obj} (o' : Obj) (hs : I s W) (hB : B ≤ l) (hl : W.heap[l]? = some o) (ho : o.isCells = false) : I s (W.putObj l o') :=
  h s W _ (some l) hs (grownBy_putObj' W l o') (fun r e => by cases e; exact .inr ⟨hB, o, hl, ho⟩)
theorem BearsFrom.new {β : Type} {X B : Nat} {I : β → World → Prop} (h : BearsFrom X B I) {s : β} {W : World} (o : Obj) (hs : I s W) : I s (W.alloc o) :=
  h s W _ none hs (World.grownBy_alloc W o none) (fun r e => by cases e)
theorem SameBox.put {X l : Nat} (W : World) (o : Obj) (h : X ≠ l) : SameBox X W (W.putObj l o) := ⟨by simp, World.putObj_heap_other h⟩
theorem SameBox.trans {X : Nat} {A B C : World} (h : SameBox X A B) (k : SameBox X B C) : SameBox X A C := ⟨Nat.le_trans h.1 k.1, k.2.trans h.2⟩
theorem SameBox.refl (X : Nat) (A : World) : SameBox X A A := ⟨Nat.le_refl _, rfl⟩

theorem stays {A B : World} {row : Option Nat} {k : Nat} {o : Obj} (hg : A.grownBy B row) (hk : A.heap[k]? = some o) (hne : some k ≠ row) : B.heap[k]? = some o :=
  (hg.block k (Array.getElem?_eq_some_iff.1 hk).1 hne).trans hk

/-- The loop, at such an iterator. -/
theorem rangeBox {F : Fence} {n : Nat} {P : Program} {α : Type} {g : Operand} {ps : Array Tmp} {assign body : Code} {Q : Exit → Act → World → Prop} {a : Act} {w : World}
    (hro : F.round = none) (h1 : 1 ≤ n) {gf : Nat} {lb : Array Value} (hg : a.eval g = .func (.func gf) #[] lb) (hFg : F.fn gf) (eg : ∀ args w, (callFunc gf args).run P w = .ok (.enter gf args) w)
    {encs : α → Array Value} {X : Nat} {xs : List α} (hX : X < w.heap.size) (hseq : SeqBox F (n - 1) P gf lb encs X xs w) (hps : ∀ x, (encs x).size = ps.size)
    (I : List α → World → Prop) (Ix : Code → List α → World → Prop) (hI : BearsFrom X w.heap.size I) (hIx : ∀ c, BearsFrom X w.heap.size (Ix c)) (h0 : I [] w) (a₁ : α → Act)
    (hassign : ∀ (l : Nat) (x : α) (W : World) (K : Act → World → Prop), K (a₁ x) W →
      assign.wpIn (F.inRound l) (n - 1 - 1) P (Exit.then K (fun _ _ _ => False)) { tmps := (ps.zip (encs x)).foldl (fun t (p, v) => t.setIfInBounds p v) a.tmps, defers := [] } W)
    (hbody : ∀ (l : Nat) (pre : List α) (x : α) (W : World), I pre W → pre ++ [x] <+: xs → body.wpIn (F.inRound l) (n - 1 - 1) P (boxPost w.heap.size X I Ix (pre ++ [x]) W) (a₁ x) W)
    (hdone : ∀ (D : Nat) (W : World), w.heap.size ≤ D → I xs W → W.heap[D]? = some (.deferred (some [])) → Q .normal { a with defers := { target := .collected D, args := #[] } :: a.defers } W)
    (hstop : ∀ (D : Nat) (c : Code) (pre : List α) (W : World), w.heap.size ≤ D → pre <+: xs → Ix c pre W → W.heap[D]? = some (.deferred (some [])) → c.wpIn F n P Q { a with defers := { target := .collected D, args := #[] } :: a.defers } W) :
    (Code.rangeFunc g ps assign body).wpIn F n P Q a w := by
  refine wpIn_rangeFunc ?_
  intro fn hfn
  rw [hro]
  have ⟨mk, hmk⟩ : ∃ mk : LoopState → Option Code → Obj, mk = fun st pe => .loop { state := st, pending := pe, fn, tmps := a.tmps, params := ps, assign, body, defers := w.heap.size } := ⟨_, rfl⟩
  have ⟨W0, hW0⟩ : ∃ W0, (w.alloc (.deferred (some []))).alloc (mk .ready none) = W0 := ⟨_, rfl⟩
  have hl0 : W0.heap[w.heap.size + 1]? = some (mk .ready none) := by
    rw [← hW0]; have := World.alloc_heap_new (w.alloc (.deferred (some []))) (mk .ready none); rwa [World.size_alloc] at this
  have hd0 : W0.heap[w.heap.size]? = some (.deferred (some [])) := by
    rw [← hW0]; exact (Below.heap_alloc _ _ _ (by simp)).trans (World.alloc_heap_new w _)
  have hI0 : I [] W0 := by rw [← hW0]; exact hI.new _ (hI.new _ h0)
  have hX0 : w.heap[X]? = W0.heap[X]? := by rw [← hW0]; exact ((Below.heap_alloc _ _ _ (by simp; omega)).trans (Below.heap_alloc _ _ _ hX)).symm
  have nc : ∀ st pe, (mk st pe).isCells = false := fun _ _ => by rw [hmk]; rfl
  refine ⟨w.heap.size + 1, [{ target := .collected w.heap.size, args := #[] }], W0, { target := .fn (.func gf) lb, args := #[.func (.yield (w.heap.size + 1)) #[] #[]] }, W0, gf,
    #[.func (.yield (w.heap.size + 1)) #[] #[]] ++ lb, W0, ?_, ?_, ?_, ?_, fun _ => h1, ?_⟩
  · rw [← hW0, hmk]; exact run_enterLoop_outer _ _ _ _ _
  · simp only [resolve, hg]
    simp [go_sem]
  · intro f' hf'; simp [Target.leads] at hf'; subst hf'; exact hFg
  · simp [invoke, go_sem, eg]
  refine (hseq (w.heap.size + 1)
    (fun pre W => I pre W ∧ W.heap[w.heap.size + 1]? = some (mk .ready none) ∧ W.heap[w.heap.size]? = some (.deferred (some [])))
    (fun pre W => ∃ c, Ix c pre W ∧ W.heap[w.heap.size + 1]? = some (mk .done (some c)) ∧ W.heap[w.heap.size]? = some (.deferred (some [])))
    W0 hX0
    (fun s A B hs hg' => ⟨hI s A B _ hs.1 hg' (fun r e => by cases e; exact .inl rfl), stays hg' hs.2.1 (fun e => by cases e; omega), stays hg' hs.2.2 (fun e => by cases e; omega)⟩)
    (fun s A B ⟨c, hs⟩ hg' => ⟨c, hIx c s A B _ hs.1 hg' (fun r e => by cases e; exact .inl rfl), stays hg' hs.2.1 (fun e => by cases e; omega), stays hg' hs.2.2 (fun e => by cases e; omega)⟩)
    ?_ ⟨hI0, hl0, hd0⟩).mono ?_
  · rintro pre x W ⟨hi, hl, hd⟩ hpre
    have hlt : w.heap.size + 1 < W.heap.size := (Array.getElem?_eq_some_iff.1 hl).1
    have hy := run_yield (P := P) (args := encs x) (by rw [hl, hmk]) (by simpa using hps x)
    refine ⟨fn, _, assign, body, hy, roundIn_of_wpIn hfn (hassign _ x W _ ⟨_, run_beginRound (by rw [hl, hmk]) rfl, ?_⟩)⟩
    have hl2 : (W.putObj (w.heap.size + 1) (mk .busy none)).heap[w.heap.size + 1]? = some (mk .busy none) := World.putObj_heap_same hlt
    have hd2 : (W.putObj (w.heap.size + 1) (mk .busy none)).heap[w.heap.size]? = some (.deferred (some [])) := (World.putObj_heap_other (by omega)).trans hd
    have hb := hbody (w.heap.size + 1) pre x (W.putObj (w.heap.size + 1) (mk .busy none)) (hI.put _ hi (by omega) hl (nc _ _)) hpre
    rw [hmk] at hb hl2 hd2
    refine wpIn_mono hb ?_
    have fin : ∀ (j : Option Code) (W3 : World), KeepsFrom w.heap.size (W.putObj (w.heap.size + 1) (mk .busy none)) W3 →
        (Instr.endRound (w.heap.size + 1) j).run P W3 = .ok (.bool j.isNone) (W3.putObj (w.heap.size + 1) (mk (if j.isNone then .ready else .done) j)) ∧
        W3.heap[w.heap.size + 1]? = some (mk .busy none) ∧
        (W3.putObj (w.heap.size + 1) (mk (if j.isNone then .ready else .done) j)).heap[w.heap.size + 1]? = some (mk (if j.isNone then .ready else .done) j) ∧
        (W3.putObj (w.heap.size + 1) (mk (if j.isNone then .ready else .done) j)).heap[w.heap.size]? = some (.deferred (some [])) := fun j W3 hk => by
      have hl3 := hk.same _ _ (by omega) (World.putObj_heap_same hlt) (nc _ _)
      have hd3 := hk.same _ _ (Nat.le_refl _) ((World.putObj_heap_other (by omega)).trans hd) rfl
      refine ⟨?_, hl3, World.putObj_heap_same (Array.getElem?_eq_some_iff.1 hl3).1, (World.putObj_heap_other (by omega)).trans hd3⟩
      have := run_endRound (P := P) j (by rw [hl3, hmk])
      rw [hmk]
      exact this
    rw [hmk] at fin
    rintro e a3 W3 hp
    cases e with
    | normal =>
      obtain ⟨hk3, hs3, hi3⟩ := hp
      obtain ⟨hr, hl3, hl4, hd4⟩ := fin none W3 hk3
      refine ⟨_, _, hr, .inl ⟨rfl, ⟨hI.put _ hi3 (by omega) hl3 rfl, by rw [hmk]; exact hl4, hd4⟩, ?_⟩⟩
      exact ((SameBox.put W _ (by omega)).trans hs3).trans (SameBox.put W3 _ (by omega))
    | ret => obtain ⟨hr, hl3, hl4, hd4⟩ := fin (some .ret) W3 hp.1; exact ⟨_, _, hr, .inr ⟨rfl, .ret, (hIx _).put _ hp.2 (by omega) hl3 rfl, by rw [hmk]; exact hl4, hd4⟩⟩
    | exit id => obtain ⟨hr, hl3, hl4, hd4⟩ := fin (some (.exit id)) W3 hp.1; exact ⟨_, _, hr, .inr ⟨rfl, (.exit id), (hIx _).put _ hp.2 (by omega) hl3 rfl, by rw [hmk]; exact hl4, hd4⟩⟩
    | goto t => obtain ⟨hr, hl3, hl4, hd4⟩ := fin (some (.goto t)) W3 hp.1; exact ⟨_, _, hr, .inr ⟨rfl, (.goto t), (hIx _).put _ hp.2 (by omega) hl3 rfl, by rw [hmk]; exact hl4, hd4⟩⟩
    | panic ch => exact hp.elim
    | outgrown => exact hp.elim
  · rintro e W2 ⟨⟨v, rfl⟩, (⟨hi, hl, hd⟩ | ⟨pre, hpre, c, hi, hl, hd⟩)⟩
    · refine ⟨none, _, run_endLoop (P := P) (by rw [hl, hmk]) (by simp), hdone _ _ (Nat.le_refl _) (hI.put _ hi (by omega) hl (nc _ _)) ((World.putObj_heap_other (by omega)).trans hd)⟩
    · refine ⟨some c, _, run_endLoop (P := P) (by rw [hl, hmk]) (by simp), hstop _ c pre _ (Nat.le_refl _) hpre ((hIx c).put _ hi (by omega) hl (nc _ _)) ((World.putObj_heap_other (by omega)).trans hd)⟩

end Go.Proofs.YtnmlmbgaljnjeaaGreatDoor
