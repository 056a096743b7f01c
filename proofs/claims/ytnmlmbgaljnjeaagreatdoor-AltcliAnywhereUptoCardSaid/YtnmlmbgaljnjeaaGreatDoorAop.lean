/- args: the reader's operand, and the values that stand in the word. Conditions: fewer than 2^32 items. -/
import Derived.Test.YtnmlmbgaljnjeaaGreatDoorArd
set_option linter.unusedVariables false
set_option linter.unusedSimpArgs false
namespace Go.Proofs.YtnmlmbgaljnjeaaGreatDoor
open Go.RowKit

/-- behind an append to the reader's row -/
theorem out_grown {base rb : Nat} {S : List Spc} {ws : List ByteArray} {at' : Nat} {w : World} {sv wv ov : Value} {m : List (Itm × Value)} (hb : base ≤ w.heap.size)
    (hrb : w.heap[rb]? = some (.cells #[sv, wv, .int .i64 (at' : Int), ov] 77 (0, 0))) (hS : SpcAt base w sv S) (hW : StrAt base w wv ws) (hbr : base ≤ rb)
    (hO : w.ownsRow base 62 2 ov m.length (m.flatMap encItm)) (hV : Vals base w m) {w1 : World} (hb1 : Below w.heap.size w w1) {n : ByteArray} {xv : Value} {vals : List ByteArray}
    (hx : StrAt base w1 xv vals) (htx : Tight xv) {g6 cap6 : Nat} {w6 : World} (hgrow6 : (w1.alloc (.cells #[.string n, xv] 62)).grownBy w6 ov.ownBlock)
    (hown6 : w6.ownsRow base 62 2 (.slice (some ⟨g6, 0, none⟩) (m.length + 1) cap6) (m.length + 1) (m.flatMap encItm ++ [.string n, xv])) :
    w6.cell? ⟨rb, 3, none⟩ = some ov ∧ w6.frozen? ⟨rb, 3, none⟩ = false ∧ Rd base rb S ws (w6.setCell ⟨rb, 3, none⟩ (.slice (some ⟨g6, 0, none⟩) (m.length + 1) cap6)) at' (m.map (·.1) ++ [(n, vals)]) ∧
      Mut base rb w (w6.setCell ⟨rb, 3, none⟩ (.slice (some ⟨g6, 0, none⟩) (m.length + 1) cap6)) := by
  have hrl : rb < w.heap.size := (Array.getElem?_eq_some_iff.1 hrb).1
  have hsz := hb1.size
  have hO1 := own_below hO hb1
  have hne1 : some rb ≠ ov.ownBlock := (own_ne hO hrb (by decide)).symm
  have e6r := hgrow6.block rb (by simp; omega) hne1
  have hz1 : w1.heap[rb]? = some (.cells #[sv, wv, .int .i64 (at' : Int), ov] 77 (0, 0)) := (hb1.block _ hrl).trans hrb
  have hz6 : w6.heap[rb]? = some (.cells #[sv, wv, .int .i64 (at' : Int), ov] 77 (0, 0)) := by rw [e6r, Below.heap_alloc _ _ _ (by omega)]; exact hz1
  have hz7 := set_blk (j := 3) (v := .slice (some ⟨g6, 0, none⟩) (m.length + 1) cap6) hz6
  simp only [List.setIfInBounds_toArray, List.set_cons_succ, List.set_cons_zero] at hz7
  have hM16 : Mut base rb w1 w6 := (mut_below (rb := rb) ((Below.refl _ w1).alloc (Nat.le_refl _) (.cells #[.string n, xv] 62)) (by omega)).trans (mut_grown (hO1.alloc _) hgrow6 (by simp; omega))
  have hM17 := hM16.trans (mut_set (j := 3) (v := .slice (some ⟨g6, 0, none⟩) (m.length + 1) cap6) hbr)
  have hM7 := (mut_below (rb := rb) hb1 hb).trans hM17
  have hne6 : (Value.slice (some ⟨g6, 0, none⟩) (m.length + 1) cap6).ownBlock ≠ some rb := own_ne hown6 hz6 (by decide)
  have hown7 := hown6.kept (grownBy_set w6 rb 3 (.slice (some ⟨g6, 0, none⟩) (m.length + 1) cap6)) (.inr hne6)
  refine ⟨by simp [World.cell?, hz6], by simp [World.frozen?, hz6], ⟨sv, wv, .slice (some ⟨g6, 0, none⟩) (m.length + 1) cap6, m ++ [((n, vals), xv)], hz7, hM7.row hrb (by decide) (by decide) hS, hM7.row hrb (by decide) (by decide) hW, hbr, ?_, ?_, ?_⟩, hM7⟩
  · rw [List.length_append, List.flatMap_append]; exact hown7
  · rw [List.map_append]; rfl
  · intro y hy
    rcases List.mem_append.1 hy with hy | hy
    · exact ⟨hM7.row hrb (by decide) (by decide) (hV y hy).1, (hV y hy).2⟩
    · rw [List.mem_singleton] at hy
      subst hy
      exact ⟨hM17.row hz1 (by decide) (by decide) hx, htx⟩

theorem heap_alloc_new' (w : World) (o : Obj) {k : Nat} (h : w.heap.size = k) : (w.alloc o).heap[k]? = some o := by subst h; exact heap_alloc_new w o

theorem one_str (lo : Nat) (w : World) (t : ByteArray) : StrAt lo (w.alloc (.cells #[.string t] 9)) (.slice (some ⟨w.heap.size, 0, none⟩) 1 1) [t] := by
  refine ⟨_, 1, rfl, Nat.le_refl _, fun _ => ⟨w.heap.size, 0, rfl, by simp, .inr ⟨_, _, heap_alloc_new w _⟩, fun i x hx j u hu => ?_⟩⟩
  have hi : i = 0 := by have := (List.getElem?_eq_some_iff.1 hx).1; simp at this; omega
  subst hi
  simp at hx; subst hx
  have hj : j = 0 := by have := (List.getElem?_eq_some_iff.1 hu).1; simp at this; omega
  subst hj
  simp at hu; subst hu
  exact (Boxed.new w 9 (.string t)).cell

set_option maxRecDepth 100000 in
set_option maxHeartbeats 4000000 in
theorem args_operand (base rb : Nat) (S : List Spc) (ws : List ByteArray) (at' : Nat) (out : List Itm) (t : ByteArray) (w : World) (hb : base ≤ w.heap.size)
    (hout : out.length ≤ 4294967296) (h : Rd base rb S ws w at' out) :
    Calls Tryz.prog 22 #[.pointer (some ⟨rb, 0, none⟩), .string t] w fun e w' =>
      e = .returned (.tuple #[]) ∧ Rd base rb S ws w' at' (out ++ [(⟨#[]⟩, [t])]) ∧ Mut base rb w w' := by
  obtain ⟨sv, wv, ov, m, hrb, hS, hW, hbr, hO, hm, hV⟩ := h
  obtain ⟨i0, hi, hz0, hz1, hz2⟩ := info_parts rdInfo
  have hrl : rb < w.heap.size := (Array.getElem?_eq_some_iff.1 hrb).1
  have r3 : w.cell? ⟨rb, 3, none⟩ = some ov := by simp [World.cell?, hrb]
  have hb1 := (Below.refl w.heap.size w).alloc (Nat.le_refl _) (.cells #[.string t] 9)
  have hml : m.length ≤ 4294967296 := by rw [← hm, List.length_map] at hout; exact hout
  have hG := fun g6 cap6 w6 h1 h2 => out_grown (g6 := g6) (cap6 := cap6) (w6 := w6) (n := ⟨#[]⟩) hb hrb hS hW hbr hO hV hb1 (one_str base w t) (tight_some _ _ _) h1 h2
  have hO2 := own_below hO hb1
  have HG := Lib.hid hG
  have HO := Lib.hid hO2
  have HM := Lib.hid hm
  clear hG hO2 hO hV hS hW hrb hb1
  go_enter Tryz.func22, Tryz.ntmps22
  go_wp2_with (at_builtin; refine wpList_append_lies _ rfl _ _ _ rfl base 62 i0 _ 2 40 Tryz.underlying55 hi hz0 hz1 hz2 rfl (by omega) ov m.length (m.flatMap encItm) rfl (HO.out.alloc _) ⟨w.heap.size + 1, 0, none⟩ 1 1 [.string ⟨#[]⟩, .slice (some ⟨w.heap.size, 0, none⟩) 1 1] rfl rfl (World.news_of_block (cs := #[.string ⟨#[]⟩, .slice (some ⟨w.heap.size, 0, none⟩) 1 1]) (t := 62) (fr := (0, 0)) (heap_alloc_new' _ _ (by simp))) (by simp [Value.oneCell']) (by omega) (by unfold maxLen; omega) (by omega) (by simp; omega) (w.heap.size + 2) (by simp) ?_; intro g6 cap6 w6 hown6 hgrow6 hat6 hlt6; obtain ⟨k3, f3, hR, hM⟩ := HG.out g6 cap6 w6 hgrow6 hown6)
  go_end0
  exact ⟨rfl, by rw [← HM.out]; exact hR, hM⟩

end Go.Proofs.YtnmlmbgaljnjeaaGreatDoor
