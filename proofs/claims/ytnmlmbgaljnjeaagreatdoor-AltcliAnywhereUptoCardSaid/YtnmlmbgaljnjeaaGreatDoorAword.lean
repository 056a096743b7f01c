/- args: the reader's word. Conditions: lengths below 2^20. -/
import Derived.Test.YtnmlmbgaljnjeaaGreatDoorAshort
set_option linter.unusedVariables false
set_option linter.unusedSimpArgs false
namespace Go.Proofs.YtnmlmbgaljnjeaaGreatDoor
open Go.RowKit

set_option maxRecDepth 100000 in
set_option maxHeartbeats 4000000 in
theorem args_word (base rb : Nat) (S : List Spc) (ws : List ByteArray) (at' : Nat) (out : List Itm) (t : ByteArray) (w : World) (hb : base ≤ w.heap.size) (hat : at' < ws.length) (hlen : ws.length ≤ 1048576) (hS : Meek S)
    (hout : out.length ≤ 2147483648) (ht : t.size ≤ 1048576) (h : Rd base rb S ws w at' out) :
    Calls Tryz.prog 23 #[.pointer (some ⟨rb, 0, none⟩), .string t] w fun e w' =>
      (match aword S t (ws.drop (at' + 1)) with
       | none => e = .returned (.bool false)
       | some x => e = .returned (.bool true) ∧ Rd base rb S ws w' (at' + x.2) (out ++ x.1)) ∧ Mut base rb w w' := by
  have HR := Lib.hid h
  have HS := Lib.hid hS
  clear h hS
  unfold aword
  by_cases hp : [45, 45] <+: t.data.toList
  · rw [if_pos hp]
    have hpre : Lib.hasPrefix t.data.toList [45, 45] = true := by unfold Lib.hasPrefix; rw [List.isPrefixOf_iff_prefix]; exact hp
    have hsz : (2 : Int) ≤ (t.size : Int) := by
      have := hp.length_le
      rw [← Lib.size_eq] at this
      simp at this; omega
    obtain ⟨u, hu⟩ : ∃ u, t.extract 2 t.size = u := ⟨_, rfl⟩
    have hus : u.size ≤ 1048576 := by rw [← hu, ByteArray.size_extract]; omega
    have HL := Lib.hid (args_long base rb S ws at' out u w hb hat hlen HS.out (by omega) (by omega) HR.out)
    rw [hu]
    clear hp hus
    cases hal : along S u (ws.drop (at' + 1)) with
    | none =>
      simp only [hal] at HL
      clear hal
      go_enter Tryz.func23, Tryz.ntmps23
      go_wp2_with (first | (go_at_call 33; refine (Tryz.strings_HasPrefix _ _ _).mono ?_; rintro e w' ⟨rfl, rfl⟩) | (go_at_call 34; refine HL.out.mono ?_; rintro e w' ⟨rfl, hM⟩))
      go_ret
      exact ⟨rfl, hM⟩
    | some x =>
      simp only [hal] at HL
      clear hal
      go_enter Tryz.func23, Tryz.ntmps23
      go_wp2_with (first | (go_at_call 33; refine (Tryz.strings_HasPrefix _ _ _).mono ?_; rintro e w' ⟨rfl, rfl⟩) | (go_at_call 34; refine HL.out.mono ?_; rintro e w' ⟨⟨rfl, hR2⟩, hM⟩))
      go_ret
      exact ⟨⟨rfl, hR2⟩, hM⟩
  · rw [if_neg hp]
    have hpre : Lib.hasPrefix t.data.toList [45, 45] = false := by
      rw [Bool.eq_false_iff]; intro e; unfold Lib.hasPrefix at e; rw [List.isPrefixOf_iff_prefix] at e; exact hp e
    clear hp
    have HO := Lib.hid (args_operand base rb S ws at' out t w hb (by omega) HR.out)
    by_cases h1 : 1 < t.size
    · have h1' : (1 : Int) < (t.size : Int) := by omega
      have h0' : 0 < t.size := by omega
      have hhd : t.data.toList.head? = some t[0] := by
        rw [List.head?_eq_getElem?, List.getElem?_eq_getElem (by rw [← Lib.size_eq]; exact h0')]
        rfl
      by_cases h2 : t[0] = 45
      · rw [if_pos ⟨h1, by rw [hhd, h2]⟩]
        have h3 : (((t[0].toNat : Nat) : Int) == 45) = true := by rw [h2]; rfl
        obtain ⟨u, hu⟩ : ∃ u, t.extract 1 t.size = u := ⟨_, rfl⟩
        have hus : u.size ≤ 1048576 := by rw [← hu, ByteArray.size_extract]; omega
        have hud : t.data.toList.drop 1 = u.data.toList := by rw [← hu, Lib.extract_to_end]
        have HL := Lib.hid (args_short base rb S ws at' out u w hb hat hlen HS.out (by omega) (by omega) HR.out)
        rw [hud]
        clear h1 hhd h2 hus hud
        cases hal : ashort S (ws.drop (at' + 1)) u.data.toList with
        | none =>
          simp only [hal] at HL
          clear hal
          go_enter Tryz.func23, Tryz.ntmps23
          go_wp2_with (first | (go_at_call 33; refine (Tryz.strings_HasPrefix _ _ _).mono ?_; rintro e w' ⟨rfl, rfl⟩) | (go_at_call 35; refine HL.out.mono ?_; rintro e w' ⟨rfl, hM⟩))
          go_ret
          exact ⟨rfl, hM⟩
        | some x =>
          simp only [hal] at HL
          clear hal
          go_enter Tryz.func23, Tryz.ntmps23
          go_wp2_with (first | (go_at_call 33; refine (Tryz.strings_HasPrefix _ _ _).mono ?_; rintro e w' ⟨rfl, rfl⟩) | (go_at_call 35; refine HL.out.mono ?_; rintro e w' ⟨⟨rfl, hR2⟩, hM⟩))
          go_ret
          exact ⟨⟨rfl, hR2⟩, hM⟩
      · rw [if_neg (by rintro ⟨_, h⟩; rw [hhd] at h; exact h2 (by simpa using h))]
        have h3 : (((t[0].toNat : Nat) : Int) == 45) = false := by
          rw [beq_eq_false_iff_ne]; intro e; exact h2 (UInt8.toNat_inj.1 (show t[0].toNat = (45 : UInt8).toNat by have : (45 : UInt8).toNat = 45 := rfl; omega))
        clear h1 hhd h2
        go_enter Tryz.func23, Tryz.ntmps23
        go_wp2_with (first | (go_at_call 33; refine (Tryz.strings_HasPrefix _ _ _).mono ?_; rintro e w' ⟨rfl, rfl⟩) | (go_at_call 22; refine HO.out.mono ?_; rintro e w' ⟨rfl, hR2, hM⟩))
        go_ret
        exact ⟨⟨rfl, hR2⟩, hM⟩
    · rw [if_neg (by rintro ⟨h, _⟩; exact h1 h)]
      have h1' : ¬ (1 : Int) < (t.size : Int) := by omega
      clear h1
      go_enter Tryz.func23, Tryz.ntmps23
      go_wp2_with (first | (go_at_call 33; refine (Tryz.strings_HasPrefix _ _ _).mono ?_; rintro e w' ⟨rfl, rfl⟩) | (go_at_call 22; refine HO.out.mono ?_; rintro e w' ⟨rfl, hR2, hM⟩))
      go_ret
      exact ⟨⟨rfl, hR2⟩, hM⟩

end Go.Proofs.YtnmlmbgaljnjeaaGreatDoor
