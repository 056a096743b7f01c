/- The law AltcliAnywhere: the short ways. Conditions: words and directory together below 2^20; strconv.ErrRange holds an error. -/
import Derived.Test.YtnmlmbgaljnjeaaGreatDoorLive
set_option linter.unusedVariables false
set_option linter.unusedSimpArgs false
namespace Go.Proofs.YtnmlmbgaljnjeaaGreatDoor
open Go.RowKit

theorem acli_err {ws : List ByteArray} {k : Nat × Int} (h : acli ws = .error k) : k.2 ≠ 0 := by
  unfold acli at h
  split at h
  · cases h; simp
  · split at h
    · split at h
      · cases h; simp
      · split at h
        · rename_i he; cases h; exact he
        · cases h
    · cases h; simp
theorem ltot_append (a b : List ByteArray) : ltot (a ++ b) = ltot a + ltot b := by simp [ltot]

set_option maxRecDepth 100000 in
set_option maxHeartbeats 4000000 in
theorem any_short (ws : List ByteArray) (dir : ByteArray) (wv : Value) (te : TypeId) (pe : Value) (w : World) (htot : ltot ws ≤ 1048576) (hwv : StrAt w.heap.size w wv ws)
    (hg : w.cell? ⟨2, 0, none⟩ = some (.iface te pe)) (hs : 100 < ws.length ∨ ∃ k, acli ws = .error k) :
    Calls Tryz.prog 4 #[wv, .string dir] w fun e w' => e = .returned (.bool true) ∧ Below w.heap.size w w' := by
  have hgl := World.block_lt_of_cell? w _ hg
  have hlen : ws.length ≤ 1048576 := Nat.le_trans (len_tot ws) htot
  have hsz : ∀ s ∈ ws, s.size ≤ 1048576 := fun s h => Nat.le_trans (size_tot h) htot
  have HL := Lib.hid (fun (W : World) (hW : Below w.heap.size w W) => law_lives te pe W (((bcell hW).1 _ 0 hgl).trans hg))
  obtain ⟨A, c0, rfl, hc0, _⟩ := id hwv
  cases hac : acli ws with
  | error k =>
    have HP := Lib.hid (cli_wrong ws k _ te pe w hac hlen hsz (by omega) hwv hg)
    have hk := acli_err hac
    obtain ⟨k1, k2⟩ := k
    dsimp only at HP hk
    have hne : (k2 != 0) = true := by rw [bne_iff_ne]; exact hk
    by_cases h100 : 100 < ws.length
    · have hgt : (ws.length : Int) > 100 := by omega
      clear hs hac hsz
      go_enter Tryz.func4, Tryz.ntmps4
      go_wp2_with (first | (go_at_call 8; refine HP.out.mono ?_; rintro e w1 ⟨rfl, hb1⟩) | (go_at_call 5; refine (HL.out _ (hb1.alloc hb1.size _)).mono ?_; rintro e w2 ⟨rfl, hb2⟩))
      go_ret
      exact ⟨rfl, (hb1.alloc hb1.size _).trans (hb2.mono (by have := hb1.size; simp; omega))⟩
    · have hgt : ¬ (ws.length : Int) > 100 := by omega
      clear hs hac hsz
      go_enter Tryz.func4, Tryz.ntmps4
      go_wp2_with (first | (go_at_call 8; refine HP.out.mono ?_; rintro e w1 ⟨rfl, hb1⟩) | (go_at_call 5; refine (HL.out _ (hb1.alloc hb1.size _)).mono ?_; rintro e w2 ⟨rfl, hb2⟩))
      go_ret
      exact ⟨rfl, (hb1.alloc hb1.size _).trans (hb2.mono (by have := hb1.size; simp; omega))⟩
  | ok c =>
    have h100 : 100 < ws.length := by
      rcases hs with h | ⟨k, h⟩
      · exact h
      · rw [hac] at h; cases h
    have hgt : (ws.length : Int) > 100 := by omega
    have HP := Lib.hid (cli_good ws c _ te pe w hac hlen hsz (by omega) hwv hg)
    clear hs hac hsz
    go_enter Tryz.func4, Tryz.ntmps4
    go_wp2_with (first | (go_at_call 8; refine HP.out.mono ?_; rintro e w1 ⟨sA, sn, sc, fA, fn, fc, rfl, _, _, hb1⟩) | (go_at_call 5; refine (HL.out _ (hb1.alloc hb1.size _)).mono ?_; rintro e w2 ⟨rfl, hb2⟩))
    go_ret
    exact ⟨rfl, (hb1.alloc hb1.size _).trans (hb2.mono (by have := hb1.size; simp; omega))⟩


end Go.Proofs.YtnmlmbgaljnjeaaGreatDoor
