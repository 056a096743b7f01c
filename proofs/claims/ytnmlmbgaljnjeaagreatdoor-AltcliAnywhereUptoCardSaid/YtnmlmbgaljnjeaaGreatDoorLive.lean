/- The law's lives. Conditions: strconv.ErrRange holds an error. -/
import Derived.Test.YtnmlmbgaljnjeaaGreatDoorCp
set_option linter.unusedVariables false
set_option linter.unusedSimpArgs false
namespace Go.Proofs.YtnmlmbgaljnjeaaGreatDoor
open Go.RowKit

theorem strAt_lit (lo : Nat) (w : World) (cs : List ByteArray) (hn : cs.length ≤ 1048576) :
    StrAt lo (w.alloc (.cells (cs.map Value.string).toArray 9)) (.slice (some ⟨w.heap.size, 0, none⟩) cs.length cs.length) cs := by
  have ho := World.ownsRow_lit (base := w.heap.size) (e := 9) (size := 1) w (cs.map Value.string).toArray cs.length (Nat.le_refl _) (by unfold maxLen; omega) (by simp)
  exact rowAt_own ho rfl (by simp [strs_flat]) (fun _ => rfl)

/-- what comes of Parse, when it is good -/
theorem cli_good (ws : List ByteArray) (c : Cm) (wv : Value) (te : TypeId) (pe : Value) (w : World) (hc : acli ws = .ok c) (hlen : ws.length ≤ 1048576) (hsz : ∀ s ∈ ws, s.size ≤ 1048576) (htot : ltot ws ≤ 1073741824) (hwv : StrAt w.heap.size w wv ws)
    (hg : w.cell? ⟨2, 0, none⟩ = some (.iface te pe)) :
    Calls Tryz.prog 8 #[wv] w fun e w' => ∃ sA sn sc fA fn fc, e = .returned (.tuple #[.agg #[.int .i64 c.kind, .string c.adm, .string c.alt, .int .i64 c.ck, .string c.ask.name, .string c.ask.link, .string c.ask.path, .int .i64 c.ask.prio, .slice sA sn sc, .slice fA fn fc, .string c.cn, .string c.cp, .string c.nm, .bool c.sim, .bool c.qui], .int .i64 (-1), .int .i64 0]) ∧
      SlvAt w'.heap.size w' (.slice sA sn sc) c.ask.slaves ∧ StrAt w'.heap.size w' (.slice fA fn fc) c.ask.files ∧ Below w.heap.size w w' := by
  refine (cli_Parse ws wv te pe w hlen hsz htot hwv hg).mono ?_
  rintro e w' ⟨h, hb⟩
  rw [hc] at h
  obtain ⟨v, rfl, sv, fv, rfl, hs, hf⟩ := h
  obtain ⟨sA, sc, rfl, _⟩ := id hs
  obtain ⟨fA, fc, rfl, _⟩ := id hf
  exact ⟨sA, _, sc, fA, _, fc, rfl, hs, hf, hb⟩
/-- .. and when it is not -/
theorem cli_wrong (ws : List ByteArray) (k : Nat × Int) (wv : Value) (te : TypeId) (pe : Value) (w : World) (hc : acli ws = .error k) (hlen : ws.length ≤ 1048576) (hsz : ∀ s ∈ ws, s.size ≤ 1048576) (htot : ltot ws ≤ 1073741824) (hwv : StrAt w.heap.size w wv ws)
    (hg : w.cell? ⟨2, 0, none⟩ = some (.iface te pe)) :
    Calls Tryz.prog 8 #[wv] w fun e w' => e = .returned (.tuple #[.agg #[.int .i64 0, .string ⟨#[]⟩, .string ⟨#[]⟩, .int .i64 0, .string ⟨#[]⟩, .string ⟨#[]⟩, .string ⟨#[]⟩, .int .i64 0, .slice none 0 0, .slice none 0 0, .string ⟨#[]⟩, .string ⟨#[]⟩, .string ⟨#[]⟩, .bool false, .bool false], .int .i64 (k.1 : Int), .int .i64 k.2]) ∧
      Below w.heap.size w w' := by
  refine (cli_Parse ws wv te pe w hlen hsz htot hwv hg).mono ?_
  rintro e w' ⟨h, hb⟩
  rw [hc] at h
  exact ⟨h, hb⟩

set_option maxRecDepth 100000 in
set_option maxHeartbeats 4000000 in
theorem law_lives (te : TypeId) (pe : Value) (w : World) (hg : w.cell? ⟨2, 0, none⟩ = some (.iface te pe)) :
    Calls Tryz.prog 5 #[] w fun e w' => e = .returned (.bool true) ∧ Below w.heap.size w w' := by
  have hgl := World.block_lt_of_cell? w _ hg
  have hb0 := (Below.refl w.heap.size w).alloc (Nat.le_refl _) (.cells #[.string ddAuto, .string editorB] 9)
  have hs := strAt_lit (w.alloc (.cells #[.string ddAuto, .string editorB] 9)).heap.size w [ddAuto, editorB] (by decide)
  have hP := cli_good [ddAuto, editorB] _ _ te pe _ acli_auto (by decide) (by decide) (by decide) hs (((bcell hb0).1 _ 0 hgl).trans hg)
  have HP := Lib.hid hP
  clear hP hs
  dsimp only [List.map_cons, List.map_nil, List.length_cons, List.length_nil, Nat.reduceAdd, ask0] at HP
  unfold ddAuto editorB at HP hb0
  unfold varlibB etcaltB at HP
  go_enter Tryz.func5, Tryz.ntmps5
  go_wp2_with (go_at_call 8; refine HP.out.mono ?_; rintro e w1 ⟨sA, sn, sc, fA, fn, fc, rfl, _, _, hb1⟩)
  go_ret
  exact ⟨rfl, (hb0.trans (hb1.mono (by simp))).alloc (by have := hb1.size; simp at this; omega) _⟩

end Go.Proofs.YtnmlmbgaljnjeaaGreatDoor
