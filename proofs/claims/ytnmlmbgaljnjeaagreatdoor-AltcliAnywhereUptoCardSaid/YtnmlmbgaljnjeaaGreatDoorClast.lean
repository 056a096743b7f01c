/- args.Operands, altcli.last. Conditions: fewer than 2^32 values, each shorter than 2^32. -/
import Derived.Test.YtnmlmbgaljnjeaaGreatDoorCcmd
import Derived.Test.YtnmlmbgaljnjeaaGreatDoorClean
set_option linter.unusedVariables false
set_option linter.unusedSimpArgs false
namespace Go.Proofs.YtnmlmbgaljnjeaaGreatDoor
open Go.RowKit

set_option maxHeartbeats 4000000 in
theorem args_Operands (lo : Nat) (v : Value) (l : List Itm) (w : World) (hl : l.length ≤ 140737488355328) (hl2 : (l.flatMap (·.2)).length ≤ 4294967296) (hv : ItmAt lo w v l) :
    Calls Tryz.prog 14 #[v] w fun e w' => ∃ A c, e = .returned (.slice A (avalues l ⟨#[]⟩).length c) ∧ Below w.heap.size w w' := by
  have HV := Lib.hid (args_Values lo v l ⟨#[]⟩ w hl hl2 hv)
  go_enter Tryz.func14, Tryz.ntmps14
  go_wp2_with (go_at_call 24; refine HV.out.mono ?_; rintro e w1 ⟨v1, rfl, hown, hb⟩; obtain ⟨A1, c1, rfl⟩ := own_slice hown)
  go_ret
  exact ⟨_, _, rfl, hb⟩

theorem own_last {w : World} {base T : Nat} {v : Value} {ini : List ByteArray} {z : ByteArray} (h : w.ownsRow base T 1 v (ini.length + 1) ((ini ++ [z]).map Value.string)) :
    ∃ b c, v = .slice (some ⟨b, 0, none⟩) (ini.length + 1) c ∧ w.cell? ⟨b, ini.length, none⟩ = some (.string z) := by
  obtain ⟨A, c, rfl⟩ := own_slice h
  rcases h.2 with ⟨h1, h2⟩ | ⟨g, cap, cur, h1, _⟩
  · omega
  · cases h1
    refine ⟨g, c, rfl, ?_⟩
    rw [World.ownsRow.cellAt h _ (by omega)]
    simp

def alast (l : List Itm) (long other : ByteArray) : ByteArray := match (avalues l long).getLast? with | none => other | some s => clean s

set_option maxHeartbeats 4000000 in
theorem cli_last (lo : Nat) (v : Value) (l : List Itm) (long other : ByteArray) (w : World) (hl : l.length ≤ 140737488355328) (hl2 : (l.flatMap (·.2)).length ≤ 4294967296) (hsz : ∀ s ∈ l.flatMap (·.2), s.size < 4294967296) (hv : ItmAt lo w v l) :
    Calls Tryz.prog 16 #[v, .string long, .string other] w fun e w' => e = .returned (.string (alast l long other)) ∧ Below w.heap.size w w' := by
  have HV := Lib.hid (args_Values lo v l long w hl hl2 hv)
  have hmem : ∀ s ∈ avalues l long, s.size < 4294967296 := by
    intro s hs
    obtain ⟨x, hx, hs⟩ := List.mem_flatMap.1 hs
    split at hs
    · exact hsz s (List.mem_flatMap.2 ⟨x, hx, hs⟩)
    · cases hs
  unfold alast
  obtain ⟨vs, hvs⟩ : ∃ vs, avalues l long = vs := ⟨_, rfl⟩
  have hvl : vs.length ≤ 4294967296 := by rw [← hvs]; exact Nat.le_trans (tot_le _ _) hl2
  rw [hvs] at HV hmem ⊢
  clear hvs hv hl2 hsz
  rcases List.eq_nil_or_concat vs with rfl | ⟨ini, z, hvz⟩
  · go_enter Tryz.func16, Tryz.ntmps16
    go_wp2_with (go_at_call 24; refine HV.out.mono ?_; rintro e w1 ⟨v1, rfl, hown, hb⟩; obtain ⟨A1, c1, rfl⟩ := own_slice hown)
    go_ret
    exact ⟨rfl, hb⟩
  · rw [List.concat_eq_append] at hvz
    subst hvz
    have hz : z.size < 4294967296 := hmem z (by simp)
    have hlen : (ini ++ [z]).length = ini.length + 1 := by simp
    have hlen2 : ini.length + 1 ≤ 4294967296 := by rw [← hlen]; exact hvl
    have hgl : (ini ++ [z]).getLast? = some z := by simp
    rw [hgl]
    clear hgl
    rw [hlen] at HV
    clear hlen hmem
    have r0 : IntKind.i64.wrap (((ini.length + 1 : Nat) : Int) - 1) = (ini.length : Int) := by rw [IntWalk.i64_in _ (by omega)]; omega
    have r1 : (((ini.length + 1 : Nat) : Int) == 0) = false := by rw [beq_eq_false_iff_ne]; omega
    have r2 : (0 : Int) ≤ (ini.length : Int) := by omega
    have r3 : (ini.length : Int) < ((ini.length + 1 : Nat) : Int) := by omega
    have r4 : ((ini.length : Int)).toNat = ini.length := by omega
    go_enter Tryz.func16, Tryz.ntmps16
    go_wp2_with (first | (go_at_call 24; refine HV.out.mono ?_; rintro e w1 ⟨v1, rfl, hown, hb⟩; obtain ⟨b1, c1, rfl, hc1⟩ := own_last hown) | (go_at_call 27; refine (path_Clean z _ hz).mono ?_; rintro e w2 ⟨rfl, hb2⟩))
    go_ret
    exact ⟨rfl, hb.trans (hb2.mono hb.size)⟩

end Go.Proofs.YtnmlmbgaljnjeaaGreatDoor
