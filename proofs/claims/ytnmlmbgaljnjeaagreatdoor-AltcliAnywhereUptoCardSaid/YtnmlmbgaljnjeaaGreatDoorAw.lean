/- args: the functions over items (Values, Operands, Has). Conditions: fewer than 2^40 items and values. -/
import Derived.Test.YtnmlmbgaljnjeaaGreatDoorAp
import Derived.Test.YtnmlmbgaljnjeaaGreatDoorAppend
set_option linter.unusedVariables false
set_option linter.unusedSimpArgs false
namespace Go.Proofs.YtnmlmbgaljnjeaaGreatDoor
open Go.RowKit

theorem fidx_at {α : Type} (p : α → Bool) {l : List α} {k : Nat} {y : α} (hy : l[k]? = some y) (hp : p y = true) (hn : ∀ (t : Nat) (x : α), t < k → l[t]? = some x → p x = false) : fidx p l = k := by
  unfold fidx
  have : l.findIdx? p = some k := by
    rw [List.findIdx?_eq_some_iff_getElem]
    obtain ⟨hk, rfl⟩ := List.getElem?_eq_some_iff.1 hy
    refine ⟨hk, hp, fun j hj => ?_⟩
    have := hn j l[j] hj (List.getElem?_eq_getElem (by omega))
    simp [this]
  rw [this]
theorem fidx_none {α : Type} (p : α → Bool) {l : List α} (hn : ∀ (t : Nat) (x : α), l[t]? = some x → p x = false) : fidx p l = -1 := by
  unfold fidx
  have : l.findIdx? p = none := by
    rw [List.findIdx?_eq_none_iff]
    intro x hx
    obtain ⟨t, ht⟩ := List.mem_iff_getElem?.1 hx
    exact hn t x ht
  rw [this]

theorem fidx_any {α : Type} (p : α → Bool) (l : List α) : decide (0 ≤ fidx p l) = l.any p := by
  unfold fidx
  cases h : l.findIdx? p with
  | none =>
    rw [List.findIdx?_eq_none_iff] at h
    have : l.any p = false := by rw [List.any_eq_false]; intro x hx; simp [h x hx]
    rw [this]; rfl
  | some i =>
    rw [List.findIdx?_eq_some_iff_getElem] at h
    obtain ⟨hi, hp, _⟩ := h
    have : l.any p = true := List.any_eq_true.2 ⟨_, List.getElem_mem hi, hp⟩
    rw [this]
    exact decide_eq_true (Int.natCast_nonneg _)

set_option maxHeartbeats 2000000 in
theorem args_Has1 (n : ByteArray) (v : Value) (B : Nat) (long : ByteArray) (w : World) (hB : w.cell? ⟨B, 0, none⟩ = some (.string long)) :
    Calls Tryz.prog 26 #[.agg #[.string n, v], .pointer (some ⟨B, 0, none⟩)] w fun e w' => e = .returned (.bool (n.toList == long.toList)) ∧ Below w.heap.size w w' := by
  have hBl := World.block_lt_of_cell? w _ hB
  go_enter Tryz.func26, Tryz.ntmps26
  go_wp2
  go_ret
  exact ⟨rfl, (Below.refl _ _).alloc (Nat.le_refl _) _⟩

set_option maxHeartbeats 4000000 in
theorem idx_Item (lo : Nat) (v : Value) (m : List (Itm × Value)) (B : Nat) (long : ByteArray) (w : World) (hl : m.length ≤ 140737488355328) (hv : RowAt encItm 2 62 lo w v m) (hB : w.cell? ⟨B, 0, none⟩ = some (.string long)) :
    Calls Tryz.prog 36 #[v, .func (.func 26) #[] #[.pointer (some ⟨B, 0, none⟩)]] w fun e w' =>
      e = .returned (.int .i64 (fidx (fun y : Itm × Value => y.1.1.toList == long.toList) m)) ∧ Below w.heap.size w w' := by
  obtain ⟨A, c, rfl, hc, hA⟩ := hv
  have HA := Lib.hid hA
  clear hA
  have hBl := World.block_lt_of_cell? w _ hB
  go_enter Tryz.func36, Tryz.ntmps36
  go_wp2
  go_loopw [8] (fun i wr => ∃ k : Nat, k ≤ m.length ∧ i = .int .i64 k ∧ Aside (Below w.heap.size w wr) ∧ Aside (∀ t x, t < k → m[t]? = some x → (x.1.1.toList == long.toList) = false)) (fun i _ => m.length - (intOf i).toNat)
  case atStart => exact ⟨0, Nat.zero_le _, rfl, Below.refl _ _, fun t x ht => absurd ht (Nat.not_lt_zero _)⟩
  case round =>
    obtain ⟨k, hk, rfl, HB, HN⟩ := hrel
    by_cases hlt : k < m.length
    · obtain ⟨y, hy⟩ : ∃ y, m[k]? = some y := ⟨m[k], List.getElem?_eq_getElem hlt⟩
      obtain ⟨b, o, rfl, hb, hst, hcells⟩ := HA.out (by intro h; rw [h] at hy; simp at hy)
      have hb' := bcell HB
      have c0 : wr.cell? ⟨b, o + k * 2, none⟩ = some (.string y.1.1) := (hb'.1 b _ hb).trans (hcells _ y hy 0 _ rfl)
      have c1 : wr.cell? ⟨b, o + k * 2 + 1, none⟩ = some y.2 := (hb'.1 b _ hb).trans (hcells _ y hy 1 _ rfl)
      have hBr : wr.cell? ⟨B, 0, none⟩ = some (.string long) := (hb'.1 B 0 hBl).trans hB
      have HC := Lib.hid (args_Has1 y.1.1 y.2 B long wr hBr)
      have HY := Lib.hid hy
      clear hcells hb' hy
      cases hp : (y.1.1.toList == long.toList)
      · rw [hp] at HC
        have HP := Lib.hid hp
        clear hp
        go_wp2_with (go_at_call 26; refine HC.out.mono ?_; rintro e w' ⟨rfl, hb1⟩)
        go_roundw
        case rel =>
          refine ⟨k + 1, by omega, by go_num, HB.out.trans (hb1.mono HB.out.size), fun t x ht hx => ?_⟩
          rcases Nat.lt_or_ge t k with h1 | h1
          · exact HN.out t x h1 hx
          · obtain rfl : t = k := by omega
            rw [HY.out] at hx; cases hx; exact HP.out
        case measure => simp [RowKit.intOf]; omega
      · rw [hp] at HC
        have hf : fidx (fun y : Itm × Value => y.1.1.toList == long.toList) m = k := fidx_at _ HY.out hp HN.out
        have HF := Lib.hid hf
        clear hp hf
        go_wp2_with (go_at_call 26; refine HC.out.mono ?_; rintro e w' ⟨rfl, hb1⟩)
        go_ret
        exact ⟨by rw [HF.out]; rfl, HB.out.trans (hb1.mono HB.out.size)⟩
    · have hf : fidx (fun y : Itm × Value => y.1.1.toList == long.toList) m = -1 := fidx_none _ (fun t x hx => HN.out t x (by have := (List.getElem?_eq_some_iff.1 hx).1; omega) hx)
      have HF := Lib.hid hf
      clear hf
      go_wp2
      go_ret
      exact ⟨by rw [HF.out]; rfl, HB.out⟩

set_option maxHeartbeats 2000000 in
theorem cfn_Item (lo : Nat) (v : Value) (m : List (Itm × Value)) (B : Nat) (long : ByteArray) (w : World) (hl : m.length ≤ 140737488355328) (hv : RowAt encItm 2 62 lo w v m) (hB : w.cell? ⟨B, 0, none⟩ = some (.string long)) :
    Calls Tryz.prog 25 #[v, .func (.func 26) #[] #[.pointer (some ⟨B, 0, none⟩)]] w fun e w' =>
      e = .returned (.bool (m.any (fun y : Itm × Value => y.1.1.toList == long.toList))) ∧ Below w.heap.size w w' := by
  have HC := Lib.hid (idx_Item lo v m B long w hl hv hB)
  have hf := fidx_any (fun y : Itm × Value => y.1.1.toList == long.toList) m
  have HF := Lib.hid hf
  clear hv hf
  generalize fidx (fun y : Itm × Value => y.1.1.toList == long.toList) m = q at *
  go_enter Tryz.func25, Tryz.ntmps25
  go_wp2_with (go_at_call 36; refine HC.out.mono ?_; rintro e w' ⟨rfl, hb1⟩)
  go_ret
  exact ⟨by rw [HF.out]; rfl, hb1⟩

set_option maxHeartbeats 2000000 in
theorem args_Has (lo : Nat) (v : Value) (l : List Itm) (long : ByteArray) (w : World) (hl : l.length ≤ 140737488355328) (hv : ItmAt lo w v l) :
    Calls Tryz.prog 15 #[v, .string long] w fun e w' => e = .returned (.bool (ahas l long)) ∧ Below w.heap.size w w' := by
  obtain ⟨m, rfl, hm, _⟩ := hv
  unfold ahas
  have hany : (m.map (·.1)).any (fun x => x.1.toList == long.toList) = m.any (fun y : Itm × Value => y.1.1.toList == long.toList) := by rw [List.any_map]; rfl
  rw [hany]
  rw [List.length_map] at hl
  have hb0 := (Below.refl w.heap.size w).alloc (Nat.le_refl _) (.cells #[.string long] 9)
  have HC := Lib.hid (cfn_Item lo v m w.heap.size long _ hl (hm.below hb0) (Boxed.new w 9 (.string long)).cell)
  clear hm hany
  obtain ⟨b, hb⟩ : ∃ b, m.any (fun y : Itm × Value => y.1.1.toList == long.toList) = b := ⟨_, rfl⟩
  simp only [hb] at HC ⊢
  clear hb
  cases hlong : long.toList.isEmpty
  · go_enter Tryz.func15, Tryz.ntmps15
    go_wp2_with (go_at_call 25; refine HC.out.mono ?_; rintro e w' ⟨rfl, hb1⟩)
    go_ret
    exact ⟨by simp, hb0.trans (hb1.mono (by simp))⟩
  · go_enter Tryz.func15, Tryz.ntmps15
    go_wp2
    go_ret
    exact ⟨by simp, (Below.refl _ _).alloc (Nat.le_refl _) _⟩

/-- what Values has gathered -/
theorem avalues_snoc (l : List Itm) (x : Itm) (n : ByteArray) : avalues (l ++ [x]) n = avalues l n ++ (if x.1.toList == n.toList then x.2 else []) := by
  unfold avalues; rw [List.flatMap_append]; simp

theorem avalues_no (l : List Itm) (x : Itm) (n : ByteArray) (h : (x.1.toList == n.toList) = false) : avalues (l ++ [x]) n = avalues l n := by rw [avalues_snoc, h]; simp
theorem avalues_yes (l : List Itm) (x : Itm) (n : ByteArray) (h : (x.1.toList == n.toList) = true) : avalues (l ++ [x]) n = avalues l n ++ x.2 := by rw [avalues_snoc, h]; simp

theorem strs_flat (l : List ByteArray) : l.flatMap (fun s => [Value.string s]) = l.map Value.string := by
  induction l with
  | nil => rfl
  | cons a l ih => rw [List.flatMap_cons, ih]; rfl

theorem tot_le (l : List Itm) (n : ByteArray) : (avalues l n).length ≤ (l.flatMap (·.2)).length := by
  unfold avalues
  induction l with
  | nil => simp
  | cons a l ih =>
    rw [List.flatMap_cons, List.flatMap_cons, List.length_append, List.length_append]
    have : (if a.1.toList == n.toList then a.2 else []).length ≤ a.2.length := by split <;> simp
    omega

set_option maxHeartbeats 4000000 in
theorem args_Values (lo : Nat) (v : Value) (l : List Itm) (long : ByteArray) (w : World) (hl : l.length ≤ 140737488355328) (hl2 : (l.flatMap (·.2)).length ≤ 4294967296) (hv : ItmAt lo w v l) :
    Calls Tryz.prog 24 #[v, .string long] w fun e w' => ∃ v', e = .returned v' ∧ w'.ownsRow w.heap.size 9 1 v' (avalues l long).length ((avalues l long).map Value.string) ∧ Below w.heap.size w w' := by
  obtain ⟨m, rfl, hm, hvals⟩ := hv
  obtain ⟨A, c, rfl, hc, hA⟩ := hm
  rw [List.length_map] at hl
  obtain ⟨i0, hi, hz0, hz1, hz2⟩ := info_parts infoStr
  have HA := Lib.hid hA
  have HV := Lib.hid hvals
  clear hA hvals
  go_enter Tryz.func24, Tryz.ntmps24
  go_wp2
  go_loopw [5, 10] (fun o i wr => ∃ (k : Nat), k ≤ m.length ∧ i = .int .i64 k ∧ Aside (wr.ownsRow w.heap.size 9 1 o (avalues ((m.take k).map (·.1)) long).length ((avalues ((m.take k).map (·.1)) long).map Value.string)) ∧ Aside (Below w.heap.size w wr)) (fun _ i _ => m.length - (intOf i).toNat)
  case atStart => exact ⟨0, Nat.zero_le _, rfl, ⟨by simp [avalues], .inl ⟨rfl, by simp [avalues]⟩⟩, Below.refl _ _⟩
  case round =>
    obtain ⟨k, hk, rfl, HR, HB⟩ := hrel
    by_cases hlt : k < m.length
    · obtain ⟨y, hy⟩ : ∃ y, m[k]? = some y := ⟨m[k], List.getElem?_eq_getElem hlt⟩
      obtain ⟨b, o, rfl, hb, hst, hcells⟩ := HA.out (by intro h; rw [h] at hy; simp at hy)
      have hb' := bcell HB
      have c0 : wr.cell? ⟨b, o + k * 2, none⟩ = some (.string y.1.1) := (hb'.1 b _ hb).trans (hcells _ y hy 0 _ rfl)
      have c1 : wr.cell? ⟨b, o + k * 2 + 1, none⟩ = some y.2 := (hb'.1 b _ hb).trans (hcells _ y hy 1 _ rfl)
      have htk : (m.take (k + 1)).map (·.1) = (m.take k).map (·.1) ++ [y.1] := by
        rw [List.take_add_one, hy]; simp
      have hsn0 := avalues_no ((m.take k).map (·.1)) y.1 long
      have hsn1 := avalues_yes ((m.take k).map (·.1)) y.1 long
      rw [← htk] at hsn0 hsn1
      have hle : (avalues ((m.take (k + 1)).map (·.1)) long).length ≤ 4294967296 := by
        refine Nat.le_trans (tot_le _ _) (Nat.le_trans ?_ hl2)
        conv => rhs; rw [← List.take_append_drop (k + 1) m, List.map_append, List.flatMap_append, List.length_append]
        omega
      obtain ⟨hval, htight⟩ := HV.out y (List.mem_iff_getElem?.2 ⟨k, hy⟩)
      obtain ⟨⟨yn, yl⟩, yv⟩ := y
      have hval' : StrAt lo wr yv yl := hval.below' HB.out
      have hvv := hval'
      obtain ⟨yA, yc, rfl, _, _⟩ := hvv
      dsimp only at c0 c1 hsn0 hsn1
      have HV1 := Lib.hid hval'
      have HT1 := Lib.hid htight
      clear hcells hb' hy htk hval hval' htight
      cases hp : (yn.toList == long.toList)
      · have hsn := hsn0 hp
        clear hsn0 hsn1
        have HS := Lib.hid hsn
        clear hsn
        go_wp2
        go_roundw
        case rel => exact ⟨k + 1, by omega, by go_num, by rw [HS.out]; exact HR.out.alloc _, (HB.out.alloc HB.out.size _)⟩
        case measure => simp [RowKit.intOf]; omega
      · have hsn := hsn1 hp
        clear hsn0 hsn1
        have hle2 : (avalues ((m.take k).map (·.1)) long).length + yl.length ≤ 4294967296 := by
          have := congrArg List.length hsn
          rw [List.length_append] at this
          omega
        clear hle
        have HS := Lib.hid hsn
        have hsz := HB.out.size
        clear hsn
        go_wp2_with (at_builtin; refine wpList_append_row (enc := fun s : ByteArray => [Value.string s]) (T := 9) (lo := lo) (l := yl) rfl _ _ 22 rfl w.heap.size 9 i0 (.string ⟨#[]⟩) 1 16 Tryz.underlying22 hi hz0 hz1 hz2 rfl (by decide) _ _ _ rfl (HR.out.alloc _) rfl (HV1.out.alloc' _) HT1.out (fun _ => rfl) (by simp [Value.oneCell']) (by unfold maxLen; omega) (by omega) (by simp; omega) ?_; intro v' w1 hown' hgrow)
        go_roundw
        case rel =>
          refine ⟨k + 1, by omega, by go_num, by rw [HS.out, List.length_append, List.map_append, ← strs_flat yl]; exact hown', (HB.out.alloc HB.out.size _).grown hgrow (by simp; omega) (fun j e => (HR.out.lt j e).1)⟩
        case measure => simp [RowKit.intOf]; omega
    · have hkm : m.take k = m := List.take_of_length_le (by omega)
      rw [hkm] at HR
      clear hkm
      go_wp2
      go_ret
      exact ⟨_, rfl, HR.out, HB.out⟩

end Go.Proofs.YtnmlmbgaljnjeaaGreatDoor
