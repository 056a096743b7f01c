/- args: the search among the options that may be. Conditions: fewer than 2^47 of them. -/
import Derived.Test.YtnmlmbgaljnjeaaGreatDoorAw
import Derived.Laws.CopyOwn
set_option linter.unusedVariables false
set_option linter.unusedSimpArgs false
namespace Go.Proofs.YtnmlmbgaljnjeaaGreatDoor
open Go.RowKit

theorem get_eq' (s : ByteArray) (i : Nat) (h : i < s.size) : s.get! i = s[i] := by
  have := getElem!_pos s.data i h
  rw [ByteArray.get!.eq_1, this]
  rfl

/-- a spec's value -/
def spcV (s : Spc) : Value := .agg #[.string s.long, .int .u8 (s.short.toNat : Int), .int .i64 s.needs]

set_option maxHeartbeats 2000000 in
theorem args_long1 (s : Spc) (B : Nat) (n : ByteArray) (w : World) (hB : w.cell? ⟨B, 0, none⟩ = some (.string n)) :
    Calls Tryz.prog 46 #[spcV s, .pointer (some ⟨B, 0, none⟩)] w fun e w' => e = .returned (.bool (s.long.toList == n.toList)) ∧ Below w.heap.size w w' := by
  have hBl := World.block_lt_of_cell? w _ hB
  unfold spcV
  go_enter Tryz.func46, Tryz.ntmps46
  go_wp2
  go_ret
  exact ⟨rfl, (Below.refl _ _).alloc (Nat.le_refl _) _⟩

set_option maxHeartbeats 2000000 in
theorem args_short1 (s : Spc) (B C : Nat) (t : ByteArray) (i : Nat) (w : World) (hB : w.cell? ⟨B, 0, none⟩ = some (.string t)) (hC : w.cell? ⟨C, 0, none⟩ = some (.int .i64 (i : Int))) (hi : i < t.size) :
    Calls Tryz.prog 48 #[spcV s, .pointer (some ⟨B, 0, none⟩), .pointer (some ⟨C, 0, none⟩)] w fun e w' => e = .returned (.bool (s.short != 0 && s.short == t.get! i)) ∧ Below w.heap.size w w' := by
  have hBl := World.block_lt_of_cell? w _ hB
  have hCl := World.block_lt_of_cell? w _ hC
  unfold spcV
  have q1 : (0 : Int) ≤ (i : Int) := by omega
  have q2 : (i : Int) < (t.size : Int) := by omega
  have q3 : (i : Int).toNat = i := by omega
  cases h0 : (((s.short.toNat : Nat) : Int) == 0)
  · have hne : (((s.short.toNat : Nat) : Int) != 0) = true := by rw [bne, h0]; rfl
    have hs : (s.short != 0) = true := by
      rw [bne_iff_ne]; intro e; rw [e] at h0; simp at h0
    cases h1 : (((s.short.toNat : Nat) : Int) == (((t.get! i).toNat : Nat) : Int))
    · have hr : (s.short == t.get! i) = false := by
        rw [beq_eq_false_iff_ne]; intro e; rw [e] at h1; simp at h1
      rw [hs, hr]
      rw [get_eq' t i hi] at h1
      clear hs hr
      go_enter Tryz.func48, Tryz.ntmps48
      go_wp2
      go_quiet (fail)
      go_wp2
      go_ret
      exact ⟨rfl, below_drewN ((Below.refl _ _).alloc (Nat.le_refl _) _) _⟩
    · have hr : (s.short == t.get! i) = true := by
        rw [beq_iff_eq] at h1 ⊢; exact UInt8.toNat_inj.1 (by omega)
      rw [hs, hr]
      rw [get_eq' t i hi] at h1
      clear hs hr
      go_enter Tryz.func48, Tryz.ntmps48
      go_wp2
      go_quiet (fail)
      go_wp2
      go_ret
      exact ⟨rfl, below_drewN ((Below.refl _ _).alloc (Nat.le_refl _) _) _⟩
  · have hne : (((s.short.toNat : Nat) : Int) != 0) = false := by rw [bne, h0]; rfl
    have hs : (s.short != 0) = false := by
      rw [bne_eq_false_iff_eq]; rw [beq_iff_eq] at h0; exact UInt8.toNat_inj.1 (by simpa using h0)
    rw [hs]
    clear hs
    go_enter Tryz.func48, Tryz.ntmps48
    go_wp2
    go_quiet (fail)
    go_wp2
    go_ret
    exact ⟨rfl, below_drewN ((Below.refl _ _).alloc (Nat.le_refl _) _) _⟩

/-- the outer closure: a spec with a name, and so -/
def named (p : Spc → Bool) (s : Spc) : Bool := !s.long.toList.isEmpty && p s

set_option maxHeartbeats 2000000 in
theorem args_find1L (s : Spc) (B : Nat) (C : Nat) (n : ByteArray) (w : World) (hB : w.cell? ⟨B, 0, none⟩ = some (.func (.func 46) #[] #[.pointer (some ⟨C, 0, none⟩)])) (hC : w.cell? ⟨C, 0, none⟩ = some (.string n)) :
    Calls Tryz.prog 58 #[spcV s, .pointer (some ⟨B, 0, none⟩)] w fun e w' => e = .returned (.bool (named (fun s => s.long.toList == n.toList) s)) ∧ Below w.heap.size w w' := by
  have hBl := World.block_lt_of_cell? w _ hB
  have hCl := World.block_lt_of_cell? w _ hC
  have hb0 := (Below.refl w.heap.size w).alloc (Nat.le_refl _) (.cells #[.string s.long, .int .u8 (s.short.toNat : Int), .int .i64 s.needs] 30)
  have hb1 := bcell hb0
  have HC := Lib.hid (args_long1 s C n _ ((hb1.1 C 0 hCl).trans hC))
  unfold named
  clear hb1
  unfold spcV at *
  cases hl : s.long.toList.isEmpty
  · obtain ⟨q, hq⟩ : ∃ q, (s.long.toList == n.toList) = q := ⟨_, rfl⟩
    simp only [hq] at HC ⊢
    clear hq
    go_enter Tryz.func58, Tryz.ntmps58
    go_wp2_with (go_at_call 46; refine HC.out.mono ?_; rintro e w' ⟨rfl, hb2⟩)
    go_ret
    exact ⟨by simp, hb0.trans (hb2.mono (by simp))⟩
  · go_enter Tryz.func58, Tryz.ntmps58
    go_wp2
    go_ret
    exact ⟨by simp, hb0⟩

set_option maxHeartbeats 2000000 in
theorem args_find1S (s : Spc) (B : Nat) (C D : Nat) (t : ByteArray) (i : Nat) (w : World) (hB : w.cell? ⟨B, 0, none⟩ = some (.func (.func 48) #[] #[.pointer (some ⟨C, 0, none⟩), .pointer (some ⟨D, 0, none⟩)])) (hC : w.cell? ⟨C, 0, none⟩ = some (.string t)) (hD : w.cell? ⟨D, 0, none⟩ = some (.int .i64 (i : Int))) (hi : i < t.size) :
    Calls Tryz.prog 58 #[spcV s, .pointer (some ⟨B, 0, none⟩)] w fun e w' => e = .returned (.bool (named (fun s => s.short != 0 && s.short == t.get! i) s)) ∧ Below w.heap.size w w' := by
  have hBl := World.block_lt_of_cell? w _ hB
  have hCl := World.block_lt_of_cell? w _ hC
  have hDl := World.block_lt_of_cell? w _ hD
  have hb0 := (Below.refl w.heap.size w).alloc (Nat.le_refl _) (.cells #[.string s.long, .int .u8 (s.short.toNat : Int), .int .i64 s.needs] 30)
  have hb1 := bcell hb0
  have HC := Lib.hid (args_short1 s C D t i _ ((hb1.1 C 0 hCl).trans hC) ((hb1.1 D 0 hDl).trans hD) hi)
  unfold named
  clear hb1
  unfold spcV at *
  cases hl : s.long.toList.isEmpty
  · obtain ⟨q, hq⟩ : ∃ q, (s.short != 0 && s.short == t.get! i) = q := ⟨_, rfl⟩
    simp only [hq] at HC ⊢
    clear hq
    go_enter Tryz.func58, Tryz.ntmps58
    go_wp2_with (go_at_call 48; refine HC.out.mono ?_; rintro e w' ⟨rfl, hb2⟩)
    go_ret
    exact ⟨by simp, hb0.trans (hb2.mono (by simp))⟩
  · go_enter Tryz.func58, Tryz.ntmps58
    go_wp2
    go_ret
    exact ⟨by simp, hb0⟩

set_option maxHeartbeats 4000000 in
theorem idx_Spec (lo : Nat) (v : Value) (S : List Spc) (B : Nat) (q : Spc → Bool) (w : World) (hl : S.length ≤ 140737488355328) (hv : SpcAt lo w v S)
    (hF : ∀ W, Below w.heap.size w W → ∀ s ∈ S, Calls Tryz.prog 58 #[spcV s, .pointer (some ⟨B, 0, none⟩)] W fun e w' => e = .returned (.bool (q s)) ∧ Below W.heap.size W w') :
    Calls Tryz.prog 57 #[v, .func (.func 58) #[] #[.pointer (some ⟨B, 0, none⟩)]] w fun e w' =>
      e = .returned (.int .i64 (fidx q S)) ∧ Below w.heap.size w w' := by
  obtain ⟨A, c, rfl, hc, hA⟩ := hv
  have HA := Lib.hid hA
  have HF0 := Lib.hid hF
  clear hA hF
  go_enter Tryz.func57, Tryz.ntmps57
  go_wp2
  go_loopw [8] (fun i wr => ∃ k : Nat, k ≤ S.length ∧ i = .int .i64 k ∧ Aside (Below w.heap.size w wr) ∧ Aside (∀ t x, t < k → S[t]? = some x → q x = false)) (fun i _ => S.length - (intOf i).toNat)
  case atStart => exact ⟨0, Nat.zero_le _, rfl, Below.refl _ _, fun t x ht => absurd ht (Nat.not_lt_zero _)⟩
  case round =>
    obtain ⟨k, hk, rfl, HB, HN⟩ := hrel
    by_cases hlt : k < S.length
    · obtain ⟨y, hy⟩ : ∃ y, S[k]? = some y := ⟨S[k], List.getElem?_eq_getElem hlt⟩
      obtain ⟨b, o, rfl, hb, hst, hcells⟩ := HA.out (by intro h; rw [h] at hy; simp at hy)
      have hb' := bcell HB
      have c0 : wr.cell? ⟨b, o + k * 3, none⟩ = some (.string y.long) := (hb'.1 b _ hb).trans (hcells _ y hy 0 _ rfl)
      have c1 : wr.cell? ⟨b, o + k * 3 + 1, none⟩ = some (.int .u8 (y.short.toNat : Int)) := (hb'.1 b _ hb).trans (hcells _ y hy 1 _ rfl)
      have c2 : wr.cell? ⟨b, o + k * 3 + 2, none⟩ = some (.int .i64 y.needs) := (hb'.1 b _ hb).trans (hcells _ y hy 2 _ rfl)
      have hcall := HF0.out wr HB.out y (List.mem_iff_getElem?.2 ⟨k, hy⟩)
      unfold spcV at hcall
      have HC := Lib.hid hcall
      have HY := Lib.hid hy
      clear hcells hb' hy hcall
      cases hp : q y
      · rw [hp] at HC
        have HP := Lib.hid hp
        clear hp
        go_wp2_with (go_at_call 58; refine HC.out.mono ?_; rintro e w' ⟨rfl, hb1⟩)
        go_roundw
        case rel =>
          refine ⟨k + 1, by omega, by go_num, HB.out.trans (hb1.mono HB.out.size), fun t x ht hx => ?_⟩
          rcases Nat.lt_or_ge t k with h1 | h1
          · exact HN.out t x h1 hx
          · obtain rfl : t = k := by omega
            rw [HY.out] at hx; cases hx; exact HP.out
        case measure => simp [RowKit.intOf]; omega
      · rw [hp] at HC
        have hf : fidx q S = k := fidx_at _ HY.out hp HN.out
        have HFx := Lib.hid hf
        clear hp hf
        go_wp2_with (go_at_call 58; refine HC.out.mono ?_; rintro e w' ⟨rfl, hb1⟩)
        go_ret
        exact ⟨by rw [HFx.out]; rfl, HB.out.trans (hb1.mono HB.out.size)⟩
    · have hf : fidx q S = -1 := fidx_none _ (fun t x hx => HN.out t x (by have := (List.getElem?_eq_some_iff.1 hx).1; omega) hx)
      have HFx := Lib.hid hf
      clear hf
      go_wp2
      go_ret
      exact ⟨by rw [HFx.out]; rfl, HB.out⟩

/-- a reader, as far as the search looks at it -/
def spc0 : Spc := ⟨⟨#[]⟩, 0, 0⟩
theorem fidx_find {α : Type} (p : α → Bool) (l : List α) : (fidx p l = -1 ∧ l.find? p = none) ∨ ∃ (i : Nat) (x : α), fidx p l = i ∧ l[i]? = some x ∧ l.find? p = some x := by
  unfold fidx
  cases h : l.findIdx? p with
  | none =>
    left
    rw [List.findIdx?_eq_none_iff] at h
    exact ⟨rfl, List.find?_eq_none.2 (fun x hx => by simp [h x hx])⟩
  | some i =>
    right
    rw [List.findIdx?_eq_some_iff_getElem] at h
    obtain ⟨hi, hp, hn⟩ := h
    refine ⟨i, l[i], rfl, List.getElem?_eq_getElem hi, ?_⟩
    rw [List.find?_eq_some_iff_getElem]
    exact ⟨hp, i, hi, rfl, fun j hj => by have := hn j hj; simpa using this⟩

set_option maxHeartbeats 4000000 in
theorem args_find (lo rb : Nat) (sv wv ov : Value) (g : Nat) (lb : Array Value) (at' : Int) (S : List Spc) (p : Spc → Bool) (w : World) (hl : S.length ≤ 140737488355328)
    (hr : w.heap[rb]? = some (.cells #[sv, wv, .int .i64 at', ov] 77 (0, 0))) (hv : SpcAt lo w sv S)
    (hF : ∀ W, Below w.heap.size w W → W.cell? ⟨w.heap.size, 0, none⟩ = some (.func (.func g) #[] lb) → ∀ s ∈ S, Calls Tryz.prog 58 #[spcV s, .pointer (some ⟨w.heap.size, 0, none⟩)] W fun e w' => e = .returned (.bool (named p s)) ∧ Below W.heap.size W w') :
    Calls Tryz.prog 45 #[.pointer (some ⟨rb, 0, none⟩), .func (.func g) #[] lb] w fun e w' =>
      e = .returned (.tuple #[spcV ((sfind S p).getD spc0), .bool (sfind S p).isSome]) ∧ Below w.heap.size w w' := by
  have hrl : rb < w.heap.size := (Array.getElem?_eq_some_iff.1 hr).1
  have r0 : w.cell? ⟨rb, 0, none⟩ = some sv := by simp [World.cell?, hr]
  obtain ⟨w0, hw0⟩ : ∃ w0, w0 = (w.alloc (.cells #[.func (.func g) #[] lb] 110)).alloc (.cells #[.string ⟨#[]⟩, .int .u8 0, .int .i64 0] 30) := ⟨_, rfl⟩
  have hb0 : Below w.heap.size w w0 := by rw [hw0]; exact ((Below.refl w.heap.size w).alloc (Nat.le_refl _) _).alloc (by simp) _
  have hz0 : w0.heap.size = w.heap.size + 2 := by rw [hw0]; simp
  have hbx : w0.cell? ⟨w.heap.size, 0, none⟩ = some (.func (.func g) #[] lb) := by
    rw [hw0, Below.cell ((Below.refl _ _).alloc (Nat.le_refl _) _) (by simp)]
    exact (Boxed.new w 110 (.func (.func g) #[] lb)).cell
  have hres : w0.heap[w.heap.size + 1]? = some (.cells #[.string ⟨#[]⟩, .int .u8 0, .int .i64 0] 30 (0, 0)) := by
    have := heap_alloc_new (w.alloc (.cells #[.func (.func g) #[] lb] 110)) (.cells #[.string ⟨#[]⟩, .int .u8 0, .int .i64 0] 30)
    rw [World.size_alloc] at this
    rw [hw0]; exact this
  have hI := idx_Spec lo sv S w.heap.size (named p) w0 hl (hv.below hb0) (fun W hW s hs => hF W (hb0.trans (hW.mono (by omega))) (((bcell hW).1 _ 0 (by omega)).trans hbx) s hs)
  have HI := Lib.hid hI
  rw [hw0] at HI
  clear hI hbx hF
  obtain ⟨A, c, rfl, hc, hA⟩ := hv
  unfold sfind
  rcases fidx_find (named p) S with ⟨h1, h2⟩ | ⟨i, x, h1, hx, h2⟩
  · rw [show S.find? (fun s => !s.long.toList.isEmpty && p s) = none from h2]
    rw [h1] at HI
    clear h1 h2
    go_enter Tryz.func45, Tryz.ntmps45
    go_wp2_with (first | (refine wpList_store_row rfl 30 _ _ rfl (w.heap.size + 1) _ rfl rfl 30 _ hr1 (by kernel_rfl) rfl (by simp [Value.oneCell']) ?_; have hr2 := setRow_heap w' (w.heap.size + 1) _ #[.string ⟨#[]⟩, .int .u8 0, .int .i64 0] 30 (0, 0) hr1; have k0 := cell_setRow_same w' (w.heap.size + 1) 0 _ #[.string ⟨#[]⟩, .int .u8 0, .int .i64 0] _ _ hr1; have k1 := cell_setRow_same w' (w.heap.size + 1) 1 _ #[.string ⟨#[]⟩, .int .u8 0, .int .i64 0] _ _ hr1; have k2 := cell_setRow_same w' (w.heap.size + 1) 2 _ #[.string ⟨#[]⟩, .int .u8 0, .int .i64 0] _ _ hr1) | go_at_call 57; refine HI.out.mono ?_; rintro e w' ⟨rfl, hb1⟩; rw [← hw0] at hb1; have hr1 := hb1.block _ (by omega : w.heap.size + 1 < w0.heap.size); rw [hres] at hr1)
    refine bodyPost_ret (v := .tuple #[spcV spc0, .bool false]) (by simp [results, Tryz.results45, go_sem, k0, k1, k2, hr2, spcV, spc0]) rfl ?_
    exact ⟨rfl, below_setRow (hb0.trans (hb1.mono (by omega))) (by omega) _⟩
  · rw [show S.find? (fun s => !s.long.toList.isEmpty && p s) = some x from h2]
    rw [h1] at HI
    obtain ⟨b, o, rfl, hb, hst, hcells⟩ := hA (by intro h; rw [h] at hx; simp at hx)
    have hil : i < S.length := (List.getElem?_eq_some_iff.1 hx).1
    have hc0 : w.cell? ⟨b, o + i * 3, none⟩ = some (.string x.long) := hcells i x hx 0 _ rfl
    have hc1 : w.cell? ⟨b, o + i * 3 + 1, none⟩ = some (.int .u8 (x.short.toNat : Int)) := hcells i x hx 1 _ rfl
    have hc2 : w.cell? ⟨b, o + i * 3 + 2, none⟩ = some (.int .i64 x.needs) := hcells i x hx 2 _ rfl
    have hneg : ¬ ((i : Int) < 0) := by omega
    have HX := Lib.hid (fun (W : World) (hW : Below w.heap.size w W) => (⟨((bcell hW).1 b _ hb).trans hc0, ((bcell hW).1 b _ hb).trans hc1, ((bcell hW).1 b _ hb).trans hc2, ((bcell hW).1 rb _ hrl).trans r0⟩ : _ ∧ _ ∧ _ ∧ _))
    clear h1 h2 hx hcells hc0 hc1 hc2
    go_enter Tryz.func45, Tryz.ntmps45
    go_wp2_with (first | (refine wpList_store_row rfl 30 _ _ rfl (w.heap.size + 1) _ rfl rfl 30 _ hr1 (by kernel_rfl) rfl (by simp [Value.oneCell']) ?_; have hr2 := setRow_heap w' (w.heap.size + 1) _ #[.string x.long, .int .u8 (x.short.toNat : Int), .int .i64 x.needs] 30 (0, 0) hr1; have k0 := cell_setRow_same w' (w.heap.size + 1) 0 _ #[.string x.long, .int .u8 (x.short.toNat : Int), .int .i64 x.needs] _ _ hr1; have k1 := cell_setRow_same w' (w.heap.size + 1) 1 _ #[.string x.long, .int .u8 (x.short.toNat : Int), .int .i64 x.needs] _ _ hr1; have k2 := cell_setRow_same w' (w.heap.size + 1) 2 _ #[.string x.long, .int .u8 (x.short.toNat : Int), .int .i64 x.needs] _ _ hr1) | go_at_call 57; refine HI.out.mono ?_; rintro e w' ⟨rfl, hb1⟩; rw [← hw0] at hb1; have hr1 := hb1.block _ (by omega : w.heap.size + 1 < w0.heap.size); rw [hres] at hr1; obtain ⟨hx0, hx1, hx2, hx3⟩ := HX.out w' (hb0.trans (hb1.mono (by omega))))
    refine bodyPost_ret (v := .tuple #[spcV x, .bool true]) (by simp [results, Tryz.results45, go_sem, k0, k1, k2, hr2, spcV, spc0]) rfl ?_
    exact ⟨rfl, below_setRow (hb0.trans (hb1.mono (by omega))) (by omega) _⟩

end Go.Proofs.YtnmlmbgaljnjeaaGreatDoor
