/- args: the reader's short. Conditions: lengths below 2^32. -/
import Derived.Test.YtnmlmbgaljnjeaaGreatDoorAlong
set_option linter.unusedVariables false
set_option linter.unusedSimpArgs false
namespace Go.Proofs.YtnmlmbgaljnjeaaGreatDoor
open Go.RowKit

/-- what a word's letters have come to so far, and what they come to -/
def sjoin (x : List Itm × Nat) : Option (List Itm × Nat) → Option (List Itm × Nat)
  | none => none
  | some y => some (x.1 ++ y.1, x.2 + y.2)
theorem sjoin_zero (y : Option (List Itm × Nat)) : sjoin ([], 0) y = y := by cases y <;> simp [sjoin]

theorem sjoin_step (x0 : List Itm) (c0 : Nat) (x : Itm × Nat) (y : Option (List Itm × Nat)) :
    sjoin (x0 ++ [x.1], c0 + x.2) y = sjoin (x0, c0) (match y with | none => none | some y => some (x.1 :: y.1, x.2 + y.2)) := by
  cases y <;> simp [sjoin, Nat.add_assoc]
theorem aput_le {s : Spc} {rest : List ByteArray} {x : Itm × Nat} (h : aput s rest = some x) : x.2 ≤ rest.length := by
  unfold aput at h
  split at h
  · cases h; assumption
  · cases h

set_option maxRecDepth 100000 in
set_option maxHeartbeats 8000000 in
theorem args_short (base rb : Nat) (S : List Spc) (ws : List ByteArray) (at' : Nat) (out : List Itm) (t : ByteArray) (w : World) (hb : base ≤ w.heap.size) (hat : at' < ws.length) (hlen : ws.length ≤ 1048576) (hS : Meek S)
    (hout : out.length ≤ 2147483648) (ht : t.size ≤ 1048576) (h : Rd base rb S ws w at' out) :
    Calls Tryz.prog 35 #[.pointer (some ⟨rb, 0, none⟩), .string t] w fun e w' =>
      (match ashort S (ws.drop (at' + 1)) t.data.toList with
       | none => e = .returned (.bool false)
       | some x => e = .returned (.bool true) ∧ Rd base rb S ws w' (at' + x.2) (out ++ x.1)) ∧ Mut base rb w w' := by
  have hrl : rb < w.heap.size := by obtain ⟨sv, wv, ov, m, hrb, _⟩ := h; exact (Array.getElem?_eq_some_iff.1 hrb).1
  have hb0 := (Below.refl w.heap.size w).alloc (Nat.le_refl _) (.cells #[.string t] 9)
  have hbox := Boxed.new w 9 (.string t)
  have HR := Lib.hid h
  have HS := Lib.hid hS
  have HB0 := Lib.hid hb0
  have HX0 := Lib.hid hbox
  clear h hS hb0 hbox
  go_enter Tryz.func35, Tryz.ntmps35
  go_wp2
  go_step3
  go_wp2
  go_step3
  go_wp2
  go_loopw [11] (fun i wr => ∃ (k c0 : Nat) (x0 : List Itm), k ≤ t.size ∧ i = .int .i64 k ∧ at' + c0 < ws.length ∧ x0.length ≤ k ∧ Aside (Boxed wr w.heap.size 9 (.string t)) ∧ Aside (Rd base rb S ws wr (at' + c0) (out ++ x0)) ∧ Aside (Mut base rb w wr) ∧
    Aside (ashort S (ws.drop (at' + 1)) t.data.toList = sjoin (x0, c0) (ashort S (ws.drop (at' + c0 + 1)) (t.data.toList.drop k)))) (fun i _ => t.size - (intOf i).toNat)
  case atStart => exact ⟨0, 0, [], Nat.zero_le _, rfl, hat, Nat.le_refl _, HX0.out, (by have := HR.out.below HB0.out; simpa using this : Rd base rb S ws _ (at' + 0) (out ++ [])), mut_below HB0.out hb, (by rw [sjoin_zero]; rfl : ashort S (ws.drop (at' + 1)) t.data.toList = sjoin ([], 0) (ashort S (ws.drop (at' + 0 + 1)) (t.data.toList.drop 0)))⟩
  case round =>
    obtain ⟨k, c0, x0, hk, rfl, hc0, hx0, HX, HRr, HM, HE⟩ := hrel
    have hrt : wr.heap.size ≥ w.heap.size := HM.out.1.size
    by_cases hlt : k < t.size
    · have hdrop : t.data.toList.drop k = t.get! k :: t.data.toList.drop (k + 1) := by
        rw [get_eq' t k hlt]
        have hl : k < t.data.toList.length := by rw [← Lib.size_eq]; exact hlt
        rw [List.drop_eq_getElem_cons hl]
        rfl
      have hb1 := (Below.refl wr.heap.size wr).alloc (Nat.le_refl _) (.cells #[.int .i64 (k : Int)] 3)
      have hF := Rd.find (HRr.out.below hb1) 48 #[.pointer (some ⟨w.heap.size, 0, none⟩), .pointer (some ⟨wr.heap.size, 0, none⟩)] (fun s => s.short != 0 && s.short == t.get! k) (by have := HS.out.1; omega)
        (fun W hW hc s hs => args_find1S s _ w.heap.size wr.heap.size t k W hc (((bcell (hb1.trans (hW.mono hb1.size))).1 _ 0 HX.out.lt).trans HX.out.cell) (((bcell hW).1 _ 0 (by simp)).trans (Boxed.new wr 3 (.int .i64 (k : Int))).cell) hlt)
      have HF := Lib.hid hF
      have HD := Lib.hid hdrop
      have hXc := HX.out.cell
      have hXl := HX.out.lt
      clear hF hdrop
      rcases hfd : sfind S (fun s => s.short != 0 && s.short == t.get! k) with _ | s
      · have hE : ashort S (ws.drop (at' + 1)) t.data.toList = none := by rw [HE.out, HD.out, ashort, hfd]; rfl
        have HE2 := Lib.hid hE
        clear hE
        simp only [hfd, Option.getD_none, Option.isSome_none, spcV, spc0] at HF
        go_wp2_with (first | (go_at_call 45; refine HF.out.mono ?_; rintro e w2 ⟨rfl, hb2⟩; have hb3 := hb1.trans (hb2.mono hb1.size); have k5 := ((bcell hb2).1 wr.heap.size 0 (by simp)).trans (Boxed.new wr 3 (.int .i64 (k : Int))).cell; have l5 : wr.heap.size < w2.heap.size := (by have := hb2.size; simp at this; omega); have k6 := ((bcell hb3).1 w.heap.size 0 hXl).trans hXc; have l6 : w.heap.size < w2.heap.size := (by omega); have hb4 := hb3.alloc hb3.size (.cells #[.string ⟨#[]⟩, .int .u8 0, .int .i64 0] 30)))
        rw [Exit.noGoto_ret]
        refine bodyPost_ret (v := .bool false) (results_tmp (t := 4) rfl _ _ _) rfl ?_
        rw [HE2.out]
        exact ⟨rfl, HM.out.trans (mut_below hb4 (by omega))⟩
      · have hsm := HS.out.2 s (sfind_mem hfd)
        simp only [hfd, Option.getD_some, Option.isSome_some, spcV] at HF
        have hE1 := HE.out
        rw [HD.out, ashort, hfd] at hE1
        dsimp only at hE1
        have hnil : (t.data.toList.drop (k + 1) = []) ↔ k + 1 = t.size := by rw [List.drop_eq_nil_iff, ← Lib.size_eq]; omega
        by_cases hbad : 1 < s.needs ∧ t.data.toList.drop (k + 1) ≠ []
        · rw [if_pos hbad] at hE1
          have hl : ((k : Int) == (t.size : Int) - 1) = false := by
            rw [beq_eq_false_iff_ne]; intro e; exact hbad.2 (hnil.2 (by omega))
          have hgt : (1 : Int) < s.needs := hbad.1
          have HE2 := Lib.hid hE1
          clear hE1 hnil
          go_wp2_with (first | (go_at_call 45; refine HF.out.mono ?_; rintro e w2 ⟨rfl, hb2⟩; have hb3 := hb1.trans (hb2.mono hb1.size); have k5 := ((bcell hb2).1 wr.heap.size 0 (by simp)).trans (Boxed.new wr 3 (.int .i64 (k : Int))).cell; have l5 : wr.heap.size < w2.heap.size := (by have := hb2.size; simp at this; omega); have k6 := ((bcell hb3).1 w.heap.size 0 hXl).trans hXc; have l6 : w.heap.size < w2.heap.size := (by omega); have hb4 := hb3.alloc hb3.size (.cells #[.string s.long, .int .u8 (s.short.toNat : Int), .int .i64 s.needs] 30)))
          rw [Exit.noGoto_ret]
          refine bodyPost_ret (v := .bool false) (results_tmp (t := 4) rfl _ _ _) rfl ?_
          rw [HE2.out]
          exact ⟨rfl, HM.out.trans (mut_below hb4 (by omega))⟩
        · rw [if_neg hbad] at hE1
          by_cases hone : s.needs = 1 ∧ t.data.toList.drop (k + 1) ≠ []
          · rw [if_pos hone] at hE1
            have hl : ((k : Int) == (t.size : Int) - 1) = false := by
              rw [beq_eq_false_iff_ne]; intro e; exact hone.2 (hnil.2 (by omega))
            have hq : (s.needs == 1) = true := by rw [beq_iff_eq]; exact hone.1
            have hgt : ¬ 1 < s.needs := by omega
            have HE2 := Lib.hid hE1
            clear hE1 hnil hbad hone
            obtain ⟨sv, wv, ov, m, hrb, hSp, hW, hbr, hO, hm, hV⟩ := HRr.out
            obtain ⟨i0, hi, hz0, hz1, hz2⟩ := info_parts rdInfo
            have hrlr : rb < wr.heap.size := (Array.getElem?_eq_some_iff.1 hrb).1
            have hml : m.length ≤ 4294967296 := by
              have := congrArg List.length hm
              rw [List.length_map, List.length_append] at this
              omega
            have hbw : base ≤ wr.heap.size := by omega
            have hG := fun w1 hb1 g6 cap6 w6 xv vals h1 h2 h3 h4 => out_grown (g6 := g6) (cap6 := cap6) (w6 := w6) (w1 := w1) (n := s.long) (xv := xv) (vals := vals) hbw hrb hSp hW hbr hO hV hb1 h3 h4 h1 h2
            have HG := Lib.hid hG
            have HO := Lib.hid hO
            have HMm := Lib.hid hm
            have HRB := Lib.hid hrb
            clear hG hO hm hV hSp hW hrb
            go_wp2_with (first | (go_at_call 45; refine HF.out.mono ?_; rintro e w2 ⟨rfl, hb2⟩; have hb3 := hb1.trans (hb2.mono hb1.size); have k5 := ((bcell hb2).1 wr.heap.size 0 (by simp)).trans (Boxed.new wr 3 (.int .i64 (k : Int))).cell; have l5 : wr.heap.size < w2.heap.size := (by have := hb2.size; simp at this; omega); have k6 := ((bcell hb3).1 w.heap.size 0 hXl).trans hXc; have l6 : w.heap.size < w2.heap.size := (by omega); have hb4 := hb3.alloc hb3.size (.cells #[.string s.long, .int .u8 (s.short.toNat : Int), .int .i64 s.needs] 30)))
            obtain ⟨w4, hw4⟩ : ∃ w4, w4 = w2.alloc (.cells #[.string s.long, .int .u8 (s.short.toNat : Int), .int .i64 s.needs] 30) := ⟨_, rfl⟩
            rw [← hw4] at hb4 ⊢
            have hz4 : w4.heap.size = w2.heap.size + 1 := by rw [hw4]; simp
            have k40 : w4.cell? ⟨w2.heap.size, 0, none⟩ = some (.string s.long) := by
              have e := heap_alloc_new w2 (.cells #[.string s.long, .int .u8 (s.short.toNat : Int), .int .i64 s.needs] 30)
              rw [hw4]
              unfold World.cell?
              rw [e]; rfl
            have hb24 : Below w2.heap.size w2 w4 := by rw [hw4]; exact (Below.refl _ _).alloc (Nat.le_refl _) _
            have k41 := ((bcell hb24).1 w.heap.size 0 l6).trans k6
            have k42 := ((bcell hb24).1 wr.heap.size 0 l5).trans k5
            have hr4 := (hb4.block _ hrlr).trans HRB.out
            have k43 : w4.cell? ⟨rb, 3, none⟩ = some ov := by simp [World.cell?, hr4]
            have hO4 := own_below HO.out hb4
            have q5 : IntKind.i64.wrap ((k : Int) + 1) = (k : Int) + 1 := IntWalk.i64_in _ (by omega)
            have q7 : ((k : Int) + 1).toNat = k + 1 := by omega
            have q8 : (0 : Int) ≤ (k : Int) + 1 := by omega
            have q9 : (k : Int) + 1 ≤ (t.size : Int) := by omega
            obtain ⟨v, hv⟩ : ∃ v, t.extract (k + 1) t.size = v := ⟨_, rfl⟩
            have hvd : (⟨(t.data.toList.drop (k + 1)).toArray⟩ : ByteArray) = v := by
              rw [← hv]
              apply ByteArray.ext
              apply Array.toList_inj.1
              rw [Lib.extract_to_end]
            clear hw4
            have hbA := (Below.refl w4.heap.size w4).alloc (Nat.le_refl _) (.cells #[.string v] 9)
            have hbB := hbA.alloc hbA.size (.cells #[.string s.long, .slice (some ⟨w4.heap.size, 0, none⟩) 1 1] 62)
            have hb5 := hb4.trans (hbA.mono hb4.size)
            have kB0 := ((bcell hbB).1 w2.heap.size 0 (by omega)).trans k40
            have kB1 := ((bcell hbB).1 w.heap.size 0 (by omega)).trans k41
            have kB2 := ((bcell hbB).1 wr.heap.size 0 (by omega)).trans k42
            have kB3 := ((bcell hbB).1 rb 3 (by omega)).trans k43
            have kA3 := ((bcell hbA).1 rb 3 (by omega)).trans k43
            have hne2 : some w2.heap.size ≠ ov.ownBlock := fun e => by have := (HO.out.lt _ e.symm).2; omega
            have hne3 : some w.heap.size ≠ ov.ownBlock := (own_ne HO.out HX.out (by decide)).symm
            have hne4 : some wr.heap.size ≠ ov.ownBlock := fun e => by have := (HO.out.lt _ e.symm).2; omega
            have hl2 : w2.heap.size < w4.heap.size + 2 := by omega
            have hl3 : w.heap.size < w4.heap.size + 2 := by omega
            have hl4 : wr.heap.size < w4.heap.size + 2 := by omega
            have hlb : base ≤ w4.heap.size + 2 := by omega
            have HGx := Lib.hid (HG.out _ hb5)
            have hO6 := (hO4.alloc (.cells #[.string v] 9)).alloc (.cells #[.string s.long, .slice (some ⟨w4.heap.size, 0, none⟩) 1 1] 62)
            have hN6 : ((w4.alloc (.cells #[.string v] 9)).alloc (.cells #[.string s.long, .slice (some ⟨w4.heap.size, 0, none⟩) 1 1] 62)).heap[w4.heap.size + 1]? = some (.cells #[.string s.long, .slice (some ⟨w4.heap.size, 0, none⟩) 1 1] 62 (0, 0)) := heap_alloc_new' _ _ (by simp)
            have hZ6 : ((w4.alloc (.cells #[.string v] 9)).alloc (.cells #[.string s.long, .slice (some ⟨w4.heap.size, 0, none⟩) 1 1] 62)).heap.size = w4.heap.size + 2 := by simp
            have HVd := Lib.hid hvd
            clear hz4 hvd hb24
            generalize hw8 : (w4.alloc (.cells #[.string v] 9)).alloc (.cells #[.string s.long, .slice (some ⟨w4.heap.size, 0, none⟩) 1 1] 62) = w8 at *
            refine wp_region_held_drew (S := (fun W => W.cell? ⟨w2.heap.size, 0, none⟩ = some (.string s.long) ∧ W.cell? ⟨w.heap.size, 0, none⟩ = some (.string t) ∧ W.cell? ⟨wr.heap.size, 0, none⟩ = some (.int .i64 (k : Int)))) (by kernel_rfl) ?_ (fun hHeld => ?_)
            · ((try dsimp only) <;> (first | (go_split_ands; exact ⟨by go_keep, by go_keep, by go_keep⟩) | exact ⟨kB0, kB1, kB2⟩ | (rw [hw8]; exact ⟨kB0, kB1, kB2⟩) | exact ⟨k6s, k6t, k6u⟩ | exact ⟨(World.cell?_setCell_other w6 ⟨rb, 3, none⟩ ⟨w2.heap.size, 0, none⟩ _ (by simp)).trans k6s, (World.cell?_setCell_other w6 ⟨rb, 3, none⟩ ⟨w.heap.size, 0, none⟩ _ (by simp)).trans k6t, (World.cell?_setCell_other w6 ⟨rb, 3, none⟩ ⟨wr.heap.size, 0, none⟩ _ (by simp)).trans k6u⟩))
            refine wpAnyH_take (i := 0) (v := ?_) rfl (by kernel_rfl) (by kernel_rfl) (by kernel_rfl) (fun _ _ _ h => h) (Or.inl ⟨by rfl, ?_⟩) (by assumption) ?_
            rotate_left
            · (intro w hSw; (try dsimp only at hSw); go_simp; first | done | with_reducible rfl)
            try simp only [Act.put, List.setIfInBounds_toArray, List.set_cons_zero, List.set_cons_succ]
            refine wpAnyH_take (i := 1) (v := ?_) rfl (by kernel_rfl) (by kernel_rfl) (by kernel_rfl) (fun _ _ _ h => h) (Or.inl ⟨by rfl, ?_⟩) (by assumption) ?_
            rotate_left
            · (intro w hSw; (try dsimp only at hSw); go_simp; first | done | with_reducible rfl)
            try simp only [Act.put, List.setIfInBounds_toArray, List.set_cons_zero, List.set_cons_succ]
            refine wpAnyH_take (i := 2) (v := ?_) rfl (by kernel_rfl) (by kernel_rfl) (by kernel_rfl) (fun _ _ _ h => h) (Or.inl ⟨by rfl, ?_⟩) (by assumption) ?_
            rotate_left
            · (intro w hSw; (try dsimp only at hSw); go_simp; first | done | with_reducible rfl)
            try simp only [Act.put, List.setIfInBounds_toArray, List.set_cons_zero, List.set_cons_succ]
            refine wpAnyH_take (i := 3) (v := ?_) rfl (by kernel_rfl) (by kernel_rfl) (by kernel_rfl) (fun _ _ _ h => h) (Or.inl ⟨by rfl, ?_⟩) (by assumption) ?_
            rotate_left
            · (intro w hSw; (try dsimp only at hSw); go_simp; first | done | with_reducible rfl)
            try simp only [Act.put, List.setIfInBounds_toArray, List.set_cons_zero, List.set_cons_succ]
            refine wpAnyH_take (i := 5) (v := ?_) rfl (by kernel_rfl) (by kernel_rfl) (by kernel_rfl) (fun _ _ _ h => h) (Or.inl ⟨by rfl, ?_⟩) (by assumption) ?_
            rotate_left
            · (intro w hSw; (try dsimp only at hSw); go_simp; first | done | with_reducible rfl)
            try simp only [Act.put, List.setIfInBounds_toArray, List.set_cons_zero, List.set_cons_succ]
            refine wpAnyH_take (i := 6) (v := ?_) rfl (by kernel_rfl) (by kernel_rfl) (by kernel_rfl) (fun _ _ _ h => h) (Or.inl ⟨by rfl, ?_⟩) (by assumption) ?_
            rotate_left
            · (intro w hSw; (try dsimp only at hSw); go_simp; first | done | with_reducible rfl)
            try simp only [Act.put, List.setIfInBounds_toArray, List.set_cons_zero, List.set_cons_succ]
            refine wpAnyH_take (i := 7) (v := ?_) rfl (by kernel_rfl) (by kernel_rfl) (by kernel_rfl) (fun _ _ _ h => h) (Or.inl ⟨by rfl, ?_⟩) (by assumption) ?_
            rotate_left
            · (intro w hSw; (try dsimp only at hSw); go_simp; first | done | with_reducible rfl)
            try simp only [Act.put, List.setIfInBounds_toArray, List.set_cons_zero, List.set_cons_succ]
            refine wpAnyH_take (i := 8) (v := ?_) rfl (by kernel_rfl) (by kernel_rfl) (by kernel_rfl) (fun _ _ _ h => h) (Or.inl ⟨by rfl, ?_⟩) (by assumption) ?_
            rotate_left
            · (intro w hSw; (try dsimp only at hSw); go_simp; first | done | with_reducible rfl)
            try simp only [Act.put, List.setIfInBounds_toArray, List.set_cons_zero, List.set_cons_succ]
            refine wpAnyH_take (i := 9) (v := ?_) rfl (by kernel_rfl) (by kernel_rfl) (by kernel_rfl) (fun _ _ _ h => h) (Or.inl ⟨by rfl, ?_⟩) (by assumption) ?_
            rotate_left
            · (intro w hSw; (try dsimp only at hSw); go_simp; first | done | with_reducible rfl)
            try simp only [Act.put, List.setIfInBounds_toArray, List.set_cons_zero, List.set_cons_succ]
            refine wpAnyH_take (i := 10) (v := ?_) rfl (by kernel_rfl) (by kernel_rfl) (by kernel_rfl) (fun _ _ _ h => h) (Or.inl ⟨by rfl, ?_⟩) (by assumption) ?_
            rotate_left
            · (intro w hSw; (try dsimp only at hSw); go_simp; first | done | with_reducible rfl)
            try simp only [Act.put, List.setIfInBounds_toArray, List.set_cons_zero, List.set_cons_succ]
            refine wpAnyH_ready (rs := [4, 11]) (by kernel_rfl) (by simp) ?_
            refine AllReadyH.cons rfl (fun K hK => ?_) ?_
            · go_simp
              refine hK.out _ _ ?_ (fun hHeld => ?_)
              · ((try dsimp only) <;> (first | (go_split_ands; exact ⟨by go_keep, by go_keep, by go_keep⟩) | exact ⟨kB0, kB1, kB2⟩ | (rw [hw8]; exact ⟨kB0, kB1, kB2⟩) | exact ⟨k6s, k6t, k6u⟩ | exact ⟨(World.cell?_setCell_other w6 ⟨rb, 3, none⟩ ⟨w2.heap.size, 0, none⟩ _ (by simp)).trans k6s, (World.cell?_setCell_other w6 ⟨rb, 3, none⟩ ⟨w.heap.size, 0, none⟩ _ (by simp)).trans k6t, (World.cell?_setCell_other w6 ⟨rb, 3, none⟩ ⟨wr.heap.size, 0, none⟩ _ (by simp)).trans k6u⟩))
              clear hK K
              refine wpAnyH_ready (rs := [11]) (by kernel_rfl) (by simp) ?_
              refine AllReadyH.cons rfl (fun K hK => ?_) ?_
              · go_simp
                refine hK.out _ _ ?_ (fun hHeld => ?_)
                · ((try dsimp only) <;> (first | (go_split_ands; exact ⟨by go_keep, by go_keep, by go_keep⟩) | exact ⟨kB0, kB1, kB2⟩ | (rw [hw8]; exact ⟨kB0, kB1, kB2⟩) | exact ⟨k6s, k6t, k6u⟩ | exact ⟨(World.cell?_setCell_other w6 ⟨rb, 3, none⟩ ⟨w2.heap.size, 0, none⟩ _ (by simp)).trans k6s, (World.cell?_setCell_other w6 ⟨rb, 3, none⟩ ⟨w.heap.size, 0, none⟩ _ (by simp)).trans k6t, (World.cell?_setCell_other w6 ⟨rb, 3, none⟩ ⟨wr.heap.size, 0, none⟩ _ (by simp)).trans k6u⟩))
                clear hK K
                refine wpAnyH_take (i := 12) (v := ?_) rfl (by kernel_rfl) (by kernel_rfl) (by kernel_rfl) (fun _ _ _ h => h) (Or.inl ⟨by rfl, ?_⟩) (by assumption) ?_
                rotate_left
                · (intro w hSw; (try dsimp only at hSw); go_simp; first | done | with_reducible rfl)
                try simp only [Act.put, List.setIfInBounds_toArray, List.set_cons_zero, List.set_cons_succ]
                refine wpAnyH_ready (rs := [13]) (by kernel_rfl) (by simp) ?_
                refine AllReadyH.cons rfl (fun K hK => ?_) ?_
                · go_simp
                  refine hK.out _ _ ?_ (fun hHeld => ?_)
                  · ((try dsimp only) <;> (first | (go_split_ands; exact ⟨by go_keep, by go_keep, by go_keep⟩) | exact ⟨kB0, kB1, kB2⟩ | (rw [hw8]; exact ⟨kB0, kB1, kB2⟩) | exact ⟨k6s, k6t, k6u⟩ | exact ⟨(World.cell?_setCell_other w6 ⟨rb, 3, none⟩ ⟨w2.heap.size, 0, none⟩ _ (by simp)).trans k6s, (World.cell?_setCell_other w6 ⟨rb, 3, none⟩ ⟨w.heap.size, 0, none⟩ _ (by simp)).trans k6t, (World.cell?_setCell_other w6 ⟨rb, 3, none⟩ ⟨wr.heap.size, 0, none⟩ _ (by simp)).trans k6u⟩))
                  clear hK K
                  refine wpAnyH_ready (rs := [14]) (by kernel_rfl) (by simp) ?_
                  refine AllReadyH.cons rfl (fun K hK => ?_) ?_
                  · (first | (refine step_append_lies _ (by rfl) _ _ _ (by rfl) base 62 i0 _ 2 40 Tryz.underlying55 hi hz0 hz1 hz2 rfl (by omega) ov m.length (m.flatMap encItm) (by rfl) hO6.drew ⟨w4.heap.size + 1, 0, none⟩ 1 1 [.string s.long, .slice (some ⟨w4.heap.size, 0, none⟩) 1 1] (by rfl) (by rfl) (World.news_of_block (cs := #[.string s.long, .slice (some ⟨w4.heap.size, 0, none⟩) 1 1]) (t := 62) (fr := (0, 0)) hN6) (by simp [Value.oneCell']) (by omega) (by unfold maxLen; omega) (by omega) (by simp; omega) (w4.heap.size + 2) (by simp [hZ6]) ?_; intro g6 cap6 w6 hown6 hgrow6 hat6 hlt6; have hgr8 : w8.grownBy w6 ov.ownBlock := ⟨hgrow6.os, hgrow6.tape, hgrow6.output, hgrow6.size, hgrow6.block⟩; have e6s := hgr8.block w2.heap.size (by omega) hne2; have e6t := hgr8.block w.heap.size (by omega) hne3; have e6u := hgr8.block wr.heap.size (by omega) hne4; have k6s := (World.cell?_of_block (w := w8) (a := ⟨w2.heap.size, 0, none⟩) e6s).trans kB0; have k6t := (World.cell?_of_block (w := w8) (a := ⟨w.heap.size, 0, none⟩) e6t).trans kB1; have k6u := (World.cell?_of_block (w := w8) (a := ⟨wr.heap.size, 0, none⟩) e6u).trans kB2; obtain ⟨k3, f3, hR, hMu⟩ := HGx.out g6 cap6 w6 (.slice (some ⟨w4.heap.size, 0, none⟩) 1 1) [v] (by rw [hw8]; exact hgr8) hown6 (one_str base w4 v) (tight_some _ _ _)))
                    refine hK.out _ _ ?_ (fun hHeld => ?_)
                    · ((try dsimp only) <;> (first | (go_split_ands; exact ⟨by go_keep, by go_keep, by go_keep⟩) | exact ⟨kB0, kB1, kB2⟩ | (rw [hw8]; exact ⟨kB0, kB1, kB2⟩) | exact ⟨k6s, k6t, k6u⟩ | exact ⟨(World.cell?_setCell_other w6 ⟨rb, 3, none⟩ ⟨w2.heap.size, 0, none⟩ _ (by simp)).trans k6s, (World.cell?_setCell_other w6 ⟨rb, 3, none⟩ ⟨w.heap.size, 0, none⟩ _ (by simp)).trans k6t, (World.cell?_setCell_other w6 ⟨rb, 3, none⟩ ⟨wr.heap.size, 0, none⟩ _ (by simp)).trans k6u⟩))
                    clear hK K
                    refine wpAnyH_take (i := 15) (v := ?_) rfl (by kernel_rfl) (by kernel_rfl) (by kernel_rfl) (fun _ _ _ h => h) (Or.inl ⟨by rfl, ?_⟩) (by assumption) ?_
                    rotate_left
                    · (intro w hSw; (try dsimp only at hSw); go_simp; first | done | with_reducible rfl)
                    try simp only [Act.put, List.setIfInBounds_toArray, List.set_cons_zero, List.set_cons_succ]
                    refine wpAnyH_take (i := 16) (v := ?_) rfl (by kernel_rfl) (by kernel_rfl) (by kernel_rfl) (fun _ _ _ h => h) (Or.inl ⟨by rfl, ?_⟩) (by assumption) ?_
                    rotate_left
                    · (intro w hSw; (try dsimp only at hSw); go_simp; first | done | with_reducible rfl)
                    try simp only [Act.put, List.setIfInBounds_toArray, List.set_cons_zero, List.set_cons_succ]
                    refine wpAnyH_ready (rs := [17]) (by kernel_rfl) (by simp) ?_
                    refine AllReadyH.cons rfl (fun K hK => ?_) ?_
                    · go_simp
                      refine hK.out _ _ ?_ (fun hHeld => ?_)
                      · ((try dsimp only) <;> (first | (go_split_ands; exact ⟨by go_keep, by go_keep, by go_keep⟩) | exact ⟨kB0, kB1, kB2⟩ | (rw [hw8]; exact ⟨kB0, kB1, kB2⟩) | exact ⟨k6s, k6t, k6u⟩ | exact ⟨(World.cell?_setCell_other w6 ⟨rb, 3, none⟩ ⟨w2.heap.size, 0, none⟩ _ (by simp)).trans k6s, (World.cell?_setCell_other w6 ⟨rb, 3, none⟩ ⟨w.heap.size, 0, none⟩ _ (by simp)).trans k6t, (World.cell?_setCell_other w6 ⟨rb, 3, none⟩ ⟨wr.heap.size, 0, none⟩ _ (by simp)).trans k6u⟩))
                      clear hK K
                      refine wpAnyH_done (by kernel_rfl) ?_ _
                      go_wp2
                      rw [Exit.noGoto_ret]
                      refine bodyPost_ret (v := .bool true) (results_tmp (t := 4) rfl _ _ _) rfl ?_
                      rw [HE2.out]
                      refine ⟨⟨rfl, ?_⟩, HM.out.trans hMu⟩
                      rw [HMm.out, ← HVd.out] at hR
                      show Rd base rb S ws _ (at' + (c0 + 0)) (out ++ (x0 ++ _))
                      rw [← List.append_assoc, Nat.add_zero]
                      exact hR
                    exact AllReadyH.nil
                  exact AllReadyH.nil
                exact AllReadyH.nil
              exact AllReadyH.nil
            refine AllReadyH.cons rfl (fun K hK => ?_) ?_
            · go_simp
              refine hK.out _ _ ?_ (fun hHeld => ?_)
              · ((try dsimp only) <;> (first | (go_split_ands; exact ⟨by go_keep, by go_keep, by go_keep⟩) | exact ⟨kB0, kB1, kB2⟩ | (rw [hw8]; exact ⟨kB0, kB1, kB2⟩) | exact ⟨k6s, k6t, k6u⟩ | exact ⟨(World.cell?_setCell_other w6 ⟨rb, 3, none⟩ ⟨w2.heap.size, 0, none⟩ _ (by simp)).trans k6s, (World.cell?_setCell_other w6 ⟨rb, 3, none⟩ ⟨w.heap.size, 0, none⟩ _ (by simp)).trans k6t, (World.cell?_setCell_other w6 ⟨rb, 3, none⟩ ⟨wr.heap.size, 0, none⟩ _ (by simp)).trans k6u⟩))
              clear hK K
              refine wpAnyH_take (i := 12) (v := ?_) rfl (by kernel_rfl) (by kernel_rfl) (by kernel_rfl) (fun _ _ _ h => h) (Or.inl ⟨by rfl, ?_⟩) (by assumption) ?_
              rotate_left
              · (intro w hSw; (try dsimp only at hSw); go_simp; first | done | with_reducible rfl)
              try simp only [Act.put, List.setIfInBounds_toArray, List.set_cons_zero, List.set_cons_succ]
              refine wpAnyH_ready (rs := [4, 13]) (by kernel_rfl) (by simp) ?_
              refine AllReadyH.cons rfl (fun K hK => ?_) ?_
              · go_simp
                refine hK.out _ _ ?_ (fun hHeld => ?_)
                · ((try dsimp only) <;> (first | (go_split_ands; exact ⟨by go_keep, by go_keep, by go_keep⟩) | exact ⟨kB0, kB1, kB2⟩ | (rw [hw8]; exact ⟨kB0, kB1, kB2⟩) | exact ⟨k6s, k6t, k6u⟩ | exact ⟨(World.cell?_setCell_other w6 ⟨rb, 3, none⟩ ⟨w2.heap.size, 0, none⟩ _ (by simp)).trans k6s, (World.cell?_setCell_other w6 ⟨rb, 3, none⟩ ⟨w.heap.size, 0, none⟩ _ (by simp)).trans k6t, (World.cell?_setCell_other w6 ⟨rb, 3, none⟩ ⟨wr.heap.size, 0, none⟩ _ (by simp)).trans k6u⟩))
                clear hK K
                refine wpAnyH_ready (rs := [13]) (by kernel_rfl) (by simp) ?_
                refine AllReadyH.cons rfl (fun K hK => ?_) ?_
                · go_simp
                  refine hK.out _ _ ?_ (fun hHeld => ?_)
                  · ((try dsimp only) <;> (first | (go_split_ands; exact ⟨by go_keep, by go_keep, by go_keep⟩) | exact ⟨kB0, kB1, kB2⟩ | (rw [hw8]; exact ⟨kB0, kB1, kB2⟩) | exact ⟨k6s, k6t, k6u⟩ | exact ⟨(World.cell?_setCell_other w6 ⟨rb, 3, none⟩ ⟨w2.heap.size, 0, none⟩ _ (by simp)).trans k6s, (World.cell?_setCell_other w6 ⟨rb, 3, none⟩ ⟨w.heap.size, 0, none⟩ _ (by simp)).trans k6t, (World.cell?_setCell_other w6 ⟨rb, 3, none⟩ ⟨wr.heap.size, 0, none⟩ _ (by simp)).trans k6u⟩))
                  clear hK K
                  refine wpAnyH_ready (rs := [14]) (by kernel_rfl) (by simp) ?_
                  refine AllReadyH.cons rfl (fun K hK => ?_) ?_
                  · (first | (refine step_append_lies _ (by rfl) _ _ _ (by rfl) base 62 i0 _ 2 40 Tryz.underlying55 hi hz0 hz1 hz2 rfl (by omega) ov m.length (m.flatMap encItm) (by rfl) hO6.drew ⟨w4.heap.size + 1, 0, none⟩ 1 1 [.string s.long, .slice (some ⟨w4.heap.size, 0, none⟩) 1 1] (by rfl) (by rfl) (World.news_of_block (cs := #[.string s.long, .slice (some ⟨w4.heap.size, 0, none⟩) 1 1]) (t := 62) (fr := (0, 0)) hN6) (by simp [Value.oneCell']) (by omega) (by unfold maxLen; omega) (by omega) (by simp; omega) (w4.heap.size + 2) (by simp [hZ6]) ?_; intro g6 cap6 w6 hown6 hgrow6 hat6 hlt6; have hgr8 : w8.grownBy w6 ov.ownBlock := ⟨hgrow6.os, hgrow6.tape, hgrow6.output, hgrow6.size, hgrow6.block⟩; have e6s := hgr8.block w2.heap.size (by omega) hne2; have e6t := hgr8.block w.heap.size (by omega) hne3; have e6u := hgr8.block wr.heap.size (by omega) hne4; have k6s := (World.cell?_of_block (w := w8) (a := ⟨w2.heap.size, 0, none⟩) e6s).trans kB0; have k6t := (World.cell?_of_block (w := w8) (a := ⟨w.heap.size, 0, none⟩) e6t).trans kB1; have k6u := (World.cell?_of_block (w := w8) (a := ⟨wr.heap.size, 0, none⟩) e6u).trans kB2; obtain ⟨k3, f3, hR, hMu⟩ := HGx.out g6 cap6 w6 (.slice (some ⟨w4.heap.size, 0, none⟩) 1 1) [v] (by rw [hw8]; exact hgr8) hown6 (one_str base w4 v) (tight_some _ _ _)))
                    refine hK.out _ _ ?_ (fun hHeld => ?_)
                    · ((try dsimp only) <;> (first | (go_split_ands; exact ⟨by go_keep, by go_keep, by go_keep⟩) | exact ⟨kB0, kB1, kB2⟩ | (rw [hw8]; exact ⟨kB0, kB1, kB2⟩) | exact ⟨k6s, k6t, k6u⟩ | exact ⟨(World.cell?_setCell_other w6 ⟨rb, 3, none⟩ ⟨w2.heap.size, 0, none⟩ _ (by simp)).trans k6s, (World.cell?_setCell_other w6 ⟨rb, 3, none⟩ ⟨w.heap.size, 0, none⟩ _ (by simp)).trans k6t, (World.cell?_setCell_other w6 ⟨rb, 3, none⟩ ⟨wr.heap.size, 0, none⟩ _ (by simp)).trans k6u⟩))
                    clear hK K
                    refine wpAnyH_take (i := 15) (v := ?_) rfl (by kernel_rfl) (by kernel_rfl) (by kernel_rfl) (fun _ _ _ h => h) (Or.inl ⟨by rfl, ?_⟩) (by assumption) ?_
                    rotate_left
                    · (intro w hSw; (try dsimp only at hSw); go_simp; first | done | with_reducible rfl)
                    try simp only [Act.put, List.setIfInBounds_toArray, List.set_cons_zero, List.set_cons_succ]
                    refine wpAnyH_take (i := 16) (v := ?_) rfl (by kernel_rfl) (by kernel_rfl) (by kernel_rfl) (fun _ _ _ h => h) (Or.inl ⟨by rfl, ?_⟩) (by assumption) ?_
                    rotate_left
                    · (intro w hSw; (try dsimp only at hSw); go_simp; first | done | with_reducible rfl)
                    try simp only [Act.put, List.setIfInBounds_toArray, List.set_cons_zero, List.set_cons_succ]
                    refine wpAnyH_ready (rs := [17]) (by kernel_rfl) (by simp) ?_
                    refine AllReadyH.cons rfl (fun K hK => ?_) ?_
                    · go_simp
                      refine hK.out _ _ ?_ (fun hHeld => ?_)
                      · ((try dsimp only) <;> (first | (go_split_ands; exact ⟨by go_keep, by go_keep, by go_keep⟩) | exact ⟨kB0, kB1, kB2⟩ | (rw [hw8]; exact ⟨kB0, kB1, kB2⟩) | exact ⟨k6s, k6t, k6u⟩ | exact ⟨(World.cell?_setCell_other w6 ⟨rb, 3, none⟩ ⟨w2.heap.size, 0, none⟩ _ (by simp)).trans k6s, (World.cell?_setCell_other w6 ⟨rb, 3, none⟩ ⟨w.heap.size, 0, none⟩ _ (by simp)).trans k6t, (World.cell?_setCell_other w6 ⟨rb, 3, none⟩ ⟨wr.heap.size, 0, none⟩ _ (by simp)).trans k6u⟩))
                      clear hK K
                      refine wpAnyH_done (by kernel_rfl) ?_ _
                      go_wp2
                      rw [Exit.noGoto_ret]
                      refine bodyPost_ret (v := .bool true) (results_tmp (t := 4) rfl _ _ _) rfl ?_
                      rw [HE2.out]
                      refine ⟨⟨rfl, ?_⟩, HM.out.trans hMu⟩
                      rw [HMm.out, ← HVd.out] at hR
                      show Rd base rb S ws _ (at' + (c0 + 0)) (out ++ (x0 ++ _))
                      rw [← List.append_assoc, Nat.add_zero]
                      exact hR
                    exact AllReadyH.nil
                  exact AllReadyH.nil
                exact AllReadyH.nil
              refine AllReadyH.cons rfl (fun K hK => ?_) ?_
              · go_simp
                refine hK.out _ _ ?_ (fun hHeld => ?_)
                · ((try dsimp only) <;> (first | (go_split_ands; exact ⟨by go_keep, by go_keep, by go_keep⟩) | exact ⟨kB0, kB1, kB2⟩ | (rw [hw8]; exact ⟨kB0, kB1, kB2⟩) | exact ⟨k6s, k6t, k6u⟩ | exact ⟨(World.cell?_setCell_other w6 ⟨rb, 3, none⟩ ⟨w2.heap.size, 0, none⟩ _ (by simp)).trans k6s, (World.cell?_setCell_other w6 ⟨rb, 3, none⟩ ⟨w.heap.size, 0, none⟩ _ (by simp)).trans k6t, (World.cell?_setCell_other w6 ⟨rb, 3, none⟩ ⟨wr.heap.size, 0, none⟩ _ (by simp)).trans k6u⟩))
                clear hK K
                refine wpAnyH_ready (rs := [4]) (by kernel_rfl) (by simp) ?_
                refine AllReadyH.cons rfl (fun K hK => ?_) ?_
                · go_simp
                  refine hK.out _ _ ?_ (fun hHeld => ?_)
                  · ((try dsimp only) <;> (first | (go_split_ands; exact ⟨by go_keep, by go_keep, by go_keep⟩) | exact ⟨kB0, kB1, kB2⟩ | (rw [hw8]; exact ⟨kB0, kB1, kB2⟩) | exact ⟨k6s, k6t, k6u⟩ | exact ⟨(World.cell?_setCell_other w6 ⟨rb, 3, none⟩ ⟨w2.heap.size, 0, none⟩ _ (by simp)).trans k6s, (World.cell?_setCell_other w6 ⟨rb, 3, none⟩ ⟨w.heap.size, 0, none⟩ _ (by simp)).trans k6t, (World.cell?_setCell_other w6 ⟨rb, 3, none⟩ ⟨wr.heap.size, 0, none⟩ _ (by simp)).trans k6u⟩))
                  clear hK K
                  refine wpAnyH_ready (rs := [14]) (by kernel_rfl) (by simp) ?_
                  refine AllReadyH.cons rfl (fun K hK => ?_) ?_
                  · (first | (refine step_append_lies _ (by rfl) _ _ _ (by rfl) base 62 i0 _ 2 40 Tryz.underlying55 hi hz0 hz1 hz2 rfl (by omega) ov m.length (m.flatMap encItm) (by rfl) hO6.drew ⟨w4.heap.size + 1, 0, none⟩ 1 1 [.string s.long, .slice (some ⟨w4.heap.size, 0, none⟩) 1 1] (by rfl) (by rfl) (World.news_of_block (cs := #[.string s.long, .slice (some ⟨w4.heap.size, 0, none⟩) 1 1]) (t := 62) (fr := (0, 0)) hN6) (by simp [Value.oneCell']) (by omega) (by unfold maxLen; omega) (by omega) (by simp; omega) (w4.heap.size + 2) (by simp [hZ6]) ?_; intro g6 cap6 w6 hown6 hgrow6 hat6 hlt6; have hgr8 : w8.grownBy w6 ov.ownBlock := ⟨hgrow6.os, hgrow6.tape, hgrow6.output, hgrow6.size, hgrow6.block⟩; have e6s := hgr8.block w2.heap.size (by omega) hne2; have e6t := hgr8.block w.heap.size (by omega) hne3; have e6u := hgr8.block wr.heap.size (by omega) hne4; have k6s := (World.cell?_of_block (w := w8) (a := ⟨w2.heap.size, 0, none⟩) e6s).trans kB0; have k6t := (World.cell?_of_block (w := w8) (a := ⟨w.heap.size, 0, none⟩) e6t).trans kB1; have k6u := (World.cell?_of_block (w := w8) (a := ⟨wr.heap.size, 0, none⟩) e6u).trans kB2; obtain ⟨k3, f3, hR, hMu⟩ := HGx.out g6 cap6 w6 (.slice (some ⟨w4.heap.size, 0, none⟩) 1 1) [v] (by rw [hw8]; exact hgr8) hown6 (one_str base w4 v) (tight_some _ _ _)))
                    refine hK.out _ _ ?_ (fun hHeld => ?_)
                    · ((try dsimp only) <;> (first | (go_split_ands; exact ⟨by go_keep, by go_keep, by go_keep⟩) | exact ⟨kB0, kB1, kB2⟩ | (rw [hw8]; exact ⟨kB0, kB1, kB2⟩) | exact ⟨k6s, k6t, k6u⟩ | exact ⟨(World.cell?_setCell_other w6 ⟨rb, 3, none⟩ ⟨w2.heap.size, 0, none⟩ _ (by simp)).trans k6s, (World.cell?_setCell_other w6 ⟨rb, 3, none⟩ ⟨w.heap.size, 0, none⟩ _ (by simp)).trans k6t, (World.cell?_setCell_other w6 ⟨rb, 3, none⟩ ⟨wr.heap.size, 0, none⟩ _ (by simp)).trans k6u⟩))
                    clear hK K
                    refine wpAnyH_take (i := 15) (v := ?_) rfl (by kernel_rfl) (by kernel_rfl) (by kernel_rfl) (fun _ _ _ h => h) (Or.inl ⟨by rfl, ?_⟩) (by assumption) ?_
                    rotate_left
                    · (intro w hSw; (try dsimp only at hSw); go_simp; first | done | with_reducible rfl)
                    try simp only [Act.put, List.setIfInBounds_toArray, List.set_cons_zero, List.set_cons_succ]
                    refine wpAnyH_take (i := 16) (v := ?_) rfl (by kernel_rfl) (by kernel_rfl) (by kernel_rfl) (fun _ _ _ h => h) (Or.inl ⟨by rfl, ?_⟩) (by assumption) ?_
                    rotate_left
                    · (intro w hSw; (try dsimp only at hSw); go_simp; first | done | with_reducible rfl)
                    try simp only [Act.put, List.setIfInBounds_toArray, List.set_cons_zero, List.set_cons_succ]
                    refine wpAnyH_ready (rs := [17]) (by kernel_rfl) (by simp) ?_
                    refine AllReadyH.cons rfl (fun K hK => ?_) ?_
                    · go_simp
                      refine hK.out _ _ ?_ (fun hHeld => ?_)
                      · ((try dsimp only) <;> (first | (go_split_ands; exact ⟨by go_keep, by go_keep, by go_keep⟩) | exact ⟨kB0, kB1, kB2⟩ | (rw [hw8]; exact ⟨kB0, kB1, kB2⟩) | exact ⟨k6s, k6t, k6u⟩ | exact ⟨(World.cell?_setCell_other w6 ⟨rb, 3, none⟩ ⟨w2.heap.size, 0, none⟩ _ (by simp)).trans k6s, (World.cell?_setCell_other w6 ⟨rb, 3, none⟩ ⟨w.heap.size, 0, none⟩ _ (by simp)).trans k6t, (World.cell?_setCell_other w6 ⟨rb, 3, none⟩ ⟨wr.heap.size, 0, none⟩ _ (by simp)).trans k6u⟩))
                      clear hK K
                      refine wpAnyH_done (by kernel_rfl) ?_ _
                      go_wp2
                      rw [Exit.noGoto_ret]
                      refine bodyPost_ret (v := .bool true) (results_tmp (t := 4) rfl _ _ _) rfl ?_
                      rw [HE2.out]
                      refine ⟨⟨rfl, ?_⟩, HM.out.trans hMu⟩
                      rw [HMm.out, ← HVd.out] at hR
                      show Rd base rb S ws _ (at' + (c0 + 0)) (out ++ (x0 ++ _))
                      rw [← List.append_assoc, Nat.add_zero]
                      exact hR
                    exact AllReadyH.nil
                  exact AllReadyH.nil
                exact AllReadyH.nil
              exact AllReadyH.nil
            exact AllReadyH.nil
          · rw [if_neg hone] at hE1
            have HP := Lib.hid (fun w4 (hb4 : Below wr.heap.size wr w4) => args_put base rb S ws (at' + c0) (out ++ x0) s w4 (by have := hb4.size; omega) hc0 hlen hsm.1 hsm.2 (by rw [List.length_append]; omega) (HRr.out.below hb4))
            by_cases hlast : k + 1 = t.size
            · have hl : ((k : Int) == (t.size : Int) - 1) = true := by rw [beq_iff_eq]; omega
              by_cases hgt : 1 < s.needs
              · have hq : (s.needs == 1) = false := by rw [beq_eq_false_iff_ne]; omega
                rcases hap : aput s (ws.drop (at' + c0 + 1)) with _ | x
                · simp only [hap] at hE1
                  have HE2 := Lib.hid hE1
                  simp only [hap, spcV] at HP
                  clear hE1 hnil
                  go_wp2_with (first | (go_at_call 45; refine HF.out.mono ?_; rintro e w2 ⟨rfl, hb2⟩; have hb3 := hb1.trans (hb2.mono hb1.size); have k5 := ((bcell hb2).1 wr.heap.size 0 (by simp)).trans (Boxed.new wr 3 (.int .i64 (k : Int))).cell; have l5 : wr.heap.size < w2.heap.size := (by have := hb2.size; simp at this; omega); have k6 := ((bcell hb3).1 w.heap.size 0 hXl).trans hXc; have l6 : w.heap.size < w2.heap.size := (by omega); have hb4 := hb3.alloc hb3.size (.cells #[.string s.long, .int .u8 (s.short.toNat : Int), .int .i64 s.needs] 30)) | (go_at_call 47; refine (HP.out _ hb4).mono ?_; rintro e w5 ⟨rfl, hM5⟩))
                  rw [Exit.noGoto_ret]
                  refine bodyPost_ret (v := .bool false) (results_tmp (t := 4) rfl _ _ _) rfl ?_
                  rw [HE2.out]
                  exact ⟨rfl, HM.out.trans ((mut_below hb4 (by omega)).trans hM5)⟩
                · simp only [hap] at hE1
                  have HE2 := Lib.hid hE1
                  have HA := Lib.hid (aput_le hap)
                  simp only [hap, spcV] at HP
                  clear hE1 hnil
                  go_wp2_with (first | (go_at_call 45; refine HF.out.mono ?_; rintro e w2 ⟨rfl, hb2⟩; have hb3 := hb1.trans (hb2.mono hb1.size); have k5 := ((bcell hb2).1 wr.heap.size 0 (by simp)).trans (Boxed.new wr 3 (.int .i64 (k : Int))).cell; have l5 : wr.heap.size < w2.heap.size := (by have := hb2.size; simp at this; omega); have k6 := ((bcell hb3).1 w.heap.size 0 hXl).trans hXc; have l6 : w.heap.size < w2.heap.size := (by omega); have hb4 := hb3.alloc hb3.size (.cells #[.string s.long, .int .u8 (s.short.toNat : Int), .int .i64 s.needs] 30)) | (go_at_call 47; refine (HP.out _ hb4).mono ?_; rintro e w5 ⟨⟨rfl, hR5⟩, hM5⟩))
                  go_roundw
                  case rel =>
                    have hle := HA.out
                    rw [List.length_drop] at hle
                    refine ⟨k + 1, c0 + x.2, x0 ++ [x.1], by omega, by go_num, by omega, by rw [List.length_append]; simp; omega, hM5.boxed ((hb4.block _ hXl).trans HX.out) (by omega) (by decide), ?_, HM.out.trans ((mut_below hb4 (by omega)).trans hM5), ?_⟩
                    · rw [← List.append_assoc, ← Nat.add_assoc]; exact hR5
                    · show _ = _
                      rw [HE2.out, sjoin_step, List.drop_drop, show at' + c0 + 1 + x.2 = at' + (c0 + x.2) + 1 from by omega]
                      cases ashort S (ws.drop (at' + (c0 + x.2) + 1)) (t.data.toList.drop (k + 1)) <;> rfl
                  case measure => simp [RowKit.intOf]; omega
              · by_cases hq1 : s.needs = 1
                · have hq : (s.needs == 1) = true := by rw [beq_iff_eq]; exact hq1
                  clear hq1
                  rcases hap : aput s (ws.drop (at' + c0 + 1)) with _ | x
                  · simp only [hap] at hE1
                    have HE2 := Lib.hid hE1
                    simp only [hap, spcV] at HP
                    clear hE1 hnil
                    go_wp2_with (first | (go_at_call 45; refine HF.out.mono ?_; rintro e w2 ⟨rfl, hb2⟩; have hb3 := hb1.trans (hb2.mono hb1.size); have k5 := ((bcell hb2).1 wr.heap.size 0 (by simp)).trans (Boxed.new wr 3 (.int .i64 (k : Int))).cell; have l5 : wr.heap.size < w2.heap.size := (by have := hb2.size; simp at this; omega); have k6 := ((bcell hb3).1 w.heap.size 0 hXl).trans hXc; have l6 : w.heap.size < w2.heap.size := (by omega); have hb4 := hb3.alloc hb3.size (.cells #[.string s.long, .int .u8 (s.short.toNat : Int), .int .i64 s.needs] 30)) | (go_at_call 47; refine (HP.out _ hb4).mono ?_; rintro e w5 ⟨rfl, hM5⟩))
                    rw [Exit.noGoto_ret]
                    refine bodyPost_ret (v := .bool false) (results_tmp (t := 4) rfl _ _ _) rfl ?_
                    rw [HE2.out]
                    exact ⟨rfl, HM.out.trans ((mut_below hb4 (by omega)).trans hM5)⟩
                  · simp only [hap] at hE1
                    have HE2 := Lib.hid hE1
                    have HA := Lib.hid (aput_le hap)
                    simp only [hap, spcV] at HP
                    clear hE1 hnil
                    go_wp2_with (first | (go_at_call 45; refine HF.out.mono ?_; rintro e w2 ⟨rfl, hb2⟩; have hb3 := hb1.trans (hb2.mono hb1.size); have k5 := ((bcell hb2).1 wr.heap.size 0 (by simp)).trans (Boxed.new wr 3 (.int .i64 (k : Int))).cell; have l5 : wr.heap.size < w2.heap.size := (by have := hb2.size; simp at this; omega); have k6 := ((bcell hb3).1 w.heap.size 0 hXl).trans hXc; have l6 : w.heap.size < w2.heap.size := (by omega); have hb4 := hb3.alloc hb3.size (.cells #[.string s.long, .int .u8 (s.short.toNat : Int), .int .i64 s.needs] 30)) | (go_at_call 47; refine (HP.out _ hb4).mono ?_; rintro e w5 ⟨⟨rfl, hR5⟩, hM5⟩))
                    go_roundw
                    case rel =>
                      have hle := HA.out
                      rw [List.length_drop] at hle
                      refine ⟨k + 1, c0 + x.2, x0 ++ [x.1], by omega, by go_num, by omega, by rw [List.length_append]; simp; omega, hM5.boxed ((hb4.block _ hXl).trans HX.out) (by omega) (by decide), ?_, HM.out.trans ((mut_below hb4 (by omega)).trans hM5), ?_⟩
                      · rw [← List.append_assoc, ← Nat.add_assoc]; exact hR5
                      · show _ = _
                        rw [HE2.out, sjoin_step, List.drop_drop, show at' + c0 + 1 + x.2 = at' + (c0 + x.2) + 1 from by omega]
                        cases ashort S (ws.drop (at' + (c0 + x.2) + 1)) (t.data.toList.drop (k + 1)) <;> rfl
                    case measure => simp [RowKit.intOf]; omega
                · have hq : (s.needs == 1) = false := by rw [beq_eq_false_iff_ne]; exact hq1
                  rcases hap : aput s (ws.drop (at' + c0 + 1)) with _ | x
                  · simp only [hap] at hE1
                    have HE2 := Lib.hid hE1
                    simp only [hap, spcV] at HP
                    clear hE1 hnil
                    go_wp2_with (first | (go_at_call 45; refine HF.out.mono ?_; rintro e w2 ⟨rfl, hb2⟩; have hb3 := hb1.trans (hb2.mono hb1.size); have k5 := ((bcell hb2).1 wr.heap.size 0 (by simp)).trans (Boxed.new wr 3 (.int .i64 (k : Int))).cell; have l5 : wr.heap.size < w2.heap.size := (by have := hb2.size; simp at this; omega); have k6 := ((bcell hb3).1 w.heap.size 0 hXl).trans hXc; have l6 : w.heap.size < w2.heap.size := (by omega); have hb4 := hb3.alloc hb3.size (.cells #[.string s.long, .int .u8 (s.short.toNat : Int), .int .i64 s.needs] 30)) | (go_at_call 47; refine (HP.out _ hb4).mono ?_; rintro e w5 ⟨rfl, hM5⟩))
                    rw [Exit.noGoto_ret]
                    refine bodyPost_ret (v := .bool false) (results_tmp (t := 4) rfl _ _ _) rfl ?_
                    rw [HE2.out]
                    exact ⟨rfl, HM.out.trans ((mut_below hb4 (by omega)).trans hM5)⟩
                  · simp only [hap] at hE1
                    have HE2 := Lib.hid hE1
                    have HA := Lib.hid (aput_le hap)
                    simp only [hap, spcV] at HP
                    clear hE1 hnil
                    go_wp2_with (first | (go_at_call 45; refine HF.out.mono ?_; rintro e w2 ⟨rfl, hb2⟩; have hb3 := hb1.trans (hb2.mono hb1.size); have k5 := ((bcell hb2).1 wr.heap.size 0 (by simp)).trans (Boxed.new wr 3 (.int .i64 (k : Int))).cell; have l5 : wr.heap.size < w2.heap.size := (by have := hb2.size; simp at this; omega); have k6 := ((bcell hb3).1 w.heap.size 0 hXl).trans hXc; have l6 : w.heap.size < w2.heap.size := (by omega); have hb4 := hb3.alloc hb3.size (.cells #[.string s.long, .int .u8 (s.short.toNat : Int), .int .i64 s.needs] 30)) | (go_at_call 47; refine (HP.out _ hb4).mono ?_; rintro e w5 ⟨⟨rfl, hR5⟩, hM5⟩))
                    go_roundw
                    case rel =>
                      have hle := HA.out
                      rw [List.length_drop] at hle
                      refine ⟨k + 1, c0 + x.2, x0 ++ [x.1], by omega, by go_num, by omega, by rw [List.length_append]; simp; omega, hM5.boxed ((hb4.block _ hXl).trans HX.out) (by omega) (by decide), ?_, HM.out.trans ((mut_below hb4 (by omega)).trans hM5), ?_⟩
                      · rw [← List.append_assoc, ← Nat.add_assoc]; exact hR5
                      · show _ = _
                        rw [HE2.out, sjoin_step, List.drop_drop, show at' + c0 + 1 + x.2 = at' + (c0 + x.2) + 1 from by omega]
                        cases ashort S (ws.drop (at' + (c0 + x.2) + 1)) (t.data.toList.drop (k + 1)) <;> rfl
                    case measure => simp [RowKit.intOf]; omega
            · have hl : ((k : Int) == (t.size : Int) - 1) = false := by rw [beq_eq_false_iff_ne]; omega
              have hne : t.data.toList.drop (k + 1) ≠ [] := fun e => hlast (hnil.1 e)
              have hgt : ¬ 1 < s.needs := fun e => hbad ⟨e, hne⟩
              have hq1 : s.needs ≠ 1 := fun e => hone ⟨e, hne⟩
              have hq : (s.needs == 1) = false := by rw [beq_eq_false_iff_ne]; exact hq1
              rcases hap : aput s (ws.drop (at' + c0 + 1)) with _ | x
              · simp only [hap] at hE1
                have HE2 := Lib.hid hE1
                simp only [hap, spcV] at HP
                clear hE1 hnil
                go_wp2_with (first | (go_at_call 45; refine HF.out.mono ?_; rintro e w2 ⟨rfl, hb2⟩; have hb3 := hb1.trans (hb2.mono hb1.size); have k5 := ((bcell hb2).1 wr.heap.size 0 (by simp)).trans (Boxed.new wr 3 (.int .i64 (k : Int))).cell; have l5 : wr.heap.size < w2.heap.size := (by have := hb2.size; simp at this; omega); have k6 := ((bcell hb3).1 w.heap.size 0 hXl).trans hXc; have l6 : w.heap.size < w2.heap.size := (by omega); have hb4 := hb3.alloc hb3.size (.cells #[.string s.long, .int .u8 (s.short.toNat : Int), .int .i64 s.needs] 30)) | (go_at_call 47; refine (HP.out _ hb4).mono ?_; rintro e w5 ⟨rfl, hM5⟩))
                rw [Exit.noGoto_ret]
                refine bodyPost_ret (v := .bool false) (results_tmp (t := 4) rfl _ _ _) rfl ?_
                rw [HE2.out]
                exact ⟨rfl, HM.out.trans ((mut_below hb4 (by omega)).trans hM5)⟩
              · simp only [hap] at hE1
                have HE2 := Lib.hid hE1
                have HA := Lib.hid (aput_le hap)
                simp only [hap, spcV] at HP
                clear hE1 hnil
                go_wp2_with (first | (go_at_call 45; refine HF.out.mono ?_; rintro e w2 ⟨rfl, hb2⟩; have hb3 := hb1.trans (hb2.mono hb1.size); have k5 := ((bcell hb2).1 wr.heap.size 0 (by simp)).trans (Boxed.new wr 3 (.int .i64 (k : Int))).cell; have l5 : wr.heap.size < w2.heap.size := (by have := hb2.size; simp at this; omega); have k6 := ((bcell hb3).1 w.heap.size 0 hXl).trans hXc; have l6 : w.heap.size < w2.heap.size := (by omega); have hb4 := hb3.alloc hb3.size (.cells #[.string s.long, .int .u8 (s.short.toNat : Int), .int .i64 s.needs] 30)) | (go_at_call 47; refine (HP.out _ hb4).mono ?_; rintro e w5 ⟨⟨rfl, hR5⟩, hM5⟩))
                go_roundw
                case rel =>
                  have hle := HA.out
                  rw [List.length_drop] at hle
                  refine ⟨k + 1, c0 + x.2, x0 ++ [x.1], by omega, by go_num, by omega, by rw [List.length_append]; simp; omega, hM5.boxed ((hb4.block _ hXl).trans HX.out) (by omega) (by decide), ?_, HM.out.trans ((mut_below hb4 (by omega)).trans hM5), ?_⟩
                  · rw [← List.append_assoc, ← Nat.add_assoc]; exact hR5
                  · show _ = _
                    rw [HE2.out, sjoin_step, List.drop_drop, show at' + c0 + 1 + x.2 = at' + (c0 + x.2) + 1 from by omega]
                    cases ashort S (ws.drop (at' + (c0 + x.2) + 1)) (t.data.toList.drop (k + 1)) <;> rfl
                case measure => simp [RowKit.intOf]; omega
    · have hE : ashort S (ws.drop (at' + 1)) t.data.toList = some (x0, c0) := by
        have hd : t.data.toList.drop k = [] := List.drop_eq_nil_of_le (by rw [← Lib.size_eq]; omega)
        rw [HE.out, hd, ashort]; simp [sjoin]
      have HE2 := Lib.hid hE
      clear hE
      go_wp2
      try rw [Exit.noGoto_ret]
      refine bodyPost_ret (v := .bool true) (results_tmp (t := 4) rfl _ _ _) rfl ?_
      rw [HE2.out]
      exact ⟨⟨rfl, HRr.out⟩, HM.out⟩

end Go.Proofs.YtnmlmbgaljnjeaaGreatDoor
