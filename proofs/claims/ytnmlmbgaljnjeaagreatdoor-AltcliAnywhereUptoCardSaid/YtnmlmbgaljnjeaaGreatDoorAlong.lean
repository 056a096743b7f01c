/- args: the reader's long. Conditions: lengths below 2^32. -/
import Derived.Test.YtnmlmbgaljnjeaaGreatDoorAop
set_option linter.unusedVariables false
set_option linter.unusedSimpArgs false
namespace Go.Proofs.YtnmlmbgaljnjeaaGreatDoor
open Go.RowKit

theorem Rd.below {base rb : Nat} {S : List Spc} {ws : List ByteArray} {w w' : World} {at' : Nat} {out : List Itm} (h : Rd base rb S ws w at' out) (k : Below w.heap.size w w') : Rd base rb S ws w' at' out := by
  obtain ⟨sv, wv, ov, m, hrb, hS, hW, hbr, hO, hm, hV⟩ := h
  exact ⟨sv, wv, ov, m, (k.block _ (Array.getElem?_eq_some_iff.1 hrb).1).trans hrb, hS.below k, hW.below k, hbr, own_below hO k, hm, hV.below k⟩
theorem Rd.find {base rb : Nat} {S : List Spc} {ws : List ByteArray} {w : World} {at' : Nat} {out : List Itm} (h : Rd base rb S ws w at' out) (g : Nat) (lb : Array Value) (p : Spc → Bool) (hl : S.length ≤ 140737488355328)
    (hF : ∀ W, Below w.heap.size w W → W.cell? ⟨w.heap.size, 0, none⟩ = some (.func (.func g) #[] lb) → ∀ s ∈ S, Calls Tryz.prog 58 #[spcV s, .pointer (some ⟨w.heap.size, 0, none⟩)] W fun e w' => e = .returned (.bool (named p s)) ∧ Below W.heap.size W w') :
    Calls Tryz.prog 45 #[.pointer (some ⟨rb, 0, none⟩), .func (.func g) #[] lb] w fun e w' =>
      e = .returned (.tuple #[spcV ((sfind S p).getD spc0), .bool (sfind S p).isSome]) ∧ Below w.heap.size w w' := by
  obtain ⟨sv, wv, ov, m, hrb, hS, hW, hbr, hO, hm, hV⟩ := h
  exact args_find base rb sv wv ov g lb at' S p w hl hrb hS hF
theorem sfind_mem {S : List Spc} {p : Spc → Bool} {s : Spc} (h : sfind S p = some s) : s ∈ S := List.mem_of_find?_eq_some h

/-- needs within bounds -/
def Meek (S : List Spc) : Prop := S.length ≤ 1048576 ∧ ∀ s ∈ S, s.needs ≤ 1048576 ∧ -1048576 ≤ s.needs

set_option maxRecDepth 100000 in
set_option maxHeartbeats 4000000 in
theorem args_long (base rb : Nat) (S : List Spc) (ws : List ByteArray) (at' : Nat) (out : List Itm) (t : ByteArray) (w : World) (hb : base ≤ w.heap.size) (hat : at' < ws.length) (hlen : ws.length ≤ 1048576) (hS : Meek S)
    (hout : out.length ≤ 4294967296) (ht : t.size < 4294967296) (h : Rd base rb S ws w at' out) :
    Calls Tryz.prog 34 #[.pointer (some ⟨rb, 0, none⟩), .string t] w fun e w' =>
      (match along S t (ws.drop (at' + 1)) with
       | none => e = .returned (.bool false)
       | some x => e = .returned (.bool true) ∧ Rd base rb S ws w' (at' + x.2) (out ++ x.1)) ∧ Mut base rb w w' := by
  unfold along
  have HC := Lib.hid (fun W => strings_Cut1 t 61 W ht)
  obtain ⟨n, hn⟩ : ∃ n, (cut1 t 61).1 = n := ⟨_, rfl⟩
  obtain ⟨v, hv⟩ : ∃ v, (cut1 t 61).2.1 = v := ⟨_, rfl⟩
  obtain ⟨gv, hgv⟩ : ∃ gv, (cut1 t 61).2.2 = gv := ⟨_, rfl⟩
  simp only [hn, hv, hgv] at HC ⊢
  clear hn hv hgv
  have HR := Lib.hid h
  have HS := Lib.hid hS
  have hF := fun (w1 : World) (hb1 : Below w.heap.size w w1) => Rd.find (h.below (hb1.trans (((Below.refl w1.heap.size w1).alloc (Nat.le_refl _) (.cells #[.string n] 9)).mono hb1.size))) 46 #[.pointer (some ⟨w1.heap.size, 0, none⟩)] (fun s => s.long.toList == n.toList) (by have := hS.1; omega)
    (fun W hW hc s hs => args_find1L s _ w1.heap.size n W hc (((bcell hW).1 _ 0 (by simp)).trans (Boxed.new w1 9 (.string n)).cell))
  have HF := Lib.hid hF
  clear hF h hS
  rcases hfd : sfind S (fun s => s.long.toList == n.toList) with _ | s
  · simp only [hfd, Option.getD_none, Option.isSome_none, spcV, spc0] at HF ⊢
    go_enter Tryz.func34, Tryz.ntmps34
    go_wp2_with (first | (go_at_call 44; refine (HC.out _).mono ?_; rintro e w1 ⟨rfl, nd, hw1⟩; have hb1 : Below w.heap.size w w1 := (by rw [hw1]; exact below_drewN (Below.refl _ _) _); clear hw1) | (go_at_call 45; refine (HF.out w1 hb1).mono ?_; rintro e w2 ⟨rfl, hb2⟩; have hb3 := (hb1.trans (((Below.refl w1.heap.size w1).alloc (Nat.le_refl _) (.cells #[.string n] 9)).mono hb1.size)).trans (hb2.mono (by have := hb1.size; simp; omega)); have hb4 := hb3.alloc hb3.size (.cells #[.string ⟨#[]⟩, .int .u8 0, .int .i64 0] 30)))
    go_ret
    exact ⟨rfl, mut_below hb4 hb⟩
  · have hsm := HS.out.2 s (sfind_mem hfd)
    simp only [hfd, Option.getD_some, Option.isSome_some, spcV] at HF ⊢
    cases gv
    · rw [if_neg (by simp)]
      have HP := Lib.hid (fun w4 (hb4 : Below w.heap.size w w4) => args_put base rb S ws at' out s w4 (by have := hb4.size; omega) hat hlen hsm.1 hsm.2 hout (HR.out.below hb4))
      rcases hap : aput s (ws.drop (at' + 1)) with _ | x
      · simp only [hap, Option.map_none, spcV] at HP ⊢
        go_enter Tryz.func34, Tryz.ntmps34
        go_wp2_with (first | (go_at_call 44; refine (HC.out _).mono ?_; rintro e w1 ⟨rfl, nd, hw1⟩; have hb1 : Below w.heap.size w w1 := (by rw [hw1]; exact below_drewN (Below.refl _ _) _); clear hw1) | (go_at_call 45; refine (HF.out w1 hb1).mono ?_; rintro e w2 ⟨rfl, hb2⟩; have hb3 := (hb1.trans (((Below.refl w1.heap.size w1).alloc (Nat.le_refl _) (.cells #[.string n] 9)).mono hb1.size)).trans (hb2.mono (by have := hb1.size; simp; omega)); have hb4 := hb3.alloc hb3.size (.cells #[.string s.long, .int .u8 (s.short.toNat : Int), .int .i64 s.needs] 30)) | (go_at_call 47; refine (HP.out _ hb4).mono ?_; rintro e w5 ⟨rfl, hM5⟩))
        go_ret
        exact ⟨rfl, (mut_below hb4 hb).trans hM5⟩
      · simp only [hap, Option.map_some, spcV] at HP ⊢
        go_enter Tryz.func34, Tryz.ntmps34
        go_wp2_with (first | (go_at_call 44; refine (HC.out _).mono ?_; rintro e w1 ⟨rfl, nd, hw1⟩; have hb1 : Below w.heap.size w w1 := (by rw [hw1]; exact below_drewN (Below.refl _ _) _); clear hw1) | (go_at_call 45; refine (HF.out w1 hb1).mono ?_; rintro e w2 ⟨rfl, hb2⟩; have hb3 := (hb1.trans (((Below.refl w1.heap.size w1).alloc (Nat.le_refl _) (.cells #[.string n] 9)).mono hb1.size)).trans (hb2.mono (by have := hb1.size; simp; omega)); have hb4 := hb3.alloc hb3.size (.cells #[.string s.long, .int .u8 (s.short.toNat : Int), .int .i64 s.needs] 30)) | (go_at_call 47; refine (HP.out _ hb4).mono ?_; rintro e w5 ⟨⟨rfl, hR5⟩, hM5⟩))
        go_ret
        exact ⟨⟨rfl, hR5⟩, (mut_below hb4 hb).trans hM5⟩
    · rw [if_pos rfl]
      by_cases hn1 : s.needs = 1
      · rw [if_pos hn1]
        have hnb : (s.needs == 1) = true := by simpa using hn1
        have hnb2 : (s.needs != 1) = false := by simpa using hn1
        obtain ⟨sv, wv, ov, m, hrb, hSp, hW, hbr, hO, hm, hV⟩ := HR.out
        obtain ⟨i0, hi, hz0, hz1, hz2⟩ := info_parts rdInfo
        have hrl : rb < w.heap.size := (Array.getElem?_eq_some_iff.1 hrb).1
        have hml : m.length ≤ 4294967296 := by rw [← hm, List.length_map] at hout; exact hout
        have hG := fun w1 hb1 g6 cap6 w6 xv h1 h2 h3 h4 => out_grown (g6 := g6) (cap6 := cap6) (w6 := w6) (w1 := w1) (n := s.long) (xv := xv) (vals := [v]) hb hrb hSp hW hbr hO hV hb1 h3 h4 h1 h2
        have HG := Lib.hid hG
        have HO := Lib.hid hO
        have HM := Lib.hid hm
        have HRB := Lib.hid hrb
        clear hG hO hm hV hSp hW hrb
        go_enter Tryz.func34, Tryz.ntmps34
        go_wp2_with (first | (go_at_call 44; refine (HC.out _).mono ?_; rintro e w1 ⟨rfl, nd, hw1⟩; have hb1 : Below w.heap.size w w1 := (by rw [hw1]; exact below_drewN (Below.refl _ _) _); clear hw1) | (go_at_call 45; refine (HF.out w1 hb1).mono ?_; rintro e w2 ⟨rfl, hb2⟩; have hb3 := (hb1.trans (((Below.refl w1.heap.size w1).alloc (Nat.le_refl _) (.cells #[.string n] 9)).mono hb1.size)).trans (hb2.mono (by have := hb1.size; simp; omega)); have hb4 := hb3.alloc hb3.size (.cells #[.string s.long, .int .u8 (s.short.toNat : Int), .int .i64 s.needs] 30)))
        rw [hn1] at hb4
        obtain ⟨w4, hw4⟩ : ∃ w4, w4 = w2.alloc (.cells #[.string s.long, .int .u8 (s.short.toNat : Int), .int .i64 1] 30) := ⟨_, rfl⟩
        rw [← hw4] at hb4 ⊢
        have hz4 : w4.heap.size = w2.heap.size + 1 := by rw [hw4]; simp
        have k40 : w4.cell? ⟨w2.heap.size, 0, none⟩ = some (.string s.long) := by
          have e := heap_alloc_new w2 (.cells #[.string s.long, .int .u8 (s.short.toNat : Int), .int .i64 1] 30)
          rw [hw4]
          unfold World.cell?
          rw [e]; rfl
        have hr4 := (hb4.block _ hrl).trans HRB.out
        have k43 : w4.cell? ⟨rb, 3, none⟩ = some ov := by simp [World.cell?, hr4]
        have hO4 := own_below HO.out hb4
        clear hw4
        have hsz2 := hb3.size
        have hbA := (Below.refl w4.heap.size w4).alloc (Nat.le_refl _) (.cells #[.string v] 9)
        have hbB := hbA.alloc hbA.size (.cells #[.string s.long, .slice (some ⟨w4.heap.size, 0, none⟩) 1 1] 62)
        have hb5 := hb4.trans (hbA.mono hb4.size)
        have kB := ((bcell hbB).1 w2.heap.size 0 (by omega)).trans k40
        have kB3 := ((bcell hbB).1 rb 3 (by omega)).trans k43
        have kA3 := ((bcell hbA).1 rb 3 (by omega)).trans k43
        have hne2 : some w2.heap.size ≠ ov.ownBlock := fun e => by have := (HO.out.lt _ e.symm).2; omega
        have hl2 : w2.heap.size < w4.heap.size + 2 := by omega
        have hlb : base ≤ w4.heap.size + 2 := by have := hb4.size; omega
        have HGx := Lib.hid (HG.out _ hb5)
        have hO6 := (hO4.alloc (.cells #[.string v] 9)).alloc (.cells #[.string s.long, .slice (some ⟨w4.heap.size, 0, none⟩) 1 1] 62)
        have hN6 : ((w4.alloc (.cells #[.string v] 9)).alloc (.cells #[.string s.long, .slice (some ⟨w4.heap.size, 0, none⟩) 1 1] 62)).heap[w4.heap.size + 1]? = some (.cells #[.string s.long, .slice (some ⟨w4.heap.size, 0, none⟩) 1 1] 62 (0, 0)) := heap_alloc_new' _ _ (by simp)
        have hZ6 : ((w4.alloc (.cells #[.string v] 9)).alloc (.cells #[.string s.long, .slice (some ⟨w4.heap.size, 0, none⟩) 1 1] 62)).heap.size = w4.heap.size + 2 := by simp
        clear hz4 hsz2
        generalize hw8 : (w4.alloc (.cells #[.string v] 9)).alloc (.cells #[.string s.long, .slice (some ⟨w4.heap.size, 0, none⟩) 1 1] 62) = w8 at *
        refine wp_region_held_drew (S := (fun W => W.cell? ⟨w2.heap.size, 0, none⟩ = some (.string s.long))) (by kernel_rfl) ?_ (fun hHeld => ?_)
        · ((try dsimp only) <;> (first | (go_split_ands; go_keep) | exact kB | (rw [hw8]; exact kB) | exact k6s | exact (World.cell?_setCell_other w6 ⟨rb, 3, none⟩ ⟨w2.heap.size, 0, none⟩ _ (by simp)).trans k6s))
        refine wpAnyH_take (i := 0) (v := ?_) rfl (by kernel_rfl) (by kernel_rfl) (by kernel_rfl) (fun _ _ _ h => h) (Or.inl ⟨by rfl, ?_⟩) (by assumption) ?_
        rotate_left
        · (intro w hSw; (try dsimp only at hSw); go_simp; first | done | with_reducible rfl)
        try simp only [Act.put, List.setIfInBounds_toArray, List.set_cons_zero, List.set_cons_succ]
        refine wpAnyH_take (i := 1) (v := ?_) rfl (by kernel_rfl) (by kernel_rfl) (by kernel_rfl) (fun _ _ _ h => h) (Or.inl ⟨by rfl, ?_⟩) (by assumption) ?_
        rotate_left
        · (intro w hSw; (try dsimp only at hSw); go_simp; first | done | with_reducible rfl)
        try simp only [Act.put, List.setIfInBounds_toArray, List.set_cons_zero, List.set_cons_succ]
        refine wpAnyH_take (i := 2) (v := ?_) rfl (by kernel_rfl) (by kernel_rfl) (by kernel_rfl) (fun _ _ _ h => h) (Or.inl ⟨by rfl, ?_⟩) (by assumption) ?_
        rotate_left
        · (intro w hSw; (try dsimp only at hSw); go_simp; first | done | with_reducible rfl)
        try simp only [Act.put, List.setIfInBounds_toArray, List.set_cons_zero, List.set_cons_succ]
        refine wpAnyH_take (i := 3) (v := ?_) rfl (by kernel_rfl) (by kernel_rfl) (by kernel_rfl) (fun _ _ _ h => h) (Or.inl ⟨by rfl, ?_⟩) (by assumption) ?_
        rotate_left
        · (intro w hSw; (try dsimp only at hSw); go_simp; first | done | with_reducible rfl)
        try simp only [Act.put, List.setIfInBounds_toArray, List.set_cons_zero, List.set_cons_succ]
        refine wpAnyH_take (i := 5) (v := ?_) rfl (by kernel_rfl) (by kernel_rfl) (by kernel_rfl) (fun _ _ _ h => h) (Or.inl ⟨by rfl, ?_⟩) (by assumption) ?_
        rotate_left
        · (intro w hSw; (try dsimp only at hSw); go_simp; first | done | with_reducible rfl)
        try simp only [Act.put, List.setIfInBounds_toArray, List.set_cons_zero, List.set_cons_succ]
        refine wpAnyH_take (i := 6) (v := ?_) rfl (by kernel_rfl) (by kernel_rfl) (by kernel_rfl) (fun _ _ _ h => h) (Or.inl ⟨by rfl, ?_⟩) (by assumption) ?_
        rotate_left
        · (intro w hSw; (try dsimp only at hSw); go_simp; first | done | with_reducible rfl)
        try simp only [Act.put, List.setIfInBounds_toArray, List.set_cons_zero, List.set_cons_succ]
        refine wpAnyH_take (i := 7) (v := ?_) rfl (by kernel_rfl) (by kernel_rfl) (by kernel_rfl) (fun _ _ _ h => h) (Or.inl ⟨by rfl, ?_⟩) (by assumption) ?_
        rotate_left
        · (intro w hSw; (try dsimp only at hSw); go_simp; first | done | with_reducible rfl)
        try simp only [Act.put, List.setIfInBounds_toArray, List.set_cons_zero, List.set_cons_succ]
        refine wpAnyH_ready (rs := [4, 8]) (by kernel_rfl) (by simp) ?_
        refine AllReadyH.cons rfl (fun K hK => ?_) ?_
        · go_simp
          refine hK.out _ _ ?_ (fun hHeld => ?_)
          · ((try dsimp only) <;> (first | (go_split_ands; go_keep) | exact kB | (rw [hw8]; exact kB) | exact k6s | exact (World.cell?_setCell_other w6 ⟨rb, 3, none⟩ ⟨w2.heap.size, 0, none⟩ _ (by simp)).trans k6s))
          clear hK K
          refine wpAnyH_ready (rs := [8]) (by kernel_rfl) (by simp) ?_
          refine AllReadyH.cons rfl (fun K hK => ?_) ?_
          · go_simp
            refine hK.out _ _ ?_ (fun hHeld => ?_)
            · ((try dsimp only) <;> (first | (go_split_ands; go_keep) | exact kB | (rw [hw8]; exact kB) | exact k6s | exact (World.cell?_setCell_other w6 ⟨rb, 3, none⟩ ⟨w2.heap.size, 0, none⟩ _ (by simp)).trans k6s))
            clear hK K
            refine wpAnyH_take (i := 9) (v := ?_) rfl (by kernel_rfl) (by kernel_rfl) (by kernel_rfl) (fun _ _ _ h => h) (Or.inl ⟨by rfl, ?_⟩) (by assumption) ?_
            rotate_left
            · (intro w hSw; (try dsimp only at hSw); go_simp; first | done | with_reducible rfl)
            try simp only [Act.put, List.setIfInBounds_toArray, List.set_cons_zero, List.set_cons_succ]
            refine wpAnyH_ready (rs := [10]) (by kernel_rfl) (by simp) ?_
            refine AllReadyH.cons rfl (fun K hK => ?_) ?_
            · go_simp
              refine hK.out _ _ ?_ (fun hHeld => ?_)
              · ((try dsimp only) <;> (first | (go_split_ands; go_keep) | exact kB | (rw [hw8]; exact kB) | exact k6s | exact (World.cell?_setCell_other w6 ⟨rb, 3, none⟩ ⟨w2.heap.size, 0, none⟩ _ (by simp)).trans k6s))
              clear hK K
              refine wpAnyH_ready (rs := [11]) (by kernel_rfl) (by simp) ?_
              refine AllReadyH.cons rfl (fun K hK => ?_) ?_
              · (first | (refine step_append_lies _ (by rfl) _ _ _ (by rfl) base 62 i0 _ 2 40 Tryz.underlying55 hi hz0 hz1 hz2 rfl (by omega) ov m.length (m.flatMap encItm) (by rfl) hO6.drew ⟨w4.heap.size + 1, 0, none⟩ 1 1 [.string s.long, .slice (some ⟨w4.heap.size, 0, none⟩) 1 1] (by rfl) (by rfl) (World.news_of_block (cs := #[.string s.long, .slice (some ⟨w4.heap.size, 0, none⟩) 1 1]) (t := 62) (fr := (0, 0)) hN6) (by simp [Value.oneCell']) (by omega) (by unfold maxLen; omega) (by omega) (by simp; omega) (w4.heap.size + 2) (by simp [hZ6]) ?_; intro g6 cap6 w6 hown6 hgrow6 hat6 hlt6; have hgr8 : w8.grownBy w6 ov.ownBlock := ⟨hgrow6.os, hgrow6.tape, hgrow6.output, hgrow6.size, hgrow6.block⟩; have e6s := hgr8.block w2.heap.size (by omega) hne2; have k6s := (World.cell?_of_block (w := w8) (a := ⟨w2.heap.size, 0, none⟩) e6s).trans kB; obtain ⟨k3, f3, hR, hMu⟩ := HGx.out g6 cap6 w6 (.slice (some ⟨w4.heap.size, 0, none⟩) 1 1) (by rw [hw8]; exact hgr8) hown6 (one_str base w4 v) (tight_some _ _ _)))
                refine hK.out _ _ ?_ (fun hHeld => ?_)
                · ((try dsimp only) <;> (first | (go_split_ands; go_keep) | exact kB | (rw [hw8]; exact kB) | exact k6s | exact (World.cell?_setCell_other w6 ⟨rb, 3, none⟩ ⟨w2.heap.size, 0, none⟩ _ (by simp)).trans k6s))
                clear hK K
                refine wpAnyH_take (i := 12) (v := ?_) rfl (by kernel_rfl) (by kernel_rfl) (by kernel_rfl) (fun _ _ _ h => h) (Or.inl ⟨by rfl, ?_⟩) (by assumption) ?_
                rotate_left
                · (intro w hSw; (try dsimp only at hSw); go_simp; first | done | with_reducible rfl)
                try simp only [Act.put, List.setIfInBounds_toArray, List.set_cons_zero, List.set_cons_succ]
                refine wpAnyH_take (i := 13) (v := ?_) rfl (by kernel_rfl) (by kernel_rfl) (by kernel_rfl) (fun _ _ _ h => h) (Or.inl ⟨by rfl, ?_⟩) (by assumption) ?_
                rotate_left
                · (intro w hSw; (try dsimp only at hSw); go_simp; first | done | with_reducible rfl)
                try simp only [Act.put, List.setIfInBounds_toArray, List.set_cons_zero, List.set_cons_succ]
                refine wpAnyH_ready (rs := [14]) (by kernel_rfl) (by simp) ?_
                refine AllReadyH.cons rfl (fun K hK => ?_) ?_
                · go_simp
                  refine hK.out _ _ ?_ (fun hHeld => ?_)
                  · ((try dsimp only) <;> (first | (go_split_ands; go_keep) | exact kB | (rw [hw8]; exact kB) | exact k6s | exact (World.cell?_setCell_other w6 ⟨rb, 3, none⟩ ⟨w2.heap.size, 0, none⟩ _ (by simp)).trans k6s))
                  clear hK K
                  refine wpAnyH_done (by kernel_rfl) ?_ _
                  go_wp2
                  refine bodyPost_ret (v := .bool true) (results_tmp (t := 4) rfl _ _ _) rfl ?_
                  exact ⟨⟨rfl, by rw [← HM.out]; exact hR⟩, hMu⟩
                exact AllReadyH.nil
              exact AllReadyH.nil
            exact AllReadyH.nil
          exact AllReadyH.nil
        refine AllReadyH.cons rfl (fun K hK => ?_) ?_
        · go_simp
          refine hK.out _ _ ?_ (fun hHeld => ?_)
          · ((try dsimp only) <;> (first | (go_split_ands; go_keep) | exact kB | (rw [hw8]; exact kB) | exact k6s | exact (World.cell?_setCell_other w6 ⟨rb, 3, none⟩ ⟨w2.heap.size, 0, none⟩ _ (by simp)).trans k6s))
          clear hK K
          refine wpAnyH_take (i := 9) (v := ?_) rfl (by kernel_rfl) (by kernel_rfl) (by kernel_rfl) (fun _ _ _ h => h) (Or.inl ⟨by rfl, ?_⟩) (by assumption) ?_
          rotate_left
          · (intro w hSw; (try dsimp only at hSw); go_simp; first | done | with_reducible rfl)
          try simp only [Act.put, List.setIfInBounds_toArray, List.set_cons_zero, List.set_cons_succ]
          refine wpAnyH_ready (rs := [4, 10]) (by kernel_rfl) (by simp) ?_
          refine AllReadyH.cons rfl (fun K hK => ?_) ?_
          · go_simp
            refine hK.out _ _ ?_ (fun hHeld => ?_)
            · ((try dsimp only) <;> (first | (go_split_ands; go_keep) | exact kB | (rw [hw8]; exact kB) | exact k6s | exact (World.cell?_setCell_other w6 ⟨rb, 3, none⟩ ⟨w2.heap.size, 0, none⟩ _ (by simp)).trans k6s))
            clear hK K
            refine wpAnyH_ready (rs := [10]) (by kernel_rfl) (by simp) ?_
            refine AllReadyH.cons rfl (fun K hK => ?_) ?_
            · go_simp
              refine hK.out _ _ ?_ (fun hHeld => ?_)
              · ((try dsimp only) <;> (first | (go_split_ands; go_keep) | exact kB | (rw [hw8]; exact kB) | exact k6s | exact (World.cell?_setCell_other w6 ⟨rb, 3, none⟩ ⟨w2.heap.size, 0, none⟩ _ (by simp)).trans k6s))
              clear hK K
              refine wpAnyH_ready (rs := [11]) (by kernel_rfl) (by simp) ?_
              refine AllReadyH.cons rfl (fun K hK => ?_) ?_
              · (first | (refine step_append_lies _ (by rfl) _ _ _ (by rfl) base 62 i0 _ 2 40 Tryz.underlying55 hi hz0 hz1 hz2 rfl (by omega) ov m.length (m.flatMap encItm) (by rfl) hO6.drew ⟨w4.heap.size + 1, 0, none⟩ 1 1 [.string s.long, .slice (some ⟨w4.heap.size, 0, none⟩) 1 1] (by rfl) (by rfl) (World.news_of_block (cs := #[.string s.long, .slice (some ⟨w4.heap.size, 0, none⟩) 1 1]) (t := 62) (fr := (0, 0)) hN6) (by simp [Value.oneCell']) (by omega) (by unfold maxLen; omega) (by omega) (by simp; omega) (w4.heap.size + 2) (by simp [hZ6]) ?_; intro g6 cap6 w6 hown6 hgrow6 hat6 hlt6; have hgr8 : w8.grownBy w6 ov.ownBlock := ⟨hgrow6.os, hgrow6.tape, hgrow6.output, hgrow6.size, hgrow6.block⟩; have e6s := hgr8.block w2.heap.size (by omega) hne2; have k6s := (World.cell?_of_block (w := w8) (a := ⟨w2.heap.size, 0, none⟩) e6s).trans kB; obtain ⟨k3, f3, hR, hMu⟩ := HGx.out g6 cap6 w6 (.slice (some ⟨w4.heap.size, 0, none⟩) 1 1) (by rw [hw8]; exact hgr8) hown6 (one_str base w4 v) (tight_some _ _ _)))
                refine hK.out _ _ ?_ (fun hHeld => ?_)
                · ((try dsimp only) <;> (first | (go_split_ands; go_keep) | exact kB | (rw [hw8]; exact kB) | exact k6s | exact (World.cell?_setCell_other w6 ⟨rb, 3, none⟩ ⟨w2.heap.size, 0, none⟩ _ (by simp)).trans k6s))
                clear hK K
                refine wpAnyH_take (i := 12) (v := ?_) rfl (by kernel_rfl) (by kernel_rfl) (by kernel_rfl) (fun _ _ _ h => h) (Or.inl ⟨by rfl, ?_⟩) (by assumption) ?_
                rotate_left
                · (intro w hSw; (try dsimp only at hSw); go_simp; first | done | with_reducible rfl)
                try simp only [Act.put, List.setIfInBounds_toArray, List.set_cons_zero, List.set_cons_succ]
                refine wpAnyH_take (i := 13) (v := ?_) rfl (by kernel_rfl) (by kernel_rfl) (by kernel_rfl) (fun _ _ _ h => h) (Or.inl ⟨by rfl, ?_⟩) (by assumption) ?_
                rotate_left
                · (intro w hSw; (try dsimp only at hSw); go_simp; first | done | with_reducible rfl)
                try simp only [Act.put, List.setIfInBounds_toArray, List.set_cons_zero, List.set_cons_succ]
                refine wpAnyH_ready (rs := [14]) (by kernel_rfl) (by simp) ?_
                refine AllReadyH.cons rfl (fun K hK => ?_) ?_
                · go_simp
                  refine hK.out _ _ ?_ (fun hHeld => ?_)
                  · ((try dsimp only) <;> (first | (go_split_ands; go_keep) | exact kB | (rw [hw8]; exact kB) | exact k6s | exact (World.cell?_setCell_other w6 ⟨rb, 3, none⟩ ⟨w2.heap.size, 0, none⟩ _ (by simp)).trans k6s))
                  clear hK K
                  refine wpAnyH_done (by kernel_rfl) ?_ _
                  go_wp2
                  refine bodyPost_ret (v := .bool true) (results_tmp (t := 4) rfl _ _ _) rfl ?_
                  exact ⟨⟨rfl, by rw [← HM.out]; exact hR⟩, hMu⟩
                exact AllReadyH.nil
              exact AllReadyH.nil
            exact AllReadyH.nil
          refine AllReadyH.cons rfl (fun K hK => ?_) ?_
          · go_simp
            refine hK.out _ _ ?_ (fun hHeld => ?_)
            · ((try dsimp only) <;> (first | (go_split_ands; go_keep) | exact kB | (rw [hw8]; exact kB) | exact k6s | exact (World.cell?_setCell_other w6 ⟨rb, 3, none⟩ ⟨w2.heap.size, 0, none⟩ _ (by simp)).trans k6s))
            clear hK K
            refine wpAnyH_ready (rs := [4]) (by kernel_rfl) (by simp) ?_
            refine AllReadyH.cons rfl (fun K hK => ?_) ?_
            · go_simp
              refine hK.out _ _ ?_ (fun hHeld => ?_)
              · ((try dsimp only) <;> (first | (go_split_ands; go_keep) | exact kB | (rw [hw8]; exact kB) | exact k6s | exact (World.cell?_setCell_other w6 ⟨rb, 3, none⟩ ⟨w2.heap.size, 0, none⟩ _ (by simp)).trans k6s))
              clear hK K
              refine wpAnyH_ready (rs := [11]) (by kernel_rfl) (by simp) ?_
              refine AllReadyH.cons rfl (fun K hK => ?_) ?_
              · (first | (refine step_append_lies _ (by rfl) _ _ _ (by rfl) base 62 i0 _ 2 40 Tryz.underlying55 hi hz0 hz1 hz2 rfl (by omega) ov m.length (m.flatMap encItm) (by rfl) hO6.drew ⟨w4.heap.size + 1, 0, none⟩ 1 1 [.string s.long, .slice (some ⟨w4.heap.size, 0, none⟩) 1 1] (by rfl) (by rfl) (World.news_of_block (cs := #[.string s.long, .slice (some ⟨w4.heap.size, 0, none⟩) 1 1]) (t := 62) (fr := (0, 0)) hN6) (by simp [Value.oneCell']) (by omega) (by unfold maxLen; omega) (by omega) (by simp; omega) (w4.heap.size + 2) (by simp [hZ6]) ?_; intro g6 cap6 w6 hown6 hgrow6 hat6 hlt6; have hgr8 : w8.grownBy w6 ov.ownBlock := ⟨hgrow6.os, hgrow6.tape, hgrow6.output, hgrow6.size, hgrow6.block⟩; have e6s := hgr8.block w2.heap.size (by omega) hne2; have k6s := (World.cell?_of_block (w := w8) (a := ⟨w2.heap.size, 0, none⟩) e6s).trans kB; obtain ⟨k3, f3, hR, hMu⟩ := HGx.out g6 cap6 w6 (.slice (some ⟨w4.heap.size, 0, none⟩) 1 1) (by rw [hw8]; exact hgr8) hown6 (one_str base w4 v) (tight_some _ _ _)))
                refine hK.out _ _ ?_ (fun hHeld => ?_)
                · ((try dsimp only) <;> (first | (go_split_ands; go_keep) | exact kB | (rw [hw8]; exact kB) | exact k6s | exact (World.cell?_setCell_other w6 ⟨rb, 3, none⟩ ⟨w2.heap.size, 0, none⟩ _ (by simp)).trans k6s))
                clear hK K
                refine wpAnyH_take (i := 12) (v := ?_) rfl (by kernel_rfl) (by kernel_rfl) (by kernel_rfl) (fun _ _ _ h => h) (Or.inl ⟨by rfl, ?_⟩) (by assumption) ?_
                rotate_left
                · (intro w hSw; (try dsimp only at hSw); go_simp; first | done | with_reducible rfl)
                try simp only [Act.put, List.setIfInBounds_toArray, List.set_cons_zero, List.set_cons_succ]
                refine wpAnyH_take (i := 13) (v := ?_) rfl (by kernel_rfl) (by kernel_rfl) (by kernel_rfl) (fun _ _ _ h => h) (Or.inl ⟨by rfl, ?_⟩) (by assumption) ?_
                rotate_left
                · (intro w hSw; (try dsimp only at hSw); go_simp; first | done | with_reducible rfl)
                try simp only [Act.put, List.setIfInBounds_toArray, List.set_cons_zero, List.set_cons_succ]
                refine wpAnyH_ready (rs := [14]) (by kernel_rfl) (by simp) ?_
                refine AllReadyH.cons rfl (fun K hK => ?_) ?_
                · go_simp
                  refine hK.out _ _ ?_ (fun hHeld => ?_)
                  · ((try dsimp only) <;> (first | (go_split_ands; go_keep) | exact kB | (rw [hw8]; exact kB) | exact k6s | exact (World.cell?_setCell_other w6 ⟨rb, 3, none⟩ ⟨w2.heap.size, 0, none⟩ _ (by simp)).trans k6s))
                  clear hK K
                  refine wpAnyH_done (by kernel_rfl) ?_ _
                  go_wp2
                  refine bodyPost_ret (v := .bool true) (results_tmp (t := 4) rfl _ _ _) rfl ?_
                  exact ⟨⟨rfl, by rw [← HM.out]; exact hR⟩, hMu⟩
                exact AllReadyH.nil
              exact AllReadyH.nil
            exact AllReadyH.nil
          exact AllReadyH.nil
        exact AllReadyH.nil
      · rw [if_neg hn1]
        have hnb : (s.needs == 1) = false := by simpa using hn1
        have hnb2 : (s.needs != 1) = true := by simpa using hn1
        go_enter Tryz.func34, Tryz.ntmps34
        go_wp2_with (first | (go_at_call 44; refine (HC.out _).mono ?_; rintro e w1 ⟨rfl, nd, hw1⟩; have hb1 : Below w.heap.size w w1 := (by rw [hw1]; exact below_drewN (Below.refl _ _) _); clear hw1) | (go_at_call 45; refine (HF.out w1 hb1).mono ?_; rintro e w2 ⟨rfl, hb2⟩; have hb3 := (hb1.trans (((Below.refl w1.heap.size w1).alloc (Nat.le_refl _) (.cells #[.string n] 9)).mono hb1.size)).trans (hb2.mono (by have := hb1.size; simp; omega)); have hb4 := hb3.alloc hb3.size (.cells #[.string s.long, .int .u8 (s.short.toNat : Int), .int .i64 s.needs] 30)))
        go_ret
        exact ⟨rfl, mut_below hb4 hb⟩

end Go.Proofs.YtnmlmbgaljnjeaaGreatDoor
