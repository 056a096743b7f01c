/- The law AltcliAnywhere: the long way. Conditions: words and directory below 2^20 each; strconv.ErrRange holds an error. -/
import Derived.Test.YtnmlmbgaljnjeaaGreatDoorAny
set_option linter.unusedVariables false
set_option linter.unusedSimpArgs false
namespace Go.Proofs.YtnmlmbgaljnjeaaGreatDoor
open Go.RowKit

theorem cell_new {w : World} {b i : Nat} {c : Array Value} {t : TypeId} {fz : Nat × Nat} (h : w.heap[b]? = some (.cells c t fz)) : w.cell? ⟨b, i, none⟩ = c[i]? := by
  simp [World.cell?, h]

set_option maxRecDepth 100000 in
set_option maxHeartbeats 8000000 in
theorem any_good (ws : List ByteArray) (dir : ByteArray) (wv : Value) (te : TypeId) (pe : Value) (c : Cm) (w : World) (htot : ltot ws ≤ 1048576) (hdir : dir.size ≤ 1048576) (hwv : StrAt w.heap.size w wv ws) (htg : Tight wv)
    (hg : w.cell? ⟨2, 0, none⟩ = some (.iface te pe)) (h100 : ws.length ≤ 100) (hac : acli ws = .ok c) :
    Calls Tryz.prog 4 #[wv, .string dir] w fun e w' => e = .returned (.bool true) ∧ Below w.heap.size w w' := by
  have hgl := World.block_lt_of_cell? w _ hg
  have hlen : ws.length ≤ 1048576 := by omega
  have hsz : ∀ s ∈ ws, s.size ≤ 1048576 := fun s h => Nat.le_trans (size_tot h) htot
  have HL := Lib.hid (fun (W : World) (hW : Below w.heap.size w W) => law_lives te pe W (((bcell hW).1 _ 0 hgl).trans hg))
  obtain ⟨A, c0, rfl, hc0, hA⟩ := id hwv
  obtain ⟨i0, hi, hz0, hz1, hz2⟩ := info_parts infoStr
  have HP1 := Lib.hid (cli_good ws c _ te pe w hac hlen hsz (by omega) hwv hg)
  obtain ⟨a, ha, hak, han, haa, haq⟩ := anywhere_front dir ws c hac
  have hszf : ∀ s ∈ ddAltdir :: dir :: dQ :: ws, s.size ≤ 1048576 := by
    intro s hs
    simp only [List.mem_cons] at hs
    rcases hs with rfl | rfl | rfl | hs
    · decide
    · exact hdir
    · decide
    · exact hsz s hs
  have htotf : ltot (ddAltdir :: dir :: dQ :: ws) ≤ 1073741824 := by
    rw [ltot_cons, ltot_cons, ltot_cons]
    have h1 : ddAltdir.size = 8 := rfl
    have h2 : dQ.size = 2 := rfl
    omega
  have HP2 := Lib.hid (fun (v : Value) (W : World) (hW : Below w.heap.size w W) (hv : StrAt W.heap.size W v (ddAltdir :: dir :: dQ :: ws)) => cli_good (ddAltdir :: dir :: dQ :: ws) a v te pe W ha (by simp; omega) hszf htotf hv (((bcell hW).1 _ 0 hgl).trans hg))
  have HBk := Lib.hid (fun (hd : ∀ x ∈ ws, x ≠ dashes) => anywhere_back dir ws c hd hac)
  have hszb : ∀ s ∈ ws ++ [dQ, ddAltdir, dir], s.size ≤ 1048576 := by
    intro s hs
    rcases List.mem_append.1 hs with hs | hs
    · exact hsz s hs
    · simp only [List.mem_cons, List.not_mem_nil, or_false] at hs
      rcases hs with rfl | rfl | rfl
      · decide
      · decide
      · exact hdir
  have htotb : ltot (ws ++ [dQ, ddAltdir, dir]) ≤ 1073741824 := by
    rw [ltot_append, ltot_cons, ltot_cons, ltot_cons]
    have h1 : ddAltdir.size = 8 := rfl
    have h2 : dQ.size = 2 := rfl
    have h3 : ltot [] = 0 := rfl
    omega
  have HP3 := Lib.hid (fun (b : Cm) (hb : acli (ws ++ [dQ, ddAltdir, dir]) = .ok b) (v : Value) (W : World) (hW : Below w.heap.size w W) (hv : StrAt W.heap.size W v (ws ++ [dQ, ddAltdir, dir])) => cli_good (ws ++ [dQ, ddAltdir, dir]) b v te pe W hb (by simp; omega) hszb htotb hv (((bcell hW).1 _ 0 hgl).trans hg))
  have HWV := Lib.hid hwv
  have HTG := Lib.hid htg
  have HAC := Lib.hid hac
  have HA := Lib.hid hA
  have HSZ := Lib.hid hsz
  have hgt : ¬ (ws.length : Int) > 100 := by omega
  have HAK := Lib.hid hak
  have HAN := Lib.hid han
  have HAA := Lib.hid haa
  have HAQ := Lib.hid haq
  clear hszb htotb hac ha hszf htotf hwv htg hA hsz hak han haa haq hg
  go_enter Tryz.func4, Tryz.ntmps4
  go_wp2_with (first | (go_at_call 8; (with_reducible refine HP1.out.mono ?_); rintro e w1 ⟨sAc, snc, scc, fAc, fnc, fcc, rfl, _, _, hb1⟩; have h1s := hb1.size; have hb2 := hb1.alloc hb1.size (.cells #[.int .i64 c.kind, .string c.adm, .string c.alt, .int .i64 c.ck, .string c.ask.name, .string c.ask.link, .string c.ask.path, .int .i64 c.ask.prio, .slice sAc snc scc, .slice fAc fnc fcc, .string c.cn, .string c.cp, .string c.nm, .bool c.sim, .bool c.qui] 39); have hb3 := hb2.alloc hb2.size (.cells #[.string ⟨#[45, 45, 97, 108, 116, 100, 105, 114]⟩, .string dir, .string ⟨#[45, 113]⟩] 9)) | (at_builtin; refine wpList_append_row (enc := fun s : ByteArray => [Value.string s]) (T := 9) (lo := w.heap.size) (l := ws) rfl _ _ 22 rfl (w1.heap.size + 1) 9 i0 (.string ⟨#[]⟩) 1 16 Tryz.underlying22 hi hz0 hz1 hz2 rfl (by decide) (.slice (some ⟨w1.heap.size + 1, 0, none⟩) 3 3) 3 #[.string ⟨#[45, 45, 97, 108, 116, 100, 105, 114]⟩, .string dir, .string ⟨#[45, 113]⟩].toList rfl (by simpa only [World.size_alloc] using World.ownsRow_lit (base := w1.heap.size + 1) (e := 9) (size := 1) (w1.alloc (.cells #[.int .i64 c.kind, .string c.adm, .string c.alt, .int .i64 c.ck, .string c.ask.name, .string c.ask.link, .string c.ask.path, .int .i64 c.ask.prio, .slice sAc snc scc, .slice fAc fnc fcc, .string c.cn, .string c.cp, .string c.nm, .bool c.sim, .bool c.qui] 39)) #[.string ⟨#[45, 45, 97, 108, 116, 100, 105, 114]⟩, .string dir, .string ⟨#[45, 113]⟩] 3 (by simp) (by decide) rfl) rfl (rowAt_lift (HWV.out.below hb3) (Nat.le_refl _)) (HTG.out) (fun _ => rfl) (by simp [Value.oneCell']) (by unfold maxLen; first | omega | (simp only [List.length_cons, List.length_nil]; omega)) (by first | omega | (simp only [List.length_cons, List.length_nil]; omega)) (by simp) ?_; intro v3 w3 hown3 hgrow3; have hx3 := ((Below.refl (w1.heap.size + 1) (w1.alloc (.cells #[.int .i64 c.kind, .string c.adm, .string c.alt, .int .i64 c.ck, .string c.ask.name, .string c.ask.link, .string c.ask.path, .int .i64 c.ask.prio, .slice sAc snc scc, .slice fAc fnc fcc, .string c.cn, .string c.cp, .string c.nm, .bool c.sim, .bool c.qui] 39))).alloc (by simp) (.cells #[.string ⟨#[45, 45, 97, 108, 116, 100, 105, 114]⟩, .string dir, .string ⟨#[45, 113]⟩] 9)).grown hgrow3 (by simp) (fun kk e => by cases e; simp); have hb03 := hb2.trans (hx3.mono (by omega)); have hr3 : StrAt w3.heap.size w3 v3 (ddAltdir :: dir :: dQ :: ws) := rowAt_own hown3 (by simp; omega) rfl (fun _ => rfl)) | (go_at_call 8; refine (HP2.out v3 w3 hb03 hr3).mono ?_; rintro e w4 ⟨sAa, sna, sca, fAa, fna, fca, rfl, _, _, hb4⟩; have h4s := hb4.size; have h3s := hx3.size))
  obtain ⟨wL, hwL⟩ : ∃ wL, wL = w4.alloc (.cells #[.int .i64 a.kind, .string a.adm, .string a.alt, .int .i64 a.ck, .string a.ask.name, .string a.ask.link, .string a.ask.path, .int .i64 a.ask.prio, .slice sAa sna sca, .slice fAa fna fca, .string a.cn, .string a.cp, .string a.nm, .bool a.sim, .bool a.qui] 39) := ⟨_, rfl⟩
  have hbL4 : Below w4.heap.size w4 wL := by rw [hwL]; exact (Below.refl _ _).alloc (Nat.le_refl _) _
  have hx34 := hb4.trans (hbL4.mono h4s)
  have hxL := hx3.trans (hx34.mono (by simpa using h3s))
  have hbL := hb2.trans (hxL.mono (by omega))
  have h8 : wL.heap[w4.heap.size]? = some (.cells #[.int .i64 a.kind, .string a.adm, .string a.alt, .int .i64 a.ck, .string a.ask.name, .string a.ask.link, .string a.ask.path, .int .i64 a.ask.prio, .slice sAa sna sca, .slice fAa fna fca, .string a.cn, .string a.cp, .string a.nm, .bool a.sim, .bool a.qui] 39 (0, 0)) := by rw [hwL]; exact heap_alloc_new w4 _
  have h5 : wL.heap[w1.heap.size]? = some (.cells #[.int .i64 c.kind, .string c.adm, .string c.alt, .int .i64 c.ck, .string c.ask.name, .string c.ask.link, .string c.ask.path, .int .i64 c.ask.prio, .slice sAc snc scc, .slice fAc fnc fcc, .string c.cn, .string c.cp, .string c.nm, .bool c.sim, .bool c.qui] 39 (0, 0)) := (hxL.block w1.heap.size (by simp)).trans (heap_alloc_new w1 _)
  obtain ⟨B5, hB5⟩ : ∃ B5, w1.heap.size = B5 := ⟨_, rfl⟩
  obtain ⟨B8, hB8⟩ : ∃ B8, w4.heap.size = B8 := ⟨_, rfl⟩
  rw [hB5] at h5
  rw [hB8] at h8
  have k50 : wL.cell? ⟨B5, 0, none⟩ = some (.int .i64 c.kind) := by simp [World.cell?, h5]
  have k80 : wL.cell? ⟨B8, 0, none⟩ = some (.int .i64 a.kind) := by simp [World.cell?, h8]
  have k81 : wL.cell? ⟨B8, 1, none⟩ = some (.string a.adm) := by simp [World.cell?, h8]
  have k82 : wL.cell? ⟨B8, 12, none⟩ = some (.string a.nm) := by simp [World.cell?, h8]
  have k84 : wL.cell? ⟨B8, 14, none⟩ = some (.bool true) := by simp [World.cell?, h8, HAQ.out]
  have hB5l : B5 < wL.heap.size := (Array.getElem?_eq_some_iff.1 h5).1
  have hB8l : B8 < wL.heap.size := (Array.getElem?_eq_some_iff.1 h8).1
  have hls := hbL.size
  rw [HAK.out] at k80
  rw [HAN.out] at k82
  rw [HAA.out] at k81
  rw [← hwL, hB5, hB8]
  have HBL := Lib.hid hbL
  clear hwL hbL4 hx34 hxL h8 h5 hB5 hB8 hb1 hb2 hb3 hb4 h1s hx3 hb03 hr3 h4s h3s hown3 hgrow3 HP1 HP2 hbL
  go_loop [11] (fun i => ∃ k : Nat, k ≤ ws.length ∧ i = .int .i64 k ∧ Aside (∀ (j : Nat) x, j < k → ws[j]? = some x → x ≠ dashes)) (fun i => ws.length - (intOf i).toNat)
  case atStart => exact ⟨0, Nat.zero_le _, rfl, fun j x h => absurd h (Nat.not_lt_zero _)⟩
  case round =>
    obtain ⟨k, hk, rfl, HN⟩ := hrel
    by_cases hlt : k < ws.length
    · obtain ⟨x, hx⟩ : ∃ x, ws[k]? = some x := ⟨ws[k], List.getElem?_eq_getElem hlt⟩
      obtain ⟨b, o, rfl, hb, _, hcells⟩ := HA.out (by intro h; rw [h] at hx; simp at hx)
      have cx : wL.cell? ⟨b, o + k, none⟩ = some (.string x) := by
        have := ((bcell HBL.out).1 b _ hb).trans (hcells k x hx 0 _ rfl)
        simpa using this
      have q0 : (k : Int) < (ws.length : Int) := by omega
      have q1 : (0 : Int) ≤ (k : Int) := by omega
      have q2 : ((k : Int)).toNat = k := by omega
      have q3 : IntKind.i64.wrap ((k : Int) + 1) = (k : Int) + 1 := IntWalk.i64_in _ (by omega)
      have HX := Lib.hid hx
      clear hcells hx
      by_cases hd : x = dashes
      · have ht : (x.toList == [45, 45]) = true := by rw [dash_iff]; simpa using hd
        clear hd
        go_wp2_with (go_at_call 5; refine (HL.out _ HBL.out).mono ?_; rintro e w2 ⟨rfl, hb2⟩)
        go_ret
        exact ⟨rfl, HBL.out.trans (hb2.mono hls)⟩
      · have ht : (x.toList == [45, 45]) = false := by rw [dash_iff]; simpa using hd
        have HD := Lib.hid hd
        clear hd
        go_wp2
        go_round
        case rel =>
          refine ⟨k + 1, by omega, by go_num, fun j y hj hy => ?_⟩
          rcases Nat.lt_or_ge j k with h1 | h1
          · exact HN.out j y h1 hy
          · obtain rfl : j = k := by omega
            rw [HX.out] at hy; cases hy; exact HD.out
        case measure => simp [RowKit.intOf]; omega
    · have hno : ∀ x ∈ ws, x ≠ dashes := by
        intro x hx
        obtain ⟨j, hj⟩ := List.mem_iff_getElem?.1 hx
        have := (List.getElem?_eq_some_iff.1 hj).1
        exact HN.out j x (by omega) hj
      obtain ⟨b, hb, hbk, hbn, hba, hbq⟩ := HBk.out hno
      obtain ⟨bk, ba, bl, bck, bak, bcn, bcp, bn, bs, bq⟩ := b
      dsimp only at hbk hbn hba hbq
      subst hbk hbn hba hbq
      have hP := HP3.out _ hb
      dsimp only at hP
      have HP := Lib.hid hP
      clear hP
      have q0 : ¬ (k : Int) < (ws.length : Int) := by omega
      have hb5 := HBL.out.alloc hls (.cells #[] 9)
      have hls1 := hb5.size
      clear hno hb HP3 HBk
      go_wp2_with (first | (at_builtin; refine wpList_append_row (enc := fun s : ByteArray => [Value.string s]) (T := 9) (lo := w.heap.size) (l := ws) rfl _ _ 22 rfl wL.heap.size 9 i0 (.string ⟨#[]⟩) 1 16 Tryz.underlying22 hi hz0 hz1 hz2 rfl (by decide) (.slice (some ⟨wL.heap.size, 0, none⟩) 0 0) 0 [] rfl (World.ownsRow_lit (base := wL.heap.size) (e := 9) (size := 1) wL #[] 0 (Nat.le_refl _) (by decide) rfl) rfl (rowAt_lift (HWV.out.below hb5) (Nat.le_refl _)) (HTG.out) (fun _ => rfl) (by simp [Value.oneCell']) (by unfold maxLen; first | omega | (simp only [List.length_cons, List.length_nil]; omega)) (by first | omega | (simp only [List.length_cons, List.length_nil]; omega)) (by simp) ?_; intro v5 w5 hown5 hgrow5; have hx5 := ((Below.refl wL.heap.size wL).alloc (Nat.le_refl _) (.cells #[] 9)).grown hgrow5 (by simp) (fun kk e => by cases e; simp); have hx5s := hx5.size; have hown5' := hown5.alloc (.cells #[.string ⟨#[45, 113]⟩, .string ⟨#[45, 45, 97, 108, 116, 100, 105, 114]⟩, .string dir] 9)) | (at_builtin; refine wpList_append_row (enc := fun s : ByteArray => [Value.string s]) (T := 9) (lo := w.heap.size) (l := [dQ, ddAltdir, dir]) rfl _ _ 22 rfl wL.heap.size 9 i0 (.string ⟨#[]⟩) 1 16 Tryz.underlying22 hi hz0 hz1 hz2 rfl (by decide) v5 (0 + ws.length) _ rfl (hown5') rfl (strAt_lit _ w5 [dQ, ddAltdir, dir] (by simp)) (tight_some _ _ _) (fun _ => rfl) (by simp [Value.oneCell']) (by unfold maxLen; first | omega | (simp only [List.length_cons, List.length_nil]; omega)) (by first | omega | (simp only [List.length_cons, List.length_nil]; omega)) (by simp <;> omega) ?_; intro v6 w6 hown6 hgrow6; have hx6 := (hx5.alloc hx5s (.cells #[.string ⟨#[45, 113]⟩, .string ⟨#[45, 45, 97, 108, 116, 100, 105, 114]⟩, .string dir] 9)).grown hgrow6 (by simp <;> omega) (fun kk e => (hown5'.lt kk e).1); have hx6s := hx6.size; have hb06 := HBL.out.trans (hx6.mono hls); have hr6 : StrAt w6.heap.size w6 v6 (ws ++ [dQ, ddAltdir, dir]) := rowAt_own hown6 (by simp <;> omega) (by simp [strs_flat]) (fun _ => rfl)) | (go_at_call 8; refine (HP.out v6 w6 hb06 hr6).mono ?_; rintro e w7 ⟨sAb, snb, scb, fAb, fnb, fcb, rfl, _, _, hb7⟩; have hx7 := hx6.trans (hb7.mono hx6s); have hxZ := hx7.alloc hx7.size (.cells #[.int .i64 c.kind, .string c.adm, .string bl, .int .i64 bck, .string bak.name, .string bak.link, .string bak.path, .int .i64 bak.prio, .slice sAb snb scb, .slice fAb fnb fcb, .string bcn, .string bcp, .string c.nm, .bool bs, .bool true] 39); have hbZ := HBL.out.trans (hxZ.mono hls); have y50 := ((bcell hxZ).1 B5 0 hB5l).trans k50; have y80 := ((bcell hxZ).1 B8 0 hB8l).trans k80; have y81 := ((bcell hxZ).1 B8 1 hB8l).trans k81; have y82 := ((bcell hxZ).1 B8 12 hB8l).trans k82; have y84 := ((bcell hxZ).1 B8 14 hB8l).trans k84; have hZ := heap_alloc_new w7 (.cells #[.int .i64 c.kind, .string c.adm, .string bl, .int .i64 bck, .string bak.name, .string bak.link, .string bak.path, .int .i64 bak.prio, .slice sAb snb scb, .slice fAb fnb fcb, .string bcn, .string bcp, .string c.nm, .bool bs, .bool true] 39); have yb0 := cell_new (i := 0) hZ; have yb1 := cell_new (i := 1) hZ; have yb2 := cell_new (i := 12) hZ; have yb4 := cell_new (i := 14) hZ; simp only [List.getElem?_toArray, List.getElem?_cons_zero, List.getElem?_cons_succ] at yb0 yb1 yb2 yb4; clear hZ) | (go_at_call 5; refine (HL.out _ hbZ).mono ?_; rintro e w9 ⟨rfl, hb9⟩))
      go_ret
      exact ⟨rfl, hbZ.trans (hb9.mono hbZ.size)⟩

end Go.Proofs.YtnmlmbgaljnjeaaGreatDoor
