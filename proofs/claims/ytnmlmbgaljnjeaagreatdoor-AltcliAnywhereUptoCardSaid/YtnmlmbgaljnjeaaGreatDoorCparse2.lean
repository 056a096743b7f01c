/- altcli.Parse: the ways behind the items. Conditions: as before. -/
import Derived.Test.YtnmlmbgaljnjeaaGreatDoorCparse
set_option linter.unusedVariables false
set_option linter.unusedSimpArgs false
namespace Go.Proofs.YtnmlmbgaljnjeaaGreatDoor
open Go.RowKit

theorem ItmAt.turned {lo cb : Nat} {w w' : World} {v : Value} {l : List Itm} {c : Array Value} {fz : Nat × Nat} (h : ItmAt lo w v l) (hg : w.grownBy w' (some cb)) (hlo : lo ≤ cb) (hcb : w.heap[cb]? = some (.cells c 39 fz)) : ItmAt lo w' v l := by
  obtain ⟨m, h0, h1, h2⟩ := h
  have hk : Keeps (fun i => i = cb) w w' := ⟨hg.size, fun i hi hn => hg.block i hi (fun e => hn (Option.some.inj e))⟩
  refine ⟨m, h0, h1.keeps hk ?_, h2.keeps hk ?_⟩
  all_goals
    rintro i rfl (hst | ⟨c1, z1, hst⟩)
    · omega
    · rw [hcb] at hst; cases hst
theorem RowAt.turned {α : Type} {enc : α → List Value} {sz T lo cb : Nat} {w w' : World} {v : Value} {l : List α} {c : Array Value} {fz : Nat × Nat} (h : RowAt enc sz T lo w v l) (hg : w.grownBy w' (some cb)) (hlo : lo ≤ cb) (hcb : w.heap[cb]? = some (.cells c 39 fz)) (hT : T ≠ 39) : RowAt enc sz T lo w' v l := by
  have hk : Keeps (fun i => i = cb) w w' := ⟨hg.size, fun i hi hn => hg.block i hi (fun e => hn (Option.some.inj e))⟩
  refine h.keeps hk ?_
  rintro i rfl (hst | ⟨c1, z1, hst⟩)
  · omega
  · rw [hcb] at hst; cases hst; exact hT rfl

set_option maxRecDepth 100000 in
set_option maxHeartbeats 8000000 in
theorem cli_Parse_many (ws : List ByteArray) (wv : Value) (l : List Itm) (w : World) (hlen : ws.length ≤ 1048576) (hsz : ∀ s ∈ ws, s.size ≤ 1048576) (htot : ltot ws ≤ 1073741824) (hwv : StrAt w.heap.size w wv ws) (hp : aparse aspecs 0 ws = .ok l) (hn : (acommands l).length ≠ 1) :
    Calls Tryz.prog 8 #[wv] w (CliPost ws w) := by
  have hac : acli ws = .error (ws.length, 19) := by
    rw [acli, hp]; dsimp only
    split
    · rename_i x hx; rw [hx] at hn; exact absurd rfl hn
    · rfl
  have hb0 : Below w.heap.size w (w.alloc (.cells zeroCmd 39)) := (Below.refl _ _).alloc (Nat.le_refl _) _
  have hP := fun (W : World) (sv : Value) (hW : Below w.heap.size w W) (hs : SpcAt W.heap.size W sv aspecs) => args_Parse aspecs ws sv wv W aspecs_meek hlen hsz htot hs (rowAt_top (hwv.below hW))
  unfold ParsePost at hP
  simp only [hp] at hP
  obtain ⟨hok, hfl, hll⟩ := aparse_okay aspecs 1048576 ws 0 l hsz hp
  have HOK := Lib.hid hok
  have HP := Lib.hid hP
  have HA := Lib.hid hac
  have HR := Lib.hid (heap_alloc_new w (.cells zeroCmd 39))
  have HC := Lib.hid (fun (lo : Nat) (v : Value) (W : World) (hv : ItmAt lo W v l) => cli_commands lo v l W (by omega) hv)
  have HO := Lib.hid (fun (lo : Nat) (v : Value) (W : World) (hv : ItmAt lo W v l) => args_Operands lo v l W (by omega) (by omega) hv)
  have HH := Lib.hid (fun (lo : Nat) (v : Value) (s : ByteArray) (W : World) (hv : ItmAt lo W v l) => args_Has lo v l s W (by omega) hv)
  have HL := Lib.hid (fun (lo : Nat) (v : Value) (s o : ByteArray) (W : World) (hv : ItmAt lo W v l) => cli_last lo v l s o W (by omega) (by omega) (fun u hu => by obtain ⟨y, hy, hu⟩ := List.mem_flatMap.1 hu; exact Nat.lt_of_le_of_lt ((hok y hy).2 u hu) (by omega)) hv)
  clear hP hac hsz hok
  unfold zeroCmd cmdCells at hb0 HR
  obtain ⟨A0, c0, rfl, hc0, _⟩ := id hwv
  obtain ⟨n, hnn⟩ : ∃ n, (acommands l).length = n := ⟨_, rfl⟩
  rw [hnn] at hn
  have hn1 : ((n : Int) != 1) = true := by rw [bne_iff_ne]; omega
  have HN := Lib.hid hnn
  clear hnn
  go_enter Tryz.func8, Tryz.ntmps8
  go_wp2_with (first | (go_at_call 6; refine (cli_Specs _).mono ?_; rintro e w1 ⟨b1, rfl, hsp, _, _, hb1⟩; have hb01 := hb0.trans (hb1.mono (by simp))) | (go_at_call 12; refine (HP.out w1 _ hb01 hsp).mono ?_; rintro e w2 ⟨⟨v2, rfl, hit2⟩, hb2⟩; have hb02 := hb01.trans (hb2.mono hb01.size)) | (go_at_call 13; refine (HC.out _ _ w2 hit2).mono ?_; rintro e w3 ⟨v3, rfl, ⟨m3, hm3, ⟨A3, c3, rfl, _, _⟩, _⟩, hb3⟩; obtain rfl : m3.length = n := (by rw [← HN.out, ← hm3, List.length_map]); have hbz := hb02.trans (hb3.mono hb02.size); have hr1 := ((hb1.trans ((hb2.trans (hb3.mono hb2.size)).mono hb1.size)).block w.heap.size (by simp)).trans HR.out; clear hm3) | (refine wpList_store_row rfl 39 _ _ rfl w.heap.size #[.int .i64 0, .string ⟨#[]⟩, .string ⟨#[]⟩, .int .i64 0, .string ⟨#[]⟩, .string ⟨#[]⟩, .string ⟨#[]⟩, .int .i64 0, .slice none 0 0, .slice none 0 0, .string ⟨#[]⟩, .string ⟨#[]⟩, .string ⟨#[]⟩, .bool false, .bool false] rfl rfl 39 _ hr1 (by kernel_rfl) rfl (by simp [Value.oneCell']) ?_))
  have hr2 := setRow_heap w3 w.heap.size _ #[.int .i64 0, .string ⟨#[]⟩, .string ⟨#[]⟩, .int .i64 0, .string ⟨#[]⟩, .string ⟨#[]⟩, .string ⟨#[]⟩, .int .i64 0, .slice none 0 0, .slice none 0 0, .string ⟨#[]⟩, .string ⟨#[]⟩, .string ⟨#[]⟩, .bool false, .bool false] 39 (0, 0) hr1
  have k0 := cell_setRow_same w3 w.heap.size 0 _ #[.int .i64 0, .string ⟨#[]⟩, .string ⟨#[]⟩, .int .i64 0, .string ⟨#[]⟩, .string ⟨#[]⟩, .string ⟨#[]⟩, .int .i64 0, .slice none 0 0, .slice none 0 0, .string ⟨#[]⟩, .string ⟨#[]⟩, .string ⟨#[]⟩, .bool false, .bool false] _ _ hr1
  have k1 := cell_setRow_same w3 w.heap.size 1 _ #[.int .i64 0, .string ⟨#[]⟩, .string ⟨#[]⟩, .int .i64 0, .string ⟨#[]⟩, .string ⟨#[]⟩, .string ⟨#[]⟩, .int .i64 0, .slice none 0 0, .slice none 0 0, .string ⟨#[]⟩, .string ⟨#[]⟩, .string ⟨#[]⟩, .bool false, .bool false] _ _ hr1
  have k2 := cell_setRow_same w3 w.heap.size 2 _ #[.int .i64 0, .string ⟨#[]⟩, .string ⟨#[]⟩, .int .i64 0, .string ⟨#[]⟩, .string ⟨#[]⟩, .string ⟨#[]⟩, .int .i64 0, .slice none 0 0, .slice none 0 0, .string ⟨#[]⟩, .string ⟨#[]⟩, .string ⟨#[]⟩, .bool false, .bool false] _ _ hr1
  have k3 := cell_setRow_same w3 w.heap.size 3 _ #[.int .i64 0, .string ⟨#[]⟩, .string ⟨#[]⟩, .int .i64 0, .string ⟨#[]⟩, .string ⟨#[]⟩, .string ⟨#[]⟩, .int .i64 0, .slice none 0 0, .slice none 0 0, .string ⟨#[]⟩, .string ⟨#[]⟩, .string ⟨#[]⟩, .bool false, .bool false] _ _ hr1
  have k4 := cell_setRow_same w3 w.heap.size 4 _ #[.int .i64 0, .string ⟨#[]⟩, .string ⟨#[]⟩, .int .i64 0, .string ⟨#[]⟩, .string ⟨#[]⟩, .string ⟨#[]⟩, .int .i64 0, .slice none 0 0, .slice none 0 0, .string ⟨#[]⟩, .string ⟨#[]⟩, .string ⟨#[]⟩, .bool false, .bool false] _ _ hr1
  have k5 := cell_setRow_same w3 w.heap.size 5 _ #[.int .i64 0, .string ⟨#[]⟩, .string ⟨#[]⟩, .int .i64 0, .string ⟨#[]⟩, .string ⟨#[]⟩, .string ⟨#[]⟩, .int .i64 0, .slice none 0 0, .slice none 0 0, .string ⟨#[]⟩, .string ⟨#[]⟩, .string ⟨#[]⟩, .bool false, .bool false] _ _ hr1
  have k6 := cell_setRow_same w3 w.heap.size 6 _ #[.int .i64 0, .string ⟨#[]⟩, .string ⟨#[]⟩, .int .i64 0, .string ⟨#[]⟩, .string ⟨#[]⟩, .string ⟨#[]⟩, .int .i64 0, .slice none 0 0, .slice none 0 0, .string ⟨#[]⟩, .string ⟨#[]⟩, .string ⟨#[]⟩, .bool false, .bool false] _ _ hr1
  have k7 := cell_setRow_same w3 w.heap.size 7 _ #[.int .i64 0, .string ⟨#[]⟩, .string ⟨#[]⟩, .int .i64 0, .string ⟨#[]⟩, .string ⟨#[]⟩, .string ⟨#[]⟩, .int .i64 0, .slice none 0 0, .slice none 0 0, .string ⟨#[]⟩, .string ⟨#[]⟩, .string ⟨#[]⟩, .bool false, .bool false] _ _ hr1
  have k8 := cell_setRow_same w3 w.heap.size 8 _ #[.int .i64 0, .string ⟨#[]⟩, .string ⟨#[]⟩, .int .i64 0, .string ⟨#[]⟩, .string ⟨#[]⟩, .string ⟨#[]⟩, .int .i64 0, .slice none 0 0, .slice none 0 0, .string ⟨#[]⟩, .string ⟨#[]⟩, .string ⟨#[]⟩, .bool false, .bool false] _ _ hr1
  have k9 := cell_setRow_same w3 w.heap.size 9 _ #[.int .i64 0, .string ⟨#[]⟩, .string ⟨#[]⟩, .int .i64 0, .string ⟨#[]⟩, .string ⟨#[]⟩, .string ⟨#[]⟩, .int .i64 0, .slice none 0 0, .slice none 0 0, .string ⟨#[]⟩, .string ⟨#[]⟩, .string ⟨#[]⟩, .bool false, .bool false] _ _ hr1
  have k10 := cell_setRow_same w3 w.heap.size 10 _ #[.int .i64 0, .string ⟨#[]⟩, .string ⟨#[]⟩, .int .i64 0, .string ⟨#[]⟩, .string ⟨#[]⟩, .string ⟨#[]⟩, .int .i64 0, .slice none 0 0, .slice none 0 0, .string ⟨#[]⟩, .string ⟨#[]⟩, .string ⟨#[]⟩, .bool false, .bool false] _ _ hr1
  have k11 := cell_setRow_same w3 w.heap.size 11 _ #[.int .i64 0, .string ⟨#[]⟩, .string ⟨#[]⟩, .int .i64 0, .string ⟨#[]⟩, .string ⟨#[]⟩, .string ⟨#[]⟩, .int .i64 0, .slice none 0 0, .slice none 0 0, .string ⟨#[]⟩, .string ⟨#[]⟩, .string ⟨#[]⟩, .bool false, .bool false] _ _ hr1
  have k12 := cell_setRow_same w3 w.heap.size 12 _ #[.int .i64 0, .string ⟨#[]⟩, .string ⟨#[]⟩, .int .i64 0, .string ⟨#[]⟩, .string ⟨#[]⟩, .string ⟨#[]⟩, .int .i64 0, .slice none 0 0, .slice none 0 0, .string ⟨#[]⟩, .string ⟨#[]⟩, .string ⟨#[]⟩, .bool false, .bool false] _ _ hr1
  have k13 := cell_setRow_same w3 w.heap.size 13 _ #[.int .i64 0, .string ⟨#[]⟩, .string ⟨#[]⟩, .int .i64 0, .string ⟨#[]⟩, .string ⟨#[]⟩, .string ⟨#[]⟩, .int .i64 0, .slice none 0 0, .slice none 0 0, .string ⟨#[]⟩, .string ⟨#[]⟩, .string ⟨#[]⟩, .bool false, .bool false] _ _ hr1
  have k14 := cell_setRow_same w3 w.heap.size 14 _ #[.int .i64 0, .string ⟨#[]⟩, .string ⟨#[]⟩, .int .i64 0, .string ⟨#[]⟩, .string ⟨#[]⟩, .string ⟨#[]⟩, .int .i64 0, .slice none 0 0, .slice none 0 0, .string ⟨#[]⟩, .string ⟨#[]⟩, .string ⟨#[]⟩, .bool false, .bool false] _ _ hr1
  have hbf := below_setRow hbz (Nat.le_refl _) #[.int .i64 0, .string ⟨#[]⟩, .string ⟨#[]⟩, .int .i64 0, .string ⟨#[]⟩, .string ⟨#[]⟩, .string ⟨#[]⟩, .int .i64 0, .slice none 0 0, .slice none 0 0, .string ⟨#[]⟩, .string ⟨#[]⟩, .string ⟨#[]⟩, .bool false, .bool false]
  refine bodyPost_ret (v := .tuple #[.agg #[.int .i64 0, .string ⟨#[]⟩, .string ⟨#[]⟩, .int .i64 0, .string ⟨#[]⟩, .string ⟨#[]⟩, .string ⟨#[]⟩, .int .i64 0, .slice none 0 0, .slice none 0 0, .string ⟨#[]⟩, .string ⟨#[]⟩, .string ⟨#[]⟩, .bool false, .bool false], .int .i64 (ws.length : Int), .int .i64 19]) (by simp [results, Tryz.results8, go_sem, k0, k1, k2, k3, k4, k5, k6, k7, k8, k9, k10, k11, k12, k13, k14, hr2]) rfl ?_
  refine ⟨?_, hbf⟩
  rw [HA.out]
  rfl

theorem one_cmd {lo : Nat} {w : World} {v : Value} {l : List Itm} {xn : ByteArray} {xs : List ByteArray} (h : ItmAt lo w v l) (hl : l = [(xn, xs)]) :
    ∃ b o c xv, v = .slice (some ⟨b, o, none⟩) 1 c ∧ w.cell? ⟨b, o, none⟩ = some (.string xn) ∧ w.cell? ⟨b, o + 1, none⟩ = some xv ∧ b < w.heap.size ∧ StrAt lo w xv xs := by
  subst hl
  obtain ⟨m, hm, ⟨A, c, rfl, hc, hA⟩, hV⟩ := h
  have hml : m.length = 1 := by have := congrArg List.length hm; simpa using this
  obtain ⟨⟨⟨yn, ys⟩, yv⟩, rfl⟩ := len1 hml
  simp only [List.map_cons, List.map_nil, List.cons.injEq, Prod.mk.injEq, and_true] at hm
  obtain ⟨rfl, rfl⟩ := hm
  obtain ⟨b, o, rfl, hb, _, hcells⟩ := hA (by simp)
  exact ⟨b, o, c, yv, rfl, by simpa using hcells 0 ((yn, ys), yv) rfl 0 _ rfl, by simpa using hcells 0 ((yn, ys), yv) rfl 1 _ rfl, hb, (hV ((yn, ys), yv) (by simp)).1⟩

set_option maxRecDepth 100000 in
set_option maxHeartbeats 8000000 in
theorem cli_Parse_bad1 (ws : List ByteArray) (wv : Value) (l : List Itm) (w : World) (hlen : ws.length ≤ 1048576) (hsz : ∀ s ∈ ws, s.size ≤ 1048576) (htot : ltot ws ≤ 1073741824) (hwv : StrAt w.heap.size w wv ws) (hp : aparse aspecs 0 ws = .ok l) (xn : ByteArray) (xs : List ByteArray) (hx : acommands l = [(xn, xs)]) (hop : avalues l ⟨#[]⟩ ≠ []) :
    Calls Tryz.prog 8 #[wv] w (CliPost ws w) := by
  have hac : acli ws = .error (ws.length, 19) := by
    rw [acli, hp]; dsimp only; rw [hx]; dsimp only; rw [if_pos (.inl hop)]
  have hb0 : Below w.heap.size w (w.alloc (.cells zeroCmd 39)) := (Below.refl _ _).alloc (Nat.le_refl _) _
  have hP := fun (W : World) (sv : Value) (hW : Below w.heap.size w W) (hs : SpcAt W.heap.size W sv aspecs) => args_Parse aspecs ws sv wv W aspecs_meek hlen hsz htot hs (rowAt_top (hwv.below hW))
  unfold ParsePost at hP
  simp only [hp] at hP
  obtain ⟨hok, hfl, hll⟩ := aparse_okay aspecs 1048576 ws 0 l hsz hp
  have HOK := Lib.hid hok
  have HP := Lib.hid hP
  have HA := Lib.hid hac
  have HR := Lib.hid (heap_alloc_new w (.cells zeroCmd 39))
  have HC := Lib.hid (fun (lo : Nat) (v : Value) (W : World) (hv : ItmAt lo W v l) => cli_commands lo v l W (by omega) hv)
  have HO := Lib.hid (fun (lo : Nat) (v : Value) (W : World) (hv : ItmAt lo W v l) => args_Operands lo v l W (by omega) (by omega) hv)
  have HH := Lib.hid (fun (lo : Nat) (v : Value) (s : ByteArray) (W : World) (hv : ItmAt lo W v l) => args_Has lo v l s W (by omega) hv)
  have HL := Lib.hid (fun (lo : Nat) (v : Value) (s o : ByteArray) (W : World) (hv : ItmAt lo W v l) => cli_last lo v l s o W (by omega) (by omega) (fun u hu => by obtain ⟨y, hy, hu⟩ := List.mem_flatMap.1 hu; exact Nat.lt_of_le_of_lt ((hok y hy).2 u hu) (by omega)) hv)
  clear hP hac hsz hok
  unfold zeroCmd cmdCells at hb0 HR
  obtain ⟨A0, c0, rfl, hc0, _⟩ := id hwv
  have HX := Lib.hid hx
  clear hx
  obtain ⟨n, hnn⟩ : ∃ n, (avalues l ⟨#[]⟩).length = n := ⟨_, rfl⟩
  have hn0 : (n : Int) > 0 := by
    have : n ≠ 0 := by rintro rfl; exact hop (List.eq_nil_of_length_eq_zero hnn)
    omega
  have HOps := Lib.hid hnn
  clear hnn hop
  go_enter Tryz.func8, Tryz.ntmps8
  go_wp2_with (first | (go_at_call 6; refine (cli_Specs _).mono ?_; rintro e w1 ⟨b1, rfl, hsp, _, _, hb1⟩; have hb01 := hb0.trans (hb1.mono (by simp))) | (go_at_call 12; refine (HP.out w1 _ hb01 hsp).mono ?_; rintro e w2 ⟨⟨v2, rfl, hit2⟩, hb2⟩; have hb02 := hb01.trans (hb2.mono hb01.size)) | (go_at_call 13; refine (HC.out _ _ w2 hit2).mono ?_; rintro e w3 ⟨v3, rfl, hit3, hb3⟩; obtain ⟨b3, o3, c3, xv, rfl, d0, d1, lb3, hvx⟩ := one_cmd (xn := xn) (xs := xs) hit3 HX.out; have hbz := hb02.trans (hb3.mono hb02.size); have hr1 := ((hb1.trans ((hb2.trans (hb3.mono hb2.size)).mono hb1.size)).block w.heap.size (by simp)).trans HR.out; have lr := (Array.getElem?_eq_some_iff.1 hr1).1; have hit := hit2.below hb3) | (go_at_call 14; refine (HO.out _ _ _ hit).mono ?_; rintro e wn ⟨An, cn, rfl, hbn⟩; rw [HOps.out]; have hbz := hbz.trans (hbn.mono hbz.size); have hit := hit.below hbn; have hvx := hvx.below hbn; have d0 : wn.cell? ⟨b3, o3, none⟩ = _ := ((bcell hbn).1 b3 _ lb3).trans d0; have d1 : wn.cell? ⟨b3, o3 + 1, none⟩ = _ := ((bcell hbn).1 b3 _ lb3).trans d1; have hr1 := (hbn.block w.heap.size lr).trans hr1; have lb3 := Nat.lt_of_lt_of_le lb3 hbn.size; have lr := Nat.lt_of_lt_of_le lr hbn.size) | (refine wpList_store_row rfl 39 _ _ rfl w.heap.size #[.int .i64 0, .string ⟨#[]⟩, .string ⟨#[]⟩, .int .i64 0, .string ⟨#[]⟩, .string ⟨#[]⟩, .string ⟨#[]⟩, .int .i64 0, .slice none 0 0, .slice none 0 0, .string ⟨#[]⟩, .string ⟨#[]⟩, .string ⟨#[]⟩, .bool false, .bool false] rfl rfl 39 _ hr1 (by kernel_rfl) rfl (by simp [Value.oneCell']) ?_))
  have hr2 := setRow_heap wn w.heap.size _ #[.int .i64 0, .string ⟨#[]⟩, .string ⟨#[]⟩, .int .i64 0, .string ⟨#[]⟩, .string ⟨#[]⟩, .string ⟨#[]⟩, .int .i64 0, .slice none 0 0, .slice none 0 0, .string ⟨#[]⟩, .string ⟨#[]⟩, .string ⟨#[]⟩, .bool false, .bool false] 39 (0, 0) hr1
  have k0 := cell_setRow_same wn w.heap.size 0 _ #[.int .i64 0, .string ⟨#[]⟩, .string ⟨#[]⟩, .int .i64 0, .string ⟨#[]⟩, .string ⟨#[]⟩, .string ⟨#[]⟩, .int .i64 0, .slice none 0 0, .slice none 0 0, .string ⟨#[]⟩, .string ⟨#[]⟩, .string ⟨#[]⟩, .bool false, .bool false] _ _ hr1
  have k1 := cell_setRow_same wn w.heap.size 1 _ #[.int .i64 0, .string ⟨#[]⟩, .string ⟨#[]⟩, .int .i64 0, .string ⟨#[]⟩, .string ⟨#[]⟩, .string ⟨#[]⟩, .int .i64 0, .slice none 0 0, .slice none 0 0, .string ⟨#[]⟩, .string ⟨#[]⟩, .string ⟨#[]⟩, .bool false, .bool false] _ _ hr1
  have k2 := cell_setRow_same wn w.heap.size 2 _ #[.int .i64 0, .string ⟨#[]⟩, .string ⟨#[]⟩, .int .i64 0, .string ⟨#[]⟩, .string ⟨#[]⟩, .string ⟨#[]⟩, .int .i64 0, .slice none 0 0, .slice none 0 0, .string ⟨#[]⟩, .string ⟨#[]⟩, .string ⟨#[]⟩, .bool false, .bool false] _ _ hr1
  have k3 := cell_setRow_same wn w.heap.size 3 _ #[.int .i64 0, .string ⟨#[]⟩, .string ⟨#[]⟩, .int .i64 0, .string ⟨#[]⟩, .string ⟨#[]⟩, .string ⟨#[]⟩, .int .i64 0, .slice none 0 0, .slice none 0 0, .string ⟨#[]⟩, .string ⟨#[]⟩, .string ⟨#[]⟩, .bool false, .bool false] _ _ hr1
  have k4 := cell_setRow_same wn w.heap.size 4 _ #[.int .i64 0, .string ⟨#[]⟩, .string ⟨#[]⟩, .int .i64 0, .string ⟨#[]⟩, .string ⟨#[]⟩, .string ⟨#[]⟩, .int .i64 0, .slice none 0 0, .slice none 0 0, .string ⟨#[]⟩, .string ⟨#[]⟩, .string ⟨#[]⟩, .bool false, .bool false] _ _ hr1
  have k5 := cell_setRow_same wn w.heap.size 5 _ #[.int .i64 0, .string ⟨#[]⟩, .string ⟨#[]⟩, .int .i64 0, .string ⟨#[]⟩, .string ⟨#[]⟩, .string ⟨#[]⟩, .int .i64 0, .slice none 0 0, .slice none 0 0, .string ⟨#[]⟩, .string ⟨#[]⟩, .string ⟨#[]⟩, .bool false, .bool false] _ _ hr1
  have k6 := cell_setRow_same wn w.heap.size 6 _ #[.int .i64 0, .string ⟨#[]⟩, .string ⟨#[]⟩, .int .i64 0, .string ⟨#[]⟩, .string ⟨#[]⟩, .string ⟨#[]⟩, .int .i64 0, .slice none 0 0, .slice none 0 0, .string ⟨#[]⟩, .string ⟨#[]⟩, .string ⟨#[]⟩, .bool false, .bool false] _ _ hr1
  have k7 := cell_setRow_same wn w.heap.size 7 _ #[.int .i64 0, .string ⟨#[]⟩, .string ⟨#[]⟩, .int .i64 0, .string ⟨#[]⟩, .string ⟨#[]⟩, .string ⟨#[]⟩, .int .i64 0, .slice none 0 0, .slice none 0 0, .string ⟨#[]⟩, .string ⟨#[]⟩, .string ⟨#[]⟩, .bool false, .bool false] _ _ hr1
  have k8 := cell_setRow_same wn w.heap.size 8 _ #[.int .i64 0, .string ⟨#[]⟩, .string ⟨#[]⟩, .int .i64 0, .string ⟨#[]⟩, .string ⟨#[]⟩, .string ⟨#[]⟩, .int .i64 0, .slice none 0 0, .slice none 0 0, .string ⟨#[]⟩, .string ⟨#[]⟩, .string ⟨#[]⟩, .bool false, .bool false] _ _ hr1
  have k9 := cell_setRow_same wn w.heap.size 9 _ #[.int .i64 0, .string ⟨#[]⟩, .string ⟨#[]⟩, .int .i64 0, .string ⟨#[]⟩, .string ⟨#[]⟩, .string ⟨#[]⟩, .int .i64 0, .slice none 0 0, .slice none 0 0, .string ⟨#[]⟩, .string ⟨#[]⟩, .string ⟨#[]⟩, .bool false, .bool false] _ _ hr1
  have k10 := cell_setRow_same wn w.heap.size 10 _ #[.int .i64 0, .string ⟨#[]⟩, .string ⟨#[]⟩, .int .i64 0, .string ⟨#[]⟩, .string ⟨#[]⟩, .string ⟨#[]⟩, .int .i64 0, .slice none 0 0, .slice none 0 0, .string ⟨#[]⟩, .string ⟨#[]⟩, .string ⟨#[]⟩, .bool false, .bool false] _ _ hr1
  have k11 := cell_setRow_same wn w.heap.size 11 _ #[.int .i64 0, .string ⟨#[]⟩, .string ⟨#[]⟩, .int .i64 0, .string ⟨#[]⟩, .string ⟨#[]⟩, .string ⟨#[]⟩, .int .i64 0, .slice none 0 0, .slice none 0 0, .string ⟨#[]⟩, .string ⟨#[]⟩, .string ⟨#[]⟩, .bool false, .bool false] _ _ hr1
  have k12 := cell_setRow_same wn w.heap.size 12 _ #[.int .i64 0, .string ⟨#[]⟩, .string ⟨#[]⟩, .int .i64 0, .string ⟨#[]⟩, .string ⟨#[]⟩, .string ⟨#[]⟩, .int .i64 0, .slice none 0 0, .slice none 0 0, .string ⟨#[]⟩, .string ⟨#[]⟩, .string ⟨#[]⟩, .bool false, .bool false] _ _ hr1
  have k13 := cell_setRow_same wn w.heap.size 13 _ #[.int .i64 0, .string ⟨#[]⟩, .string ⟨#[]⟩, .int .i64 0, .string ⟨#[]⟩, .string ⟨#[]⟩, .string ⟨#[]⟩, .int .i64 0, .slice none 0 0, .slice none 0 0, .string ⟨#[]⟩, .string ⟨#[]⟩, .string ⟨#[]⟩, .bool false, .bool false] _ _ hr1
  have k14 := cell_setRow_same wn w.heap.size 14 _ #[.int .i64 0, .string ⟨#[]⟩, .string ⟨#[]⟩, .int .i64 0, .string ⟨#[]⟩, .string ⟨#[]⟩, .string ⟨#[]⟩, .int .i64 0, .slice none 0 0, .slice none 0 0, .string ⟨#[]⟩, .string ⟨#[]⟩, .string ⟨#[]⟩, .bool false, .bool false] _ _ hr1
  have hbf := below_setRow hbz (Nat.le_refl _) #[.int .i64 0, .string ⟨#[]⟩, .string ⟨#[]⟩, .int .i64 0, .string ⟨#[]⟩, .string ⟨#[]⟩, .string ⟨#[]⟩, .int .i64 0, .slice none 0 0, .slice none 0 0, .string ⟨#[]⟩, .string ⟨#[]⟩, .string ⟨#[]⟩, .bool false, .bool false]
  refine bodyPost_ret (v := .tuple #[.agg #[.int .i64 0, .string ⟨#[]⟩, .string ⟨#[]⟩, .int .i64 0, .string ⟨#[]⟩, .string ⟨#[]⟩, .string ⟨#[]⟩, .int .i64 0, .slice none 0 0, .slice none 0 0, .string ⟨#[]⟩, .string ⟨#[]⟩, .string ⟨#[]⟩, .bool false, .bool false], .int .i64 (ws.length : Int), .int .i64 19]) (by simp [results, Tryz.results8, go_sem, k0, k1, k2, k3, k4, k5, k6, k7, k8, k9, k10, k11, k12, k13, k14, hr2]) rfl ?_
  refine ⟨?_, hbf⟩
  rw [HA.out]
  rfl

set_option maxRecDepth 100000 in
set_option maxHeartbeats 8000000 in
theorem cli_Parse_bad2 (ws : List ByteArray) (wv : Value) (l : List Itm) (w : World) (hlen : ws.length ≤ 1048576) (hsz : ∀ s ∈ ws, s.size ≤ 1048576) (htot : ltot ws ≤ 1073741824) (hwv : StrAt w.heap.size w wv ws) (hp : aparse aspecs 0 ws = .ok l) (xn : ByteArray) (xs : List ByteArray) (hx : acommands l = [(xn, xs)]) (hop : avalues l ⟨#[]⟩ = []) (hsl : ahas l slaveB = true) (hin : xn ≠ installB) :
    Calls Tryz.prog 8 #[wv] w (CliPost ws w) := by
  have hac : acli ws = .error (ws.length, 19) := by
    rw [acli, hp]; dsimp only; rw [hx]; dsimp only; rw [if_pos (.inr ⟨hsl, hin⟩)]
  have ht0 : (xn.toList == [105, 110, 115, 116, 97, 108, 108]) = false := by
    rw [beq_eq_false_iff_ne]; intro e; exact hin ((toList_eq_iff _ _).1 (by rw [e, Lib.toList_data]; rfl))
  have ht : (!(xn.toList == [105, 110, 115, 116, 97, 108, 108])) = true := by rw [ht0]; rfl
  have hb0 : Below w.heap.size w (w.alloc (.cells zeroCmd 39)) := (Below.refl _ _).alloc (Nat.le_refl _) _
  have hP := fun (W : World) (sv : Value) (hW : Below w.heap.size w W) (hs : SpcAt W.heap.size W sv aspecs) => args_Parse aspecs ws sv wv W aspecs_meek hlen hsz htot hs (rowAt_top (hwv.below hW))
  unfold ParsePost at hP
  simp only [hp] at hP
  obtain ⟨hok, hfl, hll⟩ := aparse_okay aspecs 1048576 ws 0 l hsz hp
  have HOK := Lib.hid hok
  have HP := Lib.hid hP
  have HA := Lib.hid hac
  have HR := Lib.hid (heap_alloc_new w (.cells zeroCmd 39))
  have HC := Lib.hid (fun (lo : Nat) (v : Value) (W : World) (hv : ItmAt lo W v l) => cli_commands lo v l W (by omega) hv)
  have HO := Lib.hid (fun (lo : Nat) (v : Value) (W : World) (hv : ItmAt lo W v l) => args_Operands lo v l W (by omega) (by omega) hv)
  have HH := Lib.hid (fun (lo : Nat) (v : Value) (s : ByteArray) (W : World) (hv : ItmAt lo W v l) => args_Has lo v l s W (by omega) hv)
  have HL := Lib.hid (fun (lo : Nat) (v : Value) (s o : ByteArray) (W : World) (hv : ItmAt lo W v l) => cli_last lo v l s o W (by omega) (by omega) (fun u hu => by obtain ⟨y, hy, hu⟩ := List.mem_flatMap.1 hu; exact Nat.lt_of_le_of_lt ((hok y hy).2 u hu) (by omega)) hv)
  clear hP hac hsz hok
  unfold zeroCmd cmdCells at hb0 HR
  obtain ⟨A0, c0, rfl, hc0, _⟩ := id hwv
  have HX := Lib.hid hx
  clear hx
  have HOps : Hid ((avalues l ⟨#[]⟩).length = 0) := Lib.hid (by rw [hop]; rfl)
  unfold slaveB at hsl
  clear hop hin
  go_enter Tryz.func8, Tryz.ntmps8
  go_wp2_with (first | (go_at_call 6; refine (cli_Specs _).mono ?_; rintro e w1 ⟨b1, rfl, hsp, _, _, hb1⟩; have hb01 := hb0.trans (hb1.mono (by simp))) | (go_at_call 12; refine (HP.out w1 _ hb01 hsp).mono ?_; rintro e w2 ⟨⟨v2, rfl, hit2⟩, hb2⟩; have hb02 := hb01.trans (hb2.mono hb01.size)) | (go_at_call 13; refine (HC.out _ _ w2 hit2).mono ?_; rintro e w3 ⟨v3, rfl, hit3, hb3⟩; obtain ⟨b3, o3, c3, xv, rfl, d0, d1, lb3, hvx⟩ := one_cmd (xn := xn) (xs := xs) hit3 HX.out; have hbz := hb02.trans (hb3.mono hb02.size); have hr1 := ((hb1.trans ((hb2.trans (hb3.mono hb2.size)).mono hb1.size)).block w.heap.size (by simp)).trans HR.out; have lr := (Array.getElem?_eq_some_iff.1 hr1).1; have hit := hit2.below hb3) | (go_at_call 14; refine (HO.out _ _ _ hit).mono ?_; rintro e wn ⟨An, cn, rfl, hbn⟩; rw [HOps.out]; have hbz := hbz.trans (hbn.mono hbz.size); have hit := hit.below hbn; have hvx := hvx.below hbn; have d0 : wn.cell? ⟨b3, o3, none⟩ = _ := ((bcell hbn).1 b3 _ lb3).trans d0; have d1 : wn.cell? ⟨b3, o3 + 1, none⟩ = _ := ((bcell hbn).1 b3 _ lb3).trans d1; have hr1 := (hbn.block w.heap.size lr).trans hr1; have lb3 := Nat.lt_of_lt_of_le lb3 hbn.size; have lr := Nat.lt_of_lt_of_le lr hbn.size) | (go_at_call 15; refine (HH.out _ _ _ _ hit).mono ?_; rintro e wn ⟨rfl, hbn⟩; have hbz := hbz.trans (hbn.mono hbz.size); have hit := hit.below hbn; have hvx := hvx.below hbn; have d0 : wn.cell? ⟨b3, o3, none⟩ = _ := ((bcell hbn).1 b3 _ lb3).trans d0; have d1 : wn.cell? ⟨b3, o3 + 1, none⟩ = _ := ((bcell hbn).1 b3 _ lb3).trans d1; have hr1 := (hbn.block w.heap.size lr).trans hr1; have lb3 := Nat.lt_of_lt_of_le lb3 hbn.size; have lr := Nat.lt_of_lt_of_le lr hbn.size) | (refine wpList_store_row rfl 39 _ _ rfl w.heap.size #[.int .i64 0, .string ⟨#[]⟩, .string ⟨#[]⟩, .int .i64 0, .string ⟨#[]⟩, .string ⟨#[]⟩, .string ⟨#[]⟩, .int .i64 0, .slice none 0 0, .slice none 0 0, .string ⟨#[]⟩, .string ⟨#[]⟩, .string ⟨#[]⟩, .bool false, .bool false] rfl rfl 39 _ hr1 (by kernel_rfl) rfl (by simp [Value.oneCell']) ?_))
  have hr2 := setRow_heap wn w.heap.size _ #[.int .i64 0, .string ⟨#[]⟩, .string ⟨#[]⟩, .int .i64 0, .string ⟨#[]⟩, .string ⟨#[]⟩, .string ⟨#[]⟩, .int .i64 0, .slice none 0 0, .slice none 0 0, .string ⟨#[]⟩, .string ⟨#[]⟩, .string ⟨#[]⟩, .bool false, .bool false] 39 (0, 0) hr1
  have k0 := cell_setRow_same wn w.heap.size 0 _ #[.int .i64 0, .string ⟨#[]⟩, .string ⟨#[]⟩, .int .i64 0, .string ⟨#[]⟩, .string ⟨#[]⟩, .string ⟨#[]⟩, .int .i64 0, .slice none 0 0, .slice none 0 0, .string ⟨#[]⟩, .string ⟨#[]⟩, .string ⟨#[]⟩, .bool false, .bool false] _ _ hr1
  have k1 := cell_setRow_same wn w.heap.size 1 _ #[.int .i64 0, .string ⟨#[]⟩, .string ⟨#[]⟩, .int .i64 0, .string ⟨#[]⟩, .string ⟨#[]⟩, .string ⟨#[]⟩, .int .i64 0, .slice none 0 0, .slice none 0 0, .string ⟨#[]⟩, .string ⟨#[]⟩, .string ⟨#[]⟩, .bool false, .bool false] _ _ hr1
  have k2 := cell_setRow_same wn w.heap.size 2 _ #[.int .i64 0, .string ⟨#[]⟩, .string ⟨#[]⟩, .int .i64 0, .string ⟨#[]⟩, .string ⟨#[]⟩, .string ⟨#[]⟩, .int .i64 0, .slice none 0 0, .slice none 0 0, .string ⟨#[]⟩, .string ⟨#[]⟩, .string ⟨#[]⟩, .bool false, .bool false] _ _ hr1
  have k3 := cell_setRow_same wn w.heap.size 3 _ #[.int .i64 0, .string ⟨#[]⟩, .string ⟨#[]⟩, .int .i64 0, .string ⟨#[]⟩, .string ⟨#[]⟩, .string ⟨#[]⟩, .int .i64 0, .slice none 0 0, .slice none 0 0, .string ⟨#[]⟩, .string ⟨#[]⟩, .string ⟨#[]⟩, .bool false, .bool false] _ _ hr1
  have k4 := cell_setRow_same wn w.heap.size 4 _ #[.int .i64 0, .string ⟨#[]⟩, .string ⟨#[]⟩, .int .i64 0, .string ⟨#[]⟩, .string ⟨#[]⟩, .string ⟨#[]⟩, .int .i64 0, .slice none 0 0, .slice none 0 0, .string ⟨#[]⟩, .string ⟨#[]⟩, .string ⟨#[]⟩, .bool false, .bool false] _ _ hr1
  have k5 := cell_setRow_same wn w.heap.size 5 _ #[.int .i64 0, .string ⟨#[]⟩, .string ⟨#[]⟩, .int .i64 0, .string ⟨#[]⟩, .string ⟨#[]⟩, .string ⟨#[]⟩, .int .i64 0, .slice none 0 0, .slice none 0 0, .string ⟨#[]⟩, .string ⟨#[]⟩, .string ⟨#[]⟩, .bool false, .bool false] _ _ hr1
  have k6 := cell_setRow_same wn w.heap.size 6 _ #[.int .i64 0, .string ⟨#[]⟩, .string ⟨#[]⟩, .int .i64 0, .string ⟨#[]⟩, .string ⟨#[]⟩, .string ⟨#[]⟩, .int .i64 0, .slice none 0 0, .slice none 0 0, .string ⟨#[]⟩, .string ⟨#[]⟩, .string ⟨#[]⟩, .bool false, .bool false] _ _ hr1
  have k7 := cell_setRow_same wn w.heap.size 7 _ #[.int .i64 0, .string ⟨#[]⟩, .string ⟨#[]⟩, .int .i64 0, .string ⟨#[]⟩, .string ⟨#[]⟩, .string ⟨#[]⟩, .int .i64 0, .slice none 0 0, .slice none 0 0, .string ⟨#[]⟩, .string ⟨#[]⟩, .string ⟨#[]⟩, .bool false, .bool false] _ _ hr1
  have k8 := cell_setRow_same wn w.heap.size 8 _ #[.int .i64 0, .string ⟨#[]⟩, .string ⟨#[]⟩, .int .i64 0, .string ⟨#[]⟩, .string ⟨#[]⟩, .string ⟨#[]⟩, .int .i64 0, .slice none 0 0, .slice none 0 0, .string ⟨#[]⟩, .string ⟨#[]⟩, .string ⟨#[]⟩, .bool false, .bool false] _ _ hr1
  have k9 := cell_setRow_same wn w.heap.size 9 _ #[.int .i64 0, .string ⟨#[]⟩, .string ⟨#[]⟩, .int .i64 0, .string ⟨#[]⟩, .string ⟨#[]⟩, .string ⟨#[]⟩, .int .i64 0, .slice none 0 0, .slice none 0 0, .string ⟨#[]⟩, .string ⟨#[]⟩, .string ⟨#[]⟩, .bool false, .bool false] _ _ hr1
  have k10 := cell_setRow_same wn w.heap.size 10 _ #[.int .i64 0, .string ⟨#[]⟩, .string ⟨#[]⟩, .int .i64 0, .string ⟨#[]⟩, .string ⟨#[]⟩, .string ⟨#[]⟩, .int .i64 0, .slice none 0 0, .slice none 0 0, .string ⟨#[]⟩, .string ⟨#[]⟩, .string ⟨#[]⟩, .bool false, .bool false] _ _ hr1
  have k11 := cell_setRow_same wn w.heap.size 11 _ #[.int .i64 0, .string ⟨#[]⟩, .string ⟨#[]⟩, .int .i64 0, .string ⟨#[]⟩, .string ⟨#[]⟩, .string ⟨#[]⟩, .int .i64 0, .slice none 0 0, .slice none 0 0, .string ⟨#[]⟩, .string ⟨#[]⟩, .string ⟨#[]⟩, .bool false, .bool false] _ _ hr1
  have k12 := cell_setRow_same wn w.heap.size 12 _ #[.int .i64 0, .string ⟨#[]⟩, .string ⟨#[]⟩, .int .i64 0, .string ⟨#[]⟩, .string ⟨#[]⟩, .string ⟨#[]⟩, .int .i64 0, .slice none 0 0, .slice none 0 0, .string ⟨#[]⟩, .string ⟨#[]⟩, .string ⟨#[]⟩, .bool false, .bool false] _ _ hr1
  have k13 := cell_setRow_same wn w.heap.size 13 _ #[.int .i64 0, .string ⟨#[]⟩, .string ⟨#[]⟩, .int .i64 0, .string ⟨#[]⟩, .string ⟨#[]⟩, .string ⟨#[]⟩, .int .i64 0, .slice none 0 0, .slice none 0 0, .string ⟨#[]⟩, .string ⟨#[]⟩, .string ⟨#[]⟩, .bool false, .bool false] _ _ hr1
  have k14 := cell_setRow_same wn w.heap.size 14 _ #[.int .i64 0, .string ⟨#[]⟩, .string ⟨#[]⟩, .int .i64 0, .string ⟨#[]⟩, .string ⟨#[]⟩, .string ⟨#[]⟩, .int .i64 0, .slice none 0 0, .slice none 0 0, .string ⟨#[]⟩, .string ⟨#[]⟩, .string ⟨#[]⟩, .bool false, .bool false] _ _ hr1
  have hbf := below_setRow hbz (Nat.le_refl _) #[.int .i64 0, .string ⟨#[]⟩, .string ⟨#[]⟩, .int .i64 0, .string ⟨#[]⟩, .string ⟨#[]⟩, .string ⟨#[]⟩, .int .i64 0, .slice none 0 0, .slice none 0 0, .string ⟨#[]⟩, .string ⟨#[]⟩, .string ⟨#[]⟩, .bool false, .bool false]
  refine bodyPost_ret (v := .tuple #[.agg #[.int .i64 0, .string ⟨#[]⟩, .string ⟨#[]⟩, .int .i64 0, .string ⟨#[]⟩, .string ⟨#[]⟩, .string ⟨#[]⟩, .int .i64 0, .slice none 0 0, .slice none 0 0, .string ⟨#[]⟩, .string ⟨#[]⟩, .string ⟨#[]⟩, .bool false, .bool false], .int .i64 (ws.length : Int), .int .i64 19]) (by simp [results, Tryz.results8, go_sem, k0, k1, k2, k3, k4, k5, k6, k7, k8, k9, k10, k11, k12, k13, k14, hr2]) rfl ?_
  refine ⟨?_, hbf⟩
  rw [HA.out]
  rfl


end Go.Proofs.YtnmlmbgaljnjeaaGreatDoor
