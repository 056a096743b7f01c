/- altcli.Parse: the good way. Conditions: as before. -/
import Derived.Test.YtnmlmbgaljnjeaaGreatDoorCparse2
set_option linter.unusedVariables false
set_option linter.unusedSimpArgs false
namespace Go.Proofs.YtnmlmbgaljnjeaaGreatDoor
open Go.RowKit

set_option maxRecDepth 100000 in
set_option maxHeartbeats 8000000 in
theorem cli_Parse_ok1 (ws : List ByteArray) (wv : Value) (l : List Itm) (w : World) (hlen : ws.length ≤ 1048576) (hsz : ∀ s ∈ ws, s.size ≤ 1048576) (htot : ltot ws ≤ 1073741824) (hwv : StrAt w.heap.size w wv ws) (hp : aparse aspecs 0 ws = .ok l) (xn : ByteArray) (xs : List ByteArray) (te : TypeId) (pe : Value) (hg : w.cell? ⟨2, 0, none⟩ = some (.iface te pe)) (hx : acommands l = [(xn, xs)]) (hop : avalues l ⟨#[]⟩ = []) (hsl : ahas l slaveB = false) :
    Calls Tryz.prog 8 #[wv] w (CliPost ws w) := by
  have hac : acli ws = if (afill l (xn, xs)).err ≠ 0 then .error (ws.length, (afill l (xn, xs)).err) else .ok (acmd l (xn, xs)) := by
    rw [acli, hp]; dsimp only; rw [hx]; dsimp only; rw [if_neg (by
      rintro (h | ⟨h1, h2⟩)
      · exact h hop
      · rw [hsl] at h1; cases h1)]
  have hgl := World.block_lt_of_cell? w _ hg
  have hb0 : Below w.heap.size w (w.alloc (.cells zeroCmd 39)) := (Below.refl _ _).alloc (Nat.le_refl _) _
  have hP := fun (W : World) (sv : Value) (hW : Below w.heap.size w W) (hs : SpcAt W.heap.size W sv aspecs) => args_Parse aspecs ws sv wv W aspecs_meek hlen hsz htot hs (rowAt_top (hwv.below hW))
  unfold ParsePost at hP
  simp only [hp] at hP
  obtain ⟨hok, hfl, hll⟩ := aparse_okay aspecs 1048576 ws 0 l hsz hp
  have HOK := Lib.hid hok
  have HP := Lib.hid hP
  have HA := Lib.hid hac
  have HR := Lib.hid (heap_alloc_new w (.cells zeroCmd 39))
  have HC := Lib.hid (fun (lo : Nat) (v : Value) (W : World) (hv : ItmAt lo W v l) => cli_commands lo v l W (by omega) hv)
  have HO := Lib.hid (fun (lo : Nat) (v : Value) (W : World) (hv : ItmAt lo W v l) => args_Operands lo v l W (by omega) (by omega) hv)
  have HH := Lib.hid (fun (lo : Nat) (v : Value) (s : ByteArray) (W : World) (hv : ItmAt lo W v l) => args_Has lo v l s W (by omega) hv)
  have HL := Lib.hid (fun (lo : Nat) (v : Value) (s o : ByteArray) (W : World) (hv : ItmAt lo W v l) => cli_last lo v l s o W (by omega) (by omega) (fun u hu => by obtain ⟨y, hy, hu⟩ := List.mem_flatMap.1 hu; exact Nat.lt_of_le_of_lt ((hok y hy).2 u hu) (by omega)) hv)
  clear hP hac hsz hok
  unfold zeroCmd cmdCells at hb0 HR
  obtain ⟨A0, c0, rfl, hc0, _⟩ := id hwv
  have HX := Lib.hid hx
  clear hx
  have HOps : Hid ((avalues l ⟨#[]⟩).length = 0) := Lib.hid (by rw [hop]; rfl)
  have hcm := cmd_itm HOK.out (x := (xn, xs)) (by rw [HX.out]; simp)
  unfold slaveB at hsl
  clear hop
  go_enter Tryz.func8, Tryz.ntmps8
  go_wp2_with (first | (go_at_call 6; refine (cli_Specs _).mono ?_; rintro e w1 ⟨b1, rfl, hsp, _, _, hb1⟩; have hb01 := hb0.trans (hb1.mono (by simp))) | (go_at_call 12; refine (HP.out w1 _ hb01 hsp).mono ?_; rintro e w2 ⟨⟨v2, rfl, hit2⟩, hb2⟩; have hb02 := hb01.trans (hb2.mono hb01.size)) | (go_at_call 13; refine (HC.out _ _ w2 hit2).mono ?_; rintro e w3 ⟨v3, rfl, hit3, hb3⟩; obtain ⟨b3, o3, c3, xv, rfl, d0, d1, lb3, hvx⟩ := one_cmd (xn := xn) (xs := xs) hit3 HX.out; have hbz := hb02.trans (hb3.mono hb02.size); have hr1 := ((hb1.trans ((hb2.trans (hb3.mono hb2.size)).mono hb1.size)).block w.heap.size (by simp)).trans HR.out; have lr := (Array.getElem?_eq_some_iff.1 hr1).1; have hit := hit2.below hb3; have hn3 : w3.heap.size ≤ w3.heap.size := Nat.le_refl _) | (go_at_call 14; refine (HO.out _ _ _ hit).mono ?_; rintro e wn ⟨An, cn, rfl, hbn⟩; rw [HOps.out]; have hbz := hbz.trans (hbn.mono hbz.size); have hit := hit.below hbn; have hvx := hvx.below hbn; have d0 : wn.cell? ⟨b3, o3, none⟩ = _ := ((bcell hbn).1 b3 _ lb3).trans d0; have d1 : wn.cell? ⟨b3, o3 + 1, none⟩ = _ := ((bcell hbn).1 b3 _ lb3).trans d1; have hr1 := (hbn.block w.heap.size lr).trans hr1; have lb3 := Nat.lt_of_lt_of_le lb3 hbn.size; have lr := Nat.lt_of_lt_of_le lr hbn.size; have hn3 : w3.heap.size ≤ wn.heap.size := Nat.le_trans hn3 hbn.size) | (go_at_call 15; refine (HH.out _ _ _ _ hit).mono ?_; rintro e wn ⟨rfl, hbn⟩; have hbz := hbz.trans (hbn.mono hbz.size); have hit := hit.below hbn; have hvx := hvx.below hbn; have d0 : wn.cell? ⟨b3, o3, none⟩ = _ := ((bcell hbn).1 b3 _ lb3).trans d0; have d1 : wn.cell? ⟨b3, o3 + 1, none⟩ = _ := ((bcell hbn).1 b3 _ lb3).trans d1; have hr1 := (hbn.block w.heap.size lr).trans hr1; have lb3 := Nat.lt_of_lt_of_le lb3 hbn.size; have lr := Nat.lt_of_lt_of_le lr hbn.size; have hn3 : w3.heap.size ≤ wn.heap.size := Nat.le_trans hn3 hbn.size))
  clear hsl
  obtain ⟨sim, hsim⟩ : ∃ sim, ahas l simulateB = sim := ⟨_, rfl⟩
  obtain ⟨qui, hqui⟩ : ∃ qui, ahas l quietB = qui := ⟨_, rfl⟩
  rw [show ahas l ⟨#[115, 105, 109, 117, 108, 97, 116, 101]⟩ = sim from hsim, show ahas l ⟨#[113, 117, 105, 101, 116]⟩ = qui from hqui]
  obtain ⟨CB, hCB⟩ : ∃ CB, wn.heap.size = CB := ⟨_, rfl⟩
  obtain ⟨wc, hwc⟩ : ∃ wc, wc = wn.alloc (.cells #[.int .i64 0, .string ⟨#[]⟩, .string ⟨#[]⟩, .int .i64 0, .string ⟨#[]⟩, .string ⟨#[]⟩, .string ⟨#[]⟩, .int .i64 0, .slice none 0 0, .slice none 0 0, .string ⟨#[]⟩, .string ⟨#[]⟩, .string ⟨#[]⟩, .bool sim, .bool qui] 39) := ⟨_, rfl⟩
  have hcb : wc.heap[CB]? = some (.cells #[.int .i64 0, .string ⟨#[]⟩, .string ⟨#[]⟩, .int .i64 0, .string ⟨#[]⟩, .string ⟨#[]⟩, .string ⟨#[]⟩, .int .i64 0, .slice none 0 0, .slice none 0 0, .string ⟨#[]⟩, .string ⟨#[]⟩, .string ⟨#[]⟩, .bool sim, .bool qui] 39 (0, 0)) := by rw [hwc, ← hCB]; exact heap_alloc_new wn _
  have lcb : CB < wc.heap.size := by rw [hwc, ← hCB]; simp
  have hbn' : Below wn.heap.size wn wc := by rw [hwc]; exact (Below.refl _ _).alloc (Nat.le_refl _) _
  have hloC : w1.heap.size ≤ CB := by
    have := hb2.size; have := hb3.size
    rw [← hCB]
    exact Nat.le_trans (Nat.le_trans hb2.size hb3.size) hn3
  have hwC : w.heap.size < CB := by rw [← hCB]; exact lr
  have hbz := hbz.trans (hbn'.mono hbz.size)
  have hit := hit.below hbn'
  have hvx := hvx.below hbn'
  have hd0 := ((bcell hbn').1 b3 _ lb3).trans d0
  have hd1 := ((bcell hbn').1 b3 _ lb3).trans d1
  have hr1 := (hbn'.block w.heap.size lr).trans hr1
  have hbC : b3 < CB := by rw [← hCB]; exact lb3
  have lb3 := Nat.lt_of_lt_of_le lb3 hbn'.size
  have lr := Nat.lt_of_lt_of_le lr hbn'.size
  rw [← hwc, hCB]
  clear d0 d1 hwc hCB hbn'
  have d0 := hd0
  have d1 := hd1
  clear hd0 hd1
  have HSim := Lib.hid hsim
  have HQui := Lib.hid hqui
  clear hsim hqui
  obtain ⟨adm, hadm⟩ : ∃ adm, alast l admindirB varlibB = adm := ⟨_, rfl⟩
  obtain ⟨alt, halt⟩ : ∃ alt, alast l altdirB etcaltB = alt := ⟨_, rfl⟩
  have hLa := fun (lo : Nat) (v : Value) (W : World) (hv : ItmAt lo W v l) => HL.out lo v admindirB varlibB W hv
  have hLb := fun (lo : Nat) (v : Value) (W : World) (hv : ItmAt lo W v l) => HL.out lo v altdirB etcaltB W hv
  rw [hadm] at hLa
  rw [halt] at hLb
  unfold admindirB varlibB at hLa
  unfold altdirB etcaltB at hLb
  have HLa := Lib.hid hLa
  have HLb := Lib.hid hLb
  have HAdm := Lib.hid hadm
  have HAlt := Lib.hid halt
  clear hLa hLb hadm halt
  go_wp2_with (first | (go_at_call 16; (with_reducible refine (HLa.out _ _ _ hit).mono ?_); rintro e wn ⟨rfl, hbn⟩; have hbz := hbz.trans (hbn.mono hbz.size); have hit := hit.below hbn; have hvx := hvx.below hbn; have d0 : wn.cell? ⟨b3, o3, none⟩ = _ := ((bcell hbn).1 b3 _ lb3).trans d0; have d1 : wn.cell? ⟨b3, o3 + 1, none⟩ = _ := ((bcell hbn).1 b3 _ lb3).trans d1; have hr1 := (hbn.block w.heap.size lr).trans hr1; have hcb := (hbn.block CB lcb).trans hcb; have lcb := Nat.lt_of_lt_of_le lcb hbn.size; have lb3 := Nat.lt_of_lt_of_le lb3 hbn.size; have lr := Nat.lt_of_lt_of_le lr hbn.size) | (go_at_call 16; (with_reducible refine (HLb.out _ _ _ hit).mono ?_); rintro e wn ⟨rfl, hbn⟩; have hbz := hbz.trans (hbn.mono hbz.size); have hit := hit.below hbn; have hvx := hvx.below hbn; have d0 : wn.cell? ⟨b3, o3, none⟩ = _ := ((bcell hbn).1 b3 _ lb3).trans d0; have d1 : wn.cell? ⟨b3, o3 + 1, none⟩ = _ := ((bcell hbn).1 b3 _ lb3).trans d1; have hr1 := (hbn.block w.heap.size lr).trans hr1; have hcb := (hbn.block CB lcb).trans hcb; have lcb := Nat.lt_of_lt_of_le lcb hbn.size; have lb3 := Nat.lt_of_lt_of_le lb3 hbn.size; have lr := Nat.lt_of_lt_of_le lr hbn.size) | (refine wpList_store_part rfl 32 _ _ rfl CB 1 #[.string adm, .string alt] rfl rfl 39 #[.int .i64 0, .string ⟨#[]⟩, .string ⟨#[]⟩, .int .i64 0, .string ⟨#[]⟩, .string ⟨#[]⟩, .string ⟨#[]⟩, .int .i64 0, .slice none 0 0, .slice none 0 0, .string ⟨#[]⟩, .string ⟨#[]⟩, .string ⟨#[]⟩, .bool sim, .bool qui] hcb (by kernel_rfl) (by simp) (by simp [Value.oneCell']) #[.int .i64 0, .string adm, .string alt, .int .i64 0, .string ⟨#[]⟩, .string ⟨#[]⟩, .string ⟨#[]⟩, .int .i64 0, .slice none 0 0, .slice none 0 0, .string ⟨#[]⟩, .string ⟨#[]⟩, .string ⟨#[]⟩, .bool sim, .bool qui] rfl ?_; obtain ⟨w10, hw10⟩ : ∃ w10, w10 = World.setRow wn CB #[.int .i64 0, .string adm, .string alt, .int .i64 0, .string ⟨#[]⟩, .string ⟨#[]⟩, .string ⟨#[]⟩, .int .i64 0, .slice none 0 0, .slice none 0 0, .string ⟨#[]⟩, .string ⟨#[]⟩, .string ⟨#[]⟩, .bool sim, .bool qui] := ⟨_, rfl⟩; rw [← hw10]; have g10 : wn.grownBy w10 (some CB) := (by rw [hw10]; exact grownBy_setRow _ _ _); have hcb10 : w10.heap[CB]? = some (.cells #[.int .i64 0, .string adm, .string alt, .int .i64 0, .string ⟨#[]⟩, .string ⟨#[]⟩, .string ⟨#[]⟩, .int .i64 0, .slice none 0 0, .slice none 0 0, .string ⟨#[]⟩, .string ⟨#[]⟩, .string ⟨#[]⟩, .bool sim, .bool qui] 39 (0, 0)) := (by rw [hw10]; exact setRow_heap _ _ _ _ _ _ hcb); clear hw10; have hbz10 : Below w.heap.size w w10 := hbz.grown g10 (Nat.le_of_lt lr) (fun kk e => by cases e; omega); have hit := hit.turned g10 hloC hcb; have hvx := RowAt.turned hvx g10 hloC hcb (by decide); have d0 : w10.cell? ⟨b3, o3, none⟩ = _ := (cell_of_block (g10.block b3 lb3 (fun e => by have := Option.some.inj e; omega)) _).trans d0; have d1 : w10.cell? ⟨b3, o3 + 1, none⟩ = _ := (cell_of_block (g10.block b3 lb3 (fun e => by have := Option.some.inj e; omega)) _).trans d1; have hr1 := (g10.block w.heap.size lr (fun e => by have := Option.some.inj e; omega)).trans hr1; have lr := Nat.lt_of_lt_of_le lr g10.size; have lb3 := Nat.lt_of_lt_of_le lb3 g10.size; have hg10 := ((bcell hbz10).1 _ 0 hgl).trans hg; have hcb := hcb10))
  obtain ⟨fr, hfr⟩ : ∃ fr, afill l (xn, xs) = fr := ⟨_, rfl⟩
  have hF := cli_fill w1.heap.size CB v2 xv l (xn, xs) te pe adm alt sim qui w10 hcb (by omega) hit hvx hloC hcm.2 (fun s hs => Nat.le_trans ((HOK.out _ hcm.1).2 s hs) (by omega)) (slave_three HOK.out) hg10
  rw [hfr] at hF
  obtain ⟨fk, fck, ⟨an, al, ap, pr, sl, fl⟩, cn, cp, nm, er⟩ := fr
  dsimp only at hF
  have HF := Lib.hid hF
  have HFR := Lib.hid hfr
  clear hF hfr hcb
  by_cases her : er = 0
  · subst her
    have hne : ((0 : Int) != 0) = false := rfl
    go_wp2_with (first | (go_at_call 17; refine HF.out.mono ?_; rintro e w11 ⟨sv, fv, rfl, hcb, hsv, hfv, g11⟩; obtain ⟨sA, sc, rfl, _⟩ := id hsv; obtain ⟨fA, fc, rfl, _⟩ := id hfv; obtain ⟨sn, hsn⟩ : ∃ sn, sl.length = sn := ⟨_, rfl⟩; obtain ⟨fn, hfn⟩ : ∃ fn, fl.length = fn := ⟨_, rfl⟩; rw [hsn] at hsv hcb; rw [hfn] at hfv hcb; unfold cmdCells at hcb; have z0 : w11.cell? ⟨CB, 0, none⟩ = some (.int .i64 fk) := (by simp [World.cell?, hcb]); have z1 : w11.cell? ⟨CB, 1, none⟩ = some (.string adm) := (by simp [World.cell?, hcb]); have z2 : w11.cell? ⟨CB, 2, none⟩ = some (.string alt) := (by simp [World.cell?, hcb]); have z3 : w11.cell? ⟨CB, 3, none⟩ = some (.int .i64 fck) := (by simp [World.cell?, hcb]); have z4 : w11.cell? ⟨CB, 4, none⟩ = some (.string an) := (by simp [World.cell?, hcb]); have z5 : w11.cell? ⟨CB, 5, none⟩ = some (.string al) := (by simp [World.cell?, hcb]); have z6 : w11.cell? ⟨CB, 6, none⟩ = some (.string ap) := (by simp [World.cell?, hcb]); have z7 : w11.cell? ⟨CB, 7, none⟩ = some (.int .i64 pr) := (by simp [World.cell?, hcb]); have z8 : w11.cell? ⟨CB, 8, none⟩ = some (.slice sA sn sc) := (by simp [World.cell?, hcb]); have z9 : w11.cell? ⟨CB, 9, none⟩ = some (.slice fA fn fc) := (by simp [World.cell?, hcb]); have z10 : w11.cell? ⟨CB, 10, none⟩ = some (.string cn) := (by simp [World.cell?, hcb]); have z11 : w11.cell? ⟨CB, 11, none⟩ = some (.string cp) := (by simp [World.cell?, hcb]); have z12 : w11.cell? ⟨CB, 12, none⟩ = some (.string nm) := (by simp [World.cell?, hcb]); have z13 : w11.cell? ⟨CB, 13, none⟩ = some (.bool sim) := (by simp [World.cell?, hcb]); have z14 : w11.cell? ⟨CB, 14, none⟩ = some (.bool qui) := (by simp [World.cell?, hcb]); have hr1 := (g11.block w.heap.size lr (fun e => by have := Option.some.inj e; omega)).trans hr1; have HSN := Lib.hid hsn; have HFN := Lib.hid hfn; clear hsn hfn) | (refine wpList_store_row rfl 39 _ _ rfl w.heap.size #[.int .i64 fk, .string adm, .string alt, .int .i64 fck, .string an, .string al, .string ap, .int .i64 pr, .slice sA sn sc, .slice fA fn fc, .string cn, .string cp, .string nm, .bool sim, .bool qui] rfl rfl 39 _ hr1 (by kernel_rfl) rfl (by simp [Value.oneCell']) ?_))
    have hr2 := setRow_heap w11 w.heap.size _ #[.int .i64 fk, .string adm, .string alt, .int .i64 fck, .string an, .string al, .string ap, .int .i64 pr, .slice sA sn sc, .slice fA fn fc, .string cn, .string cp, .string nm, .bool sim, .bool qui] 39 (0, 0) hr1
    have k0 := cell_setRow_same w11 w.heap.size 0 _ #[.int .i64 fk, .string adm, .string alt, .int .i64 fck, .string an, .string al, .string ap, .int .i64 pr, .slice sA sn sc, .slice fA fn fc, .string cn, .string cp, .string nm, .bool sim, .bool qui] _ _ hr1
    have k1 := cell_setRow_same w11 w.heap.size 1 _ #[.int .i64 fk, .string adm, .string alt, .int .i64 fck, .string an, .string al, .string ap, .int .i64 pr, .slice sA sn sc, .slice fA fn fc, .string cn, .string cp, .string nm, .bool sim, .bool qui] _ _ hr1
    have k2 := cell_setRow_same w11 w.heap.size 2 _ #[.int .i64 fk, .string adm, .string alt, .int .i64 fck, .string an, .string al, .string ap, .int .i64 pr, .slice sA sn sc, .slice fA fn fc, .string cn, .string cp, .string nm, .bool sim, .bool qui] _ _ hr1
    have k3 := cell_setRow_same w11 w.heap.size 3 _ #[.int .i64 fk, .string adm, .string alt, .int .i64 fck, .string an, .string al, .string ap, .int .i64 pr, .slice sA sn sc, .slice fA fn fc, .string cn, .string cp, .string nm, .bool sim, .bool qui] _ _ hr1
    have k4 := cell_setRow_same w11 w.heap.size 4 _ #[.int .i64 fk, .string adm, .string alt, .int .i64 fck, .string an, .string al, .string ap, .int .i64 pr, .slice sA sn sc, .slice fA fn fc, .string cn, .string cp, .string nm, .bool sim, .bool qui] _ _ hr1
    have k5 := cell_setRow_same w11 w.heap.size 5 _ #[.int .i64 fk, .string adm, .string alt, .int .i64 fck, .string an, .string al, .string ap, .int .i64 pr, .slice sA sn sc, .slice fA fn fc, .string cn, .string cp, .string nm, .bool sim, .bool qui] _ _ hr1
    have k6 := cell_setRow_same w11 w.heap.size 6 _ #[.int .i64 fk, .string adm, .string alt, .int .i64 fck, .string an, .string al, .string ap, .int .i64 pr, .slice sA sn sc, .slice fA fn fc, .string cn, .string cp, .string nm, .bool sim, .bool qui] _ _ hr1
    have k7 := cell_setRow_same w11 w.heap.size 7 _ #[.int .i64 fk, .string adm, .string alt, .int .i64 fck, .string an, .string al, .string ap, .int .i64 pr, .slice sA sn sc, .slice fA fn fc, .string cn, .string cp, .string nm, .bool sim, .bool qui] _ _ hr1
    have k8 := cell_setRow_same w11 w.heap.size 8 _ #[.int .i64 fk, .string adm, .string alt, .int .i64 fck, .string an, .string al, .string ap, .int .i64 pr, .slice sA sn sc, .slice fA fn fc, .string cn, .string cp, .string nm, .bool sim, .bool qui] _ _ hr1
    have k9 := cell_setRow_same w11 w.heap.size 9 _ #[.int .i64 fk, .string adm, .string alt, .int .i64 fck, .string an, .string al, .string ap, .int .i64 pr, .slice sA sn sc, .slice fA fn fc, .string cn, .string cp, .string nm, .bool sim, .bool qui] _ _ hr1
    have k10 := cell_setRow_same w11 w.heap.size 10 _ #[.int .i64 fk, .string adm, .string alt, .int .i64 fck, .string an, .string al, .string ap, .int .i64 pr, .slice sA sn sc, .slice fA fn fc, .string cn, .string cp, .string nm, .bool sim, .bool qui] _ _ hr1
    have k11 := cell_setRow_same w11 w.heap.size 11 _ #[.int .i64 fk, .string adm, .string alt, .int .i64 fck, .string an, .string al, .string ap, .int .i64 pr, .slice sA sn sc, .slice fA fn fc, .string cn, .string cp, .string nm, .bool sim, .bool qui] _ _ hr1
    have k12 := cell_setRow_same w11 w.heap.size 12 _ #[.int .i64 fk, .string adm, .string alt, .int .i64 fck, .string an, .string al, .string ap, .int .i64 pr, .slice sA sn sc, .slice fA fn fc, .string cn, .string cp, .string nm, .bool sim, .bool qui] _ _ hr1
    have k13 := cell_setRow_same w11 w.heap.size 13 _ #[.int .i64 fk, .string adm, .string alt, .int .i64 fck, .string an, .string al, .string ap, .int .i64 pr, .slice sA sn sc, .slice fA fn fc, .string cn, .string cp, .string nm, .bool sim, .bool qui] _ _ hr1
    have k14 := cell_setRow_same w11 w.heap.size 14 _ #[.int .i64 fk, .string adm, .string alt, .int .i64 fck, .string an, .string al, .string ap, .int .i64 pr, .slice sA sn sc, .slice fA fn fc, .string cn, .string cp, .string nm, .bool sim, .bool qui] _ _ hr1
    have hgr := grownBy_setRow w11 w.heap.size #[.int .i64 fk, .string adm, .string alt, .int .i64 fck, .string an, .string al, .string ap, .int .i64 pr, .slice sA sn sc, .slice fA fn fc, .string cn, .string cp, .string nm, .bool sim, .bool qui]
    have hbg : Below w.heap.size w w11 := hbz10.grown g11 (Nat.le_of_lt lr) (fun kk e => by cases e; omega)
    have hbf := below_setRow hbg (Nat.le_refl _) #[.int .i64 fk, .string adm, .string alt, .int .i64 fck, .string an, .string al, .string ap, .int .i64 pr, .slice sA sn sc, .slice fA fn fc, .string cn, .string cp, .string nm, .bool sim, .bool qui]
    refine bodyPost_ret (v := .tuple #[.agg #[.int .i64 fk, .string adm, .string alt, .int .i64 fck, .string an, .string al, .string ap, .int .i64 pr, .slice sA sn sc, .slice fA fn fc, .string cn, .string cp, .string nm, .bool sim, .bool qui], .int .i64 (-1), .int .i64 0]) (by simp [results, Tryz.results8, go_sem, k0, k1, k2, k3, k4, k5, k6, k7, k8, k9, k10, k11, k12, k13, k14, hr2]) rfl ?_
    refine ⟨?_, hbf⟩
    rw [HA.out, HFR.out, if_neg (by simp)]
    refine ⟨_, rfl, .slice sA sn sc, .slice fA fn fc, ?_, ?_, ?_⟩
    · unfold acmd
      rw [HFR.out, HSim.out, HQui.out, HAdm.out, HAlt.out]
      rfl
    · have h := rowAt_top hsv
      have hk : Keeps (fun i => i = w.heap.size) w11 _ := ⟨hgr.size, fun i hi hn => hgr.block i hi (fun e => hn (Option.some.inj e))⟩
      unfold acmd
      rw [HFR.out]
      dsimp only
      refine rowAt_top (RowAt.keeps hsv hk ?_)
      rintro i rfl (hst | ⟨c1, z1, hst⟩)
      · omega
      · rw [hr1] at hst; cases hst
    · have hk : Keeps (fun i => i = w.heap.size) w11 _ := ⟨hgr.size, fun i hi hn => hgr.block i hi (fun e => hn (Option.some.inj e))⟩
      unfold acmd
      rw [HFR.out]
      dsimp only
      refine rowAt_top (RowAt.keeps hfv hk ?_)
      rintro i rfl (hst | ⟨c1, z1, hst⟩)
      · omega
      · rw [hr1] at hst; cases hst
  · have hne : (er != 0) = true := by rw [bne_iff_ne]; exact her
    go_wp2_with (first | (go_at_call 17; refine HF.out.mono ?_; rintro e w11 ⟨sv, fv, rfl, hcb, hsv, hfv, g11⟩; have hr1 := (g11.block w.heap.size lr (fun e => by have := Option.some.inj e; omega)).trans hr1; clear hcb) | (refine wpList_store_row rfl 39 _ _ rfl w.heap.size #[.int .i64 0, .string ⟨#[]⟩, .string ⟨#[]⟩, .int .i64 0, .string ⟨#[]⟩, .string ⟨#[]⟩, .string ⟨#[]⟩, .int .i64 0, .slice none 0 0, .slice none 0 0, .string ⟨#[]⟩, .string ⟨#[]⟩, .string ⟨#[]⟩, .bool false, .bool false] rfl rfl 39 _ hr1 (by kernel_rfl) rfl (by simp [Value.oneCell']) ?_))
    have hr2 := setRow_heap w11 w.heap.size _ #[.int .i64 0, .string ⟨#[]⟩, .string ⟨#[]⟩, .int .i64 0, .string ⟨#[]⟩, .string ⟨#[]⟩, .string ⟨#[]⟩, .int .i64 0, .slice none 0 0, .slice none 0 0, .string ⟨#[]⟩, .string ⟨#[]⟩, .string ⟨#[]⟩, .bool false, .bool false] 39 (0, 0) hr1
    have k0 := cell_setRow_same w11 w.heap.size 0 _ #[.int .i64 0, .string ⟨#[]⟩, .string ⟨#[]⟩, .int .i64 0, .string ⟨#[]⟩, .string ⟨#[]⟩, .string ⟨#[]⟩, .int .i64 0, .slice none 0 0, .slice none 0 0, .string ⟨#[]⟩, .string ⟨#[]⟩, .string ⟨#[]⟩, .bool false, .bool false] _ _ hr1
    have k1 := cell_setRow_same w11 w.heap.size 1 _ #[.int .i64 0, .string ⟨#[]⟩, .string ⟨#[]⟩, .int .i64 0, .string ⟨#[]⟩, .string ⟨#[]⟩, .string ⟨#[]⟩, .int .i64 0, .slice none 0 0, .slice none 0 0, .string ⟨#[]⟩, .string ⟨#[]⟩, .string ⟨#[]⟩, .bool false, .bool false] _ _ hr1
    have k2 := cell_setRow_same w11 w.heap.size 2 _ #[.int .i64 0, .string ⟨#[]⟩, .string ⟨#[]⟩, .int .i64 0, .string ⟨#[]⟩, .string ⟨#[]⟩, .string ⟨#[]⟩, .int .i64 0, .slice none 0 0, .slice none 0 0, .string ⟨#[]⟩, .string ⟨#[]⟩, .string ⟨#[]⟩, .bool false, .bool false] _ _ hr1
    have k3 := cell_setRow_same w11 w.heap.size 3 _ #[.int .i64 0, .string ⟨#[]⟩, .string ⟨#[]⟩, .int .i64 0, .string ⟨#[]⟩, .string ⟨#[]⟩, .string ⟨#[]⟩, .int .i64 0, .slice none 0 0, .slice none 0 0, .string ⟨#[]⟩, .string ⟨#[]⟩, .string ⟨#[]⟩, .bool false, .bool false] _ _ hr1
    have k4 := cell_setRow_same w11 w.heap.size 4 _ #[.int .i64 0, .string ⟨#[]⟩, .string ⟨#[]⟩, .int .i64 0, .string ⟨#[]⟩, .string ⟨#[]⟩, .string ⟨#[]⟩, .int .i64 0, .slice none 0 0, .slice none 0 0, .string ⟨#[]⟩, .string ⟨#[]⟩, .string ⟨#[]⟩, .bool false, .bool false] _ _ hr1
    have k5 := cell_setRow_same w11 w.heap.size 5 _ #[.int .i64 0, .string ⟨#[]⟩, .string ⟨#[]⟩, .int .i64 0, .string ⟨#[]⟩, .string ⟨#[]⟩, .string ⟨#[]⟩, .int .i64 0, .slice none 0 0, .slice none 0 0, .string ⟨#[]⟩, .string ⟨#[]⟩, .string ⟨#[]⟩, .bool false, .bool false] _ _ hr1
    have k6 := cell_setRow_same w11 w.heap.size 6 _ #[.int .i64 0, .string ⟨#[]⟩, .string ⟨#[]⟩, .int .i64 0, .string ⟨#[]⟩, .string ⟨#[]⟩, .string ⟨#[]⟩, .int .i64 0, .slice none 0 0, .slice none 0 0, .string ⟨#[]⟩, .string ⟨#[]⟩, .string ⟨#[]⟩, .bool false, .bool false] _ _ hr1
    have k7 := cell_setRow_same w11 w.heap.size 7 _ #[.int .i64 0, .string ⟨#[]⟩, .string ⟨#[]⟩, .int .i64 0, .string ⟨#[]⟩, .string ⟨#[]⟩, .string ⟨#[]⟩, .int .i64 0, .slice none 0 0, .slice none 0 0, .string ⟨#[]⟩, .string ⟨#[]⟩, .string ⟨#[]⟩, .bool false, .bool false] _ _ hr1
    have k8 := cell_setRow_same w11 w.heap.size 8 _ #[.int .i64 0, .string ⟨#[]⟩, .string ⟨#[]⟩, .int .i64 0, .string ⟨#[]⟩, .string ⟨#[]⟩, .string ⟨#[]⟩, .int .i64 0, .slice none 0 0, .slice none 0 0, .string ⟨#[]⟩, .string ⟨#[]⟩, .string ⟨#[]⟩, .bool false, .bool false] _ _ hr1
    have k9 := cell_setRow_same w11 w.heap.size 9 _ #[.int .i64 0, .string ⟨#[]⟩, .string ⟨#[]⟩, .int .i64 0, .string ⟨#[]⟩, .string ⟨#[]⟩, .string ⟨#[]⟩, .int .i64 0, .slice none 0 0, .slice none 0 0, .string ⟨#[]⟩, .string ⟨#[]⟩, .string ⟨#[]⟩, .bool false, .bool false] _ _ hr1
    have k10 := cell_setRow_same w11 w.heap.size 10 _ #[.int .i64 0, .string ⟨#[]⟩, .string ⟨#[]⟩, .int .i64 0, .string ⟨#[]⟩, .string ⟨#[]⟩, .string ⟨#[]⟩, .int .i64 0, .slice none 0 0, .slice none 0 0, .string ⟨#[]⟩, .string ⟨#[]⟩, .string ⟨#[]⟩, .bool false, .bool false] _ _ hr1
    have k11 := cell_setRow_same w11 w.heap.size 11 _ #[.int .i64 0, .string ⟨#[]⟩, .string ⟨#[]⟩, .int .i64 0, .string ⟨#[]⟩, .string ⟨#[]⟩, .string ⟨#[]⟩, .int .i64 0, .slice none 0 0, .slice none 0 0, .string ⟨#[]⟩, .string ⟨#[]⟩, .string ⟨#[]⟩, .bool false, .bool false] _ _ hr1
    have k12 := cell_setRow_same w11 w.heap.size 12 _ #[.int .i64 0, .string ⟨#[]⟩, .string ⟨#[]⟩, .int .i64 0, .string ⟨#[]⟩, .string ⟨#[]⟩, .string ⟨#[]⟩, .int .i64 0, .slice none 0 0, .slice none 0 0, .string ⟨#[]⟩, .string ⟨#[]⟩, .string ⟨#[]⟩, .bool false, .bool false] _ _ hr1
    have k13 := cell_setRow_same w11 w.heap.size 13 _ #[.int .i64 0, .string ⟨#[]⟩, .string ⟨#[]⟩, .int .i64 0, .string ⟨#[]⟩, .string ⟨#[]⟩, .string ⟨#[]⟩, .int .i64 0, .slice none 0 0, .slice none 0 0, .string ⟨#[]⟩, .string ⟨#[]⟩, .string ⟨#[]⟩, .bool false, .bool false] _ _ hr1
    have k14 := cell_setRow_same w11 w.heap.size 14 _ #[.int .i64 0, .string ⟨#[]⟩, .string ⟨#[]⟩, .int .i64 0, .string ⟨#[]⟩, .string ⟨#[]⟩, .string ⟨#[]⟩, .int .i64 0, .slice none 0 0, .slice none 0 0, .string ⟨#[]⟩, .string ⟨#[]⟩, .string ⟨#[]⟩, .bool false, .bool false] _ _ hr1
    have hbg : Below w.heap.size w w11 := hbz10.grown g11 (Nat.le_of_lt lr) (fun kk e => by cases e; omega)
    have hbf := below_setRow hbg (Nat.le_refl _) #[.int .i64 0, .string ⟨#[]⟩, .string ⟨#[]⟩, .int .i64 0, .string ⟨#[]⟩, .string ⟨#[]⟩, .string ⟨#[]⟩, .int .i64 0, .slice none 0 0, .slice none 0 0, .string ⟨#[]⟩, .string ⟨#[]⟩, .string ⟨#[]⟩, .bool false, .bool false]
    refine bodyPost_ret (v := .tuple #[.agg #[.int .i64 0, .string ⟨#[]⟩, .string ⟨#[]⟩, .int .i64 0, .string ⟨#[]⟩, .string ⟨#[]⟩, .string ⟨#[]⟩, .int .i64 0, .slice none 0 0, .slice none 0 0, .string ⟨#[]⟩, .string ⟨#[]⟩, .string ⟨#[]⟩, .bool false, .bool false], .int .i64 (ws.length : Int), .int .i64 er]) (by simp [results, Tryz.results8, go_sem, k0, k1, k2, k3, k4, k5, k6, k7, k8, k9, k10, k11, k12, k13, k14, hr2]) rfl ?_
    refine ⟨?_, hbf⟩
    rw [HA.out, HFR.out, if_pos her]
    rfl

set_option maxRecDepth 100000 in
set_option maxHeartbeats 8000000 in
theorem cli_Parse_ok2 (ws : List ByteArray) (wv : Value) (l : List Itm) (w : World) (hlen : ws.length ≤ 1048576) (hsz : ∀ s ∈ ws, s.size ≤ 1048576) (htot : ltot ws ≤ 1073741824) (hwv : StrAt w.heap.size w wv ws) (hp : aparse aspecs 0 ws = .ok l) (xn : ByteArray) (xs : List ByteArray) (te : TypeId) (pe : Value) (hg : w.cell? ⟨2, 0, none⟩ = some (.iface te pe)) (hx : acommands l = [(xn, xs)]) (hop : avalues l ⟨#[]⟩ = []) (hsl : ahas l slaveB = true) (hin : xn = installB) :
    Calls Tryz.prog 8 #[wv] w (CliPost ws w) := by
  have hac : acli ws = if (afill l (xn, xs)).err ≠ 0 then .error (ws.length, (afill l (xn, xs)).err) else .ok (acmd l (xn, xs)) := by
    rw [acli, hp]; dsimp only; rw [hx]; dsimp only; rw [if_neg (by
      rintro (h | ⟨h1, h2⟩)
      · exact h hop
      · exact h2 hin)]
  have hgl := World.block_lt_of_cell? w _ hg
  have hb0 : Below w.heap.size w (w.alloc (.cells zeroCmd 39)) := (Below.refl _ _).alloc (Nat.le_refl _) _
  have hP := fun (W : World) (sv : Value) (hW : Below w.heap.size w W) (hs : SpcAt W.heap.size W sv aspecs) => args_Parse aspecs ws sv wv W aspecs_meek hlen hsz htot hs (rowAt_top (hwv.below hW))
  unfold ParsePost at hP
  simp only [hp] at hP
  obtain ⟨hok, hfl, hll⟩ := aparse_okay aspecs 1048576 ws 0 l hsz hp
  have HOK := Lib.hid hok
  have HP := Lib.hid hP
  have HA := Lib.hid hac
  have HR := Lib.hid (heap_alloc_new w (.cells zeroCmd 39))
  have HC := Lib.hid (fun (lo : Nat) (v : Value) (W : World) (hv : ItmAt lo W v l) => cli_commands lo v l W (by omega) hv)
  have HO := Lib.hid (fun (lo : Nat) (v : Value) (W : World) (hv : ItmAt lo W v l) => args_Operands lo v l W (by omega) (by omega) hv)
  have HH := Lib.hid (fun (lo : Nat) (v : Value) (s : ByteArray) (W : World) (hv : ItmAt lo W v l) => args_Has lo v l s W (by omega) hv)
  have HL := Lib.hid (fun (lo : Nat) (v : Value) (s o : ByteArray) (W : World) (hv : ItmAt lo W v l) => cli_last lo v l s o W (by omega) (by omega) (fun u hu => by obtain ⟨y, hy, hu⟩ := List.mem_flatMap.1 hu; exact Nat.lt_of_le_of_lt ((hok y hy).2 u hu) (by omega)) hv)
  clear hP hac hsz hok
  unfold zeroCmd cmdCells at hb0 HR
  obtain ⟨A0, c0, rfl, hc0, _⟩ := id hwv
  have HX := Lib.hid hx
  clear hx
  have HOps : Hid ((avalues l ⟨#[]⟩).length = 0) := Lib.hid (by rw [hop]; rfl)
  have hcm := cmd_itm HOK.out (x := (xn, xs)) (by rw [HX.out]; simp)
  unfold slaveB at hsl
  have ht0 : (xn.toList == [105, 110, 115, 116, 97, 108, 108]) = true := by rw [hin, Lib.toList_data]; rfl
  have ht : (!(xn.toList == [105, 110, 115, 116, 97, 108, 108])) = false := by rw [ht0]; rfl
  clear hin
  clear hop
  go_enter Tryz.func8, Tryz.ntmps8
  go_wp2_with (first | (go_at_call 6; refine (cli_Specs _).mono ?_; rintro e w1 ⟨b1, rfl, hsp, _, _, hb1⟩; have hb01 := hb0.trans (hb1.mono (by simp))) | (go_at_call 12; refine (HP.out w1 _ hb01 hsp).mono ?_; rintro e w2 ⟨⟨v2, rfl, hit2⟩, hb2⟩; have hb02 := hb01.trans (hb2.mono hb01.size)) | (go_at_call 13; refine (HC.out _ _ w2 hit2).mono ?_; rintro e w3 ⟨v3, rfl, hit3, hb3⟩; obtain ⟨b3, o3, c3, xv, rfl, d0, d1, lb3, hvx⟩ := one_cmd (xn := xn) (xs := xs) hit3 HX.out; have hbz := hb02.trans (hb3.mono hb02.size); have hr1 := ((hb1.trans ((hb2.trans (hb3.mono hb2.size)).mono hb1.size)).block w.heap.size (by simp)).trans HR.out; have lr := (Array.getElem?_eq_some_iff.1 hr1).1; have hit := hit2.below hb3; have hn3 : w3.heap.size ≤ w3.heap.size := Nat.le_refl _) | (go_at_call 14; refine (HO.out _ _ _ hit).mono ?_; rintro e wn ⟨An, cn, rfl, hbn⟩; rw [HOps.out]; have hbz := hbz.trans (hbn.mono hbz.size); have hit := hit.below hbn; have hvx := hvx.below hbn; have d0 : wn.cell? ⟨b3, o3, none⟩ = _ := ((bcell hbn).1 b3 _ lb3).trans d0; have d1 : wn.cell? ⟨b3, o3 + 1, none⟩ = _ := ((bcell hbn).1 b3 _ lb3).trans d1; have hr1 := (hbn.block w.heap.size lr).trans hr1; have lb3 := Nat.lt_of_lt_of_le lb3 hbn.size; have lr := Nat.lt_of_lt_of_le lr hbn.size; have hn3 : w3.heap.size ≤ wn.heap.size := Nat.le_trans hn3 hbn.size) | (go_at_call 15; refine (HH.out _ _ _ _ hit).mono ?_; rintro e wn ⟨rfl, hbn⟩; have hbz := hbz.trans (hbn.mono hbz.size); have hit := hit.below hbn; have hvx := hvx.below hbn; have d0 : wn.cell? ⟨b3, o3, none⟩ = _ := ((bcell hbn).1 b3 _ lb3).trans d0; have d1 : wn.cell? ⟨b3, o3 + 1, none⟩ = _ := ((bcell hbn).1 b3 _ lb3).trans d1; have hr1 := (hbn.block w.heap.size lr).trans hr1; have lb3 := Nat.lt_of_lt_of_le lb3 hbn.size; have lr := Nat.lt_of_lt_of_le lr hbn.size; have hn3 : w3.heap.size ≤ wn.heap.size := Nat.le_trans hn3 hbn.size))
  clear hsl
  obtain ⟨sim, hsim⟩ : ∃ sim, ahas l simulateB = sim := ⟨_, rfl⟩
  obtain ⟨qui, hqui⟩ : ∃ qui, ahas l quietB = qui := ⟨_, rfl⟩
  rw [show ahas l ⟨#[115, 105, 109, 117, 108, 97, 116, 101]⟩ = sim from hsim, show ahas l ⟨#[113, 117, 105, 101, 116]⟩ = qui from hqui]
  obtain ⟨CB, hCB⟩ : ∃ CB, wn.heap.size = CB := ⟨_, rfl⟩
  obtain ⟨wc, hwc⟩ : ∃ wc, wc = wn.alloc (.cells #[.int .i64 0, .string ⟨#[]⟩, .string ⟨#[]⟩, .int .i64 0, .string ⟨#[]⟩, .string ⟨#[]⟩, .string ⟨#[]⟩, .int .i64 0, .slice none 0 0, .slice none 0 0, .string ⟨#[]⟩, .string ⟨#[]⟩, .string ⟨#[]⟩, .bool sim, .bool qui] 39) := ⟨_, rfl⟩
  have hcb : wc.heap[CB]? = some (.cells #[.int .i64 0, .string ⟨#[]⟩, .string ⟨#[]⟩, .int .i64 0, .string ⟨#[]⟩, .string ⟨#[]⟩, .string ⟨#[]⟩, .int .i64 0, .slice none 0 0, .slice none 0 0, .string ⟨#[]⟩, .string ⟨#[]⟩, .string ⟨#[]⟩, .bool sim, .bool qui] 39 (0, 0)) := by rw [hwc, ← hCB]; exact heap_alloc_new wn _
  have lcb : CB < wc.heap.size := by rw [hwc, ← hCB]; simp
  have hbn' : Below wn.heap.size wn wc := by rw [hwc]; exact (Below.refl _ _).alloc (Nat.le_refl _) _
  have hloC : w1.heap.size ≤ CB := by
    have := hb2.size; have := hb3.size
    rw [← hCB]
    exact Nat.le_trans (Nat.le_trans hb2.size hb3.size) hn3
  have hwC : w.heap.size < CB := by rw [← hCB]; exact lr
  have hbz := hbz.trans (hbn'.mono hbz.size)
  have hit := hit.below hbn'
  have hvx := hvx.below hbn'
  have hd0 := ((bcell hbn').1 b3 _ lb3).trans d0
  have hd1 := ((bcell hbn').1 b3 _ lb3).trans d1
  have hr1 := (hbn'.block w.heap.size lr).trans hr1
  have hbC : b3 < CB := by rw [← hCB]; exact lb3
  have lb3 := Nat.lt_of_lt_of_le lb3 hbn'.size
  have lr := Nat.lt_of_lt_of_le lr hbn'.size
  rw [← hwc, hCB]
  clear d0 d1 hwc hCB hbn'
  have d0 := hd0
  have d1 := hd1
  clear hd0 hd1
  have HSim := Lib.hid hsim
  have HQui := Lib.hid hqui
  clear hsim hqui
  obtain ⟨adm, hadm⟩ : ∃ adm, alast l admindirB varlibB = adm := ⟨_, rfl⟩
  obtain ⟨alt, halt⟩ : ∃ alt, alast l altdirB etcaltB = alt := ⟨_, rfl⟩
  have hLa := fun (lo : Nat) (v : Value) (W : World) (hv : ItmAt lo W v l) => HL.out lo v admindirB varlibB W hv
  have hLb := fun (lo : Nat) (v : Value) (W : World) (hv : ItmAt lo W v l) => HL.out lo v altdirB etcaltB W hv
  rw [hadm] at hLa
  rw [halt] at hLb
  unfold admindirB varlibB at hLa
  unfold altdirB etcaltB at hLb
  have HLa := Lib.hid hLa
  have HLb := Lib.hid hLb
  have HAdm := Lib.hid hadm
  have HAlt := Lib.hid halt
  clear hLa hLb hadm halt
  go_wp2_with (first | (go_at_call 16; (with_reducible refine (HLa.out _ _ _ hit).mono ?_); rintro e wn ⟨rfl, hbn⟩; have hbz := hbz.trans (hbn.mono hbz.size); have hit := hit.below hbn; have hvx := hvx.below hbn; have d0 : wn.cell? ⟨b3, o3, none⟩ = _ := ((bcell hbn).1 b3 _ lb3).trans d0; have d1 : wn.cell? ⟨b3, o3 + 1, none⟩ = _ := ((bcell hbn).1 b3 _ lb3).trans d1; have hr1 := (hbn.block w.heap.size lr).trans hr1; have hcb := (hbn.block CB lcb).trans hcb; have lcb := Nat.lt_of_lt_of_le lcb hbn.size; have lb3 := Nat.lt_of_lt_of_le lb3 hbn.size; have lr := Nat.lt_of_lt_of_le lr hbn.size) | (go_at_call 16; (with_reducible refine (HLb.out _ _ _ hit).mono ?_); rintro e wn ⟨rfl, hbn⟩; have hbz := hbz.trans (hbn.mono hbz.size); have hit := hit.below hbn; have hvx := hvx.below hbn; have d0 : wn.cell? ⟨b3, o3, none⟩ = _ := ((bcell hbn).1 b3 _ lb3).trans d0; have d1 : wn.cell? ⟨b3, o3 + 1, none⟩ = _ := ((bcell hbn).1 b3 _ lb3).trans d1; have hr1 := (hbn.block w.heap.size lr).trans hr1; have hcb := (hbn.block CB lcb).trans hcb; have lcb := Nat.lt_of_lt_of_le lcb hbn.size; have lb3 := Nat.lt_of_lt_of_le lb3 hbn.size; have lr := Nat.lt_of_lt_of_le lr hbn.size) | (refine wpList_store_part rfl 32 _ _ rfl CB 1 #[.string adm, .string alt] rfl rfl 39 #[.int .i64 0, .string ⟨#[]⟩, .string ⟨#[]⟩, .int .i64 0, .string ⟨#[]⟩, .string ⟨#[]⟩, .string ⟨#[]⟩, .int .i64 0, .slice none 0 0, .slice none 0 0, .string ⟨#[]⟩, .string ⟨#[]⟩, .string ⟨#[]⟩, .bool sim, .bool qui] hcb (by kernel_rfl) (by simp) (by simp [Value.oneCell']) #[.int .i64 0, .string adm, .string alt, .int .i64 0, .string ⟨#[]⟩, .string ⟨#[]⟩, .string ⟨#[]⟩, .int .i64 0, .slice none 0 0, .slice none 0 0, .string ⟨#[]⟩, .string ⟨#[]⟩, .string ⟨#[]⟩, .bool sim, .bool qui] rfl ?_; obtain ⟨w10, hw10⟩ : ∃ w10, w10 = World.setRow wn CB #[.int .i64 0, .string adm, .string alt, .int .i64 0, .string ⟨#[]⟩, .string ⟨#[]⟩, .string ⟨#[]⟩, .int .i64 0, .slice none 0 0, .slice none 0 0, .string ⟨#[]⟩, .string ⟨#[]⟩, .string ⟨#[]⟩, .bool sim, .bool qui] := ⟨_, rfl⟩; rw [← hw10]; have g10 : wn.grownBy w10 (some CB) := (by rw [hw10]; exact grownBy_setRow _ _ _); have hcb10 : w10.heap[CB]? = some (.cells #[.int .i64 0, .string adm, .string alt, .int .i64 0, .string ⟨#[]⟩, .string ⟨#[]⟩, .string ⟨#[]⟩, .int .i64 0, .slice none 0 0, .slice none 0 0, .string ⟨#[]⟩, .string ⟨#[]⟩, .string ⟨#[]⟩, .bool sim, .bool qui] 39 (0, 0)) := (by rw [hw10]; exact setRow_heap _ _ _ _ _ _ hcb); clear hw10; have hbz10 : Below w.heap.size w w10 := hbz.grown g10 (Nat.le_of_lt lr) (fun kk e => by cases e; omega); have hit := hit.turned g10 hloC hcb; have hvx := RowAt.turned hvx g10 hloC hcb (by decide); have d0 : w10.cell? ⟨b3, o3, none⟩ = _ := (cell_of_block (g10.block b3 lb3 (fun e => by have := Option.some.inj e; omega)) _).trans d0; have d1 : w10.cell? ⟨b3, o3 + 1, none⟩ = _ := (cell_of_block (g10.block b3 lb3 (fun e => by have := Option.some.inj e; omega)) _).trans d1; have hr1 := (g10.block w.heap.size lr (fun e => by have := Option.some.inj e; omega)).trans hr1; have lr := Nat.lt_of_lt_of_le lr g10.size; have lb3 := Nat.lt_of_lt_of_le lb3 g10.size; have hg10 := ((bcell hbz10).1 _ 0 hgl).trans hg; have hcb := hcb10))
  obtain ⟨fr, hfr⟩ : ∃ fr, afill l (xn, xs) = fr := ⟨_, rfl⟩
  have hF := cli_fill w1.heap.size CB v2 xv l (xn, xs) te pe adm alt sim qui w10 hcb (by omega) hit hvx hloC hcm.2 (fun s hs => Nat.le_trans ((HOK.out _ hcm.1).2 s hs) (by omega)) (slave_three HOK.out) hg10
  rw [hfr] at hF
  obtain ⟨fk, fck, ⟨an, al, ap, pr, sl, fl⟩, cn, cp, nm, er⟩ := fr
  dsimp only at hF
  have HF := Lib.hid hF
  have HFR := Lib.hid hfr
  clear hF hfr hcb
  by_cases her : er = 0
  · subst her
    have hne : ((0 : Int) != 0) = false := rfl
    go_wp2_with (first | (go_at_call 17; refine HF.out.mono ?_; rintro e w11 ⟨sv, fv, rfl, hcb, hsv, hfv, g11⟩; obtain ⟨sA, sc, rfl, _⟩ := id hsv; obtain ⟨fA, fc, rfl, _⟩ := id hfv; obtain ⟨sn, hsn⟩ : ∃ sn, sl.length = sn := ⟨_, rfl⟩; obtain ⟨fn, hfn⟩ : ∃ fn, fl.length = fn := ⟨_, rfl⟩; rw [hsn] at hsv hcb; rw [hfn] at hfv hcb; unfold cmdCells at hcb; have z0 : w11.cell? ⟨CB, 0, none⟩ = some (.int .i64 fk) := (by simp [World.cell?, hcb]); have z1 : w11.cell? ⟨CB, 1, none⟩ = some (.string adm) := (by simp [World.cell?, hcb]); have z2 : w11.cell? ⟨CB, 2, none⟩ = some (.string alt) := (by simp [World.cell?, hcb]); have z3 : w11.cell? ⟨CB, 3, none⟩ = some (.int .i64 fck) := (by simp [World.cell?, hcb]); have z4 : w11.cell? ⟨CB, 4, none⟩ = some (.string an) := (by simp [World.cell?, hcb]); have z5 : w11.cell? ⟨CB, 5, none⟩ = some (.string al) := (by simp [World.cell?, hcb]); have z6 : w11.cell? ⟨CB, 6, none⟩ = some (.string ap) := (by simp [World.cell?, hcb]); have z7 : w11.cell? ⟨CB, 7, none⟩ = some (.int .i64 pr) := (by simp [World.cell?, hcb]); have z8 : w11.cell? ⟨CB, 8, none⟩ = some (.slice sA sn sc) := (by simp [World.cell?, hcb]); have z9 : w11.cell? ⟨CB, 9, none⟩ = some (.slice fA fn fc) := (by simp [World.cell?, hcb]); have z10 : w11.cell? ⟨CB, 10, none⟩ = some (.string cn) := (by simp [World.cell?, hcb]); have z11 : w11.cell? ⟨CB, 11, none⟩ = some (.string cp) := (by simp [World.cell?, hcb]); have z12 : w11.cell? ⟨CB, 12, none⟩ = some (.string nm) := (by simp [World.cell?, hcb]); have z13 : w11.cell? ⟨CB, 13, none⟩ = some (.bool sim) := (by simp [World.cell?, hcb]); have z14 : w11.cell? ⟨CB, 14, none⟩ = some (.bool qui) := (by simp [World.cell?, hcb]); have hr1 := (g11.block w.heap.size lr (fun e => by have := Option.some.inj e; omega)).trans hr1; have HSN := Lib.hid hsn; have HFN := Lib.hid hfn; clear hsn hfn) | (refine wpList_store_row rfl 39 _ _ rfl w.heap.size #[.int .i64 fk, .string adm, .string alt, .int .i64 fck, .string an, .string al, .string ap, .int .i64 pr, .slice sA sn sc, .slice fA fn fc, .string cn, .string cp, .string nm, .bool sim, .bool qui] rfl rfl 39 _ hr1 (by kernel_rfl) rfl (by simp [Value.oneCell']) ?_))
    have hr2 := setRow_heap w11 w.heap.size _ #[.int .i64 fk, .string adm, .string alt, .int .i64 fck, .string an, .string al, .string ap, .int .i64 pr, .slice sA sn sc, .slice fA fn fc, .string cn, .string cp, .string nm, .bool sim, .bool qui] 39 (0, 0) hr1
    have k0 := cell_setRow_same w11 w.heap.size 0 _ #[.int .i64 fk, .string adm, .string alt, .int .i64 fck, .string an, .string al, .string ap, .int .i64 pr, .slice sA sn sc, .slice fA fn fc, .string cn, .string cp, .string nm, .bool sim, .bool qui] _ _ hr1
    have k1 := cell_setRow_same w11 w.heap.size 1 _ #[.int .i64 fk, .string adm, .string alt, .int .i64 fck, .string an, .string al, .string ap, .int .i64 pr, .slice sA sn sc, .slice fA fn fc, .string cn, .string cp, .string nm, .bool sim, .bool qui] _ _ hr1
    have k2 := cell_setRow_same w11 w.heap.size 2 _ #[.int .i64 fk, .string adm, .string alt, .int .i64 fck, .string an, .string al, .string ap, .int .i64 pr, .slice sA sn sc, .slice fA fn fc, .string cn, .string cp, .string nm, .bool sim, .bool qui] _ _ hr1
    have k3 := cell_setRow_same w11 w.heap.size 3 _ #[.int .i64 fk, .string adm, .string alt, .int .i64 fck, .string an, .string al, .string ap, .int .i64 pr, .slice sA sn sc, .slice fA fn fc, .string cn, .string cp, .string nm, .bool sim, .bool qui] _ _ hr1
    have k4 := cell_setRow_same w11 w.heap.size 4 _ #[.int .i64 fk, .string adm, .string alt, .int .i64 fck, .string an, .string al, .string ap, .int .i64 pr, .slice sA sn sc, .slice fA fn fc, .string cn, .string cp, .string nm, .bool sim, .bool qui] _ _ hr1
    have k5 := cell_setRow_same w11 w.heap.size 5 _ #[.int .i64 fk, .string adm, .string alt, .int .i64 fck, .string an, .string al, .string ap, .int .i64 pr, .slice sA sn sc, .slice fA fn fc, .string cn, .string cp, .string nm, .bool sim, .bool qui] _ _ hr1
    have k6 := cell_setRow_same w11 w.heap.size 6 _ #[.int .i64 fk, .string adm, .string alt, .int .i64 fck, .string an, .string al, .string ap, .int .i64 pr, .slice sA sn sc, .slice fA fn fc, .string cn, .string cp, .string nm, .bool sim, .bool qui] _ _ hr1
    have k7 := cell_setRow_same w11 w.heap.size 7 _ #[.int .i64 fk, .string adm, .string alt, .int .i64 fck, .string an, .string al, .string ap, .int .i64 pr, .slice sA sn sc, .slice fA fn fc, .string cn, .string cp, .string nm, .bool sim, .bool qui] _ _ hr1
    have k8 := cell_setRow_same w11 w.heap.size 8 _ #[.int .i64 fk, .string adm, .string alt, .int .i64 fck, .string an, .string al, .string ap, .int .i64 pr, .slice sA sn sc, .slice fA fn fc, .string cn, .string cp, .string nm, .bool sim, .bool qui] _ _ hr1
    have k9 := cell_setRow_same w11 w.heap.size 9 _ #[.int .i64 fk, .string adm, .string alt, .int .i64 fck, .string an, .string al, .string ap, .int .i64 pr, .slice sA sn sc, .slice fA fn fc, .string cn, .string cp, .string nm, .bool sim, .bool qui] _ _ hr1
    have k10 := cell_setRow_same w11 w.heap.size 10 _ #[.int .i64 fk, .string adm, .string alt, .int .i64 fck, .string an, .string al, .string ap, .int .i64 pr, .slice sA sn sc, .slice fA fn fc, .string cn, .string cp, .string nm, .bool sim, .bool qui] _ _ hr1
    have k11 := cell_setRow_same w11 w.heap.size 11 _ #[.int .i64 fk, .string adm, .string alt, .int .i64 fck, .string an, .string al, .string ap, .int .i64 pr, .slice sA sn sc, .slice fA fn fc, .string cn, .string cp, .string nm, .bool sim, .bool qui] _ _ hr1
    have k12 := cell_setRow_same w11 w.heap.size 12 _ #[.int .i64 fk, .string adm, .string alt, .int .i64 fck, .string an, .string al, .string ap, .int .i64 pr, .slice sA sn sc, .slice fA fn fc, .string cn, .string cp, .string nm, .bool sim, .bool qui] _ _ hr1
    have k13 := cell_setRow_same w11 w.heap.size 13 _ #[.int .i64 fk, .string adm, .string alt, .int .i64 fck, .string an, .string al, .string ap, .int .i64 pr, .slice sA sn sc, .slice fA fn fc, .string cn, .string cp, .string nm, .bool sim, .bool qui] _ _ hr1
    have k14 := cell_setRow_same w11 w.heap.size 14 _ #[.int .i64 fk, .string adm, .string alt, .int .i64 fck, .string an, .string al, .string ap, .int .i64 pr, .slice sA sn sc, .slice fA fn fc, .string cn, .string cp, .string nm, .bool sim, .bool qui] _ _ hr1
    have hgr := grownBy_setRow w11 w.heap.size #[.int .i64 fk, .string adm, .string alt, .int .i64 fck, .string an, .string al, .string ap, .int .i64 pr, .slice sA sn sc, .slice fA fn fc, .string cn, .string cp, .string nm, .bool sim, .bool qui]
    have hbg : Below w.heap.size w w11 := hbz10.grown g11 (Nat.le_of_lt lr) (fun kk e => by cases e; omega)
    have hbf := below_setRow hbg (Nat.le_refl _) #[.int .i64 fk, .string adm, .string alt, .int .i64 fck, .string an, .string al, .string ap, .int .i64 pr, .slice sA sn sc, .slice fA fn fc, .string cn, .string cp, .string nm, .bool sim, .bool qui]
    refine bodyPost_ret (v := .tuple #[.agg #[.int .i64 fk, .string adm, .string alt, .int .i64 fck, .string an, .string al, .string ap, .int .i64 pr, .slice sA sn sc, .slice fA fn fc, .string cn, .string cp, .string nm, .bool sim, .bool qui], .int .i64 (-1), .int .i64 0]) (by simp [results, Tryz.results8, go_sem, k0, k1, k2, k3, k4, k5, k6, k7, k8, k9, k10, k11, k12, k13, k14, hr2]) rfl ?_
    refine ⟨?_, hbf⟩
    rw [HA.out, HFR.out, if_neg (by simp)]
    refine ⟨_, rfl, .slice sA sn sc, .slice fA fn fc, ?_, ?_, ?_⟩
    · unfold acmd
      rw [HFR.out, HSim.out, HQui.out, HAdm.out, HAlt.out]
      rfl
    · have h := rowAt_top hsv
      have hk : Keeps (fun i => i = w.heap.size) w11 _ := ⟨hgr.size, fun i hi hn => hgr.block i hi (fun e => hn (Option.some.inj e))⟩
      unfold acmd
      rw [HFR.out]
      dsimp only
      refine rowAt_top (RowAt.keeps hsv hk ?_)
      rintro i rfl (hst | ⟨c1, z1, hst⟩)
      · omega
      · rw [hr1] at hst; cases hst
    · have hk : Keeps (fun i => i = w.heap.size) w11 _ := ⟨hgr.size, fun i hi hn => hgr.block i hi (fun e => hn (Option.some.inj e))⟩
      unfold acmd
      rw [HFR.out]
      dsimp only
      refine rowAt_top (RowAt.keeps hfv hk ?_)
      rintro i rfl (hst | ⟨c1, z1, hst⟩)
      · omega
      · rw [hr1] at hst; cases hst
  · have hne : (er != 0) = true := by rw [bne_iff_ne]; exact her
    go_wp2_with (first | (go_at_call 17; refine HF.out.mono ?_; rintro e w11 ⟨sv, fv, rfl, hcb, hsv, hfv, g11⟩; have hr1 := (g11.block w.heap.size lr (fun e => by have := Option.some.inj e; omega)).trans hr1; clear hcb) | (refine wpList_store_row rfl 39 _ _ rfl w.heap.size #[.int .i64 0, .string ⟨#[]⟩, .string ⟨#[]⟩, .int .i64 0, .string ⟨#[]⟩, .string ⟨#[]⟩, .string ⟨#[]⟩, .int .i64 0, .slice none 0 0, .slice none 0 0, .string ⟨#[]⟩, .string ⟨#[]⟩, .string ⟨#[]⟩, .bool false, .bool false] rfl rfl 39 _ hr1 (by kernel_rfl) rfl (by simp [Value.oneCell']) ?_))
    have hr2 := setRow_heap w11 w.heap.size _ #[.int .i64 0, .string ⟨#[]⟩, .string ⟨#[]⟩, .int .i64 0, .string ⟨#[]⟩, .string ⟨#[]⟩, .string ⟨#[]⟩, .int .i64 0, .slice none 0 0, .slice none 0 0, .string ⟨#[]⟩, .string ⟨#[]⟩, .string ⟨#[]⟩, .bool false, .bool false] 39 (0, 0) hr1
    have k0 := cell_setRow_same w11 w.heap.size 0 _ #[.int .i64 0, .string ⟨#[]⟩, .string ⟨#[]⟩, .int .i64 0, .string ⟨#[]⟩, .string ⟨#[]⟩, .string ⟨#[]⟩, .int .i64 0, .slice none 0 0, .slice none 0 0, .string ⟨#[]⟩, .string ⟨#[]⟩, .string ⟨#[]⟩, .bool false, .bool false] _ _ hr1
    have k1 := cell_setRow_same w11 w.heap.size 1 _ #[.int .i64 0, .string ⟨#[]⟩, .string ⟨#[]⟩, .int .i64 0, .string ⟨#[]⟩, .string ⟨#[]⟩, .string ⟨#[]⟩, .int .i64 0, .slice none 0 0, .slice none 0 0, .string ⟨#[]⟩, .string ⟨#[]⟩, .string ⟨#[]⟩, .bool false, .bool false] _ _ hr1
    have k2 := cell_setRow_same w11 w.heap.size 2 _ #[.int .i64 0, .string ⟨#[]⟩, .string ⟨#[]⟩, .int .i64 0, .string ⟨#[]⟩, .string ⟨#[]⟩, .string ⟨#[]⟩, .int .i64 0, .slice none 0 0, .slice none 0 0, .string ⟨#[]⟩, .string ⟨#[]⟩, .string ⟨#[]⟩, .bool false, .bool false] _ _ hr1
    have k3 := cell_setRow_same w11 w.heap.size 3 _ #[.int .i64 0, .string ⟨#[]⟩, .string ⟨#[]⟩, .int .i64 0, .string ⟨#[]⟩, .string ⟨#[]⟩, .string ⟨#[]⟩, .int .i64 0, .slice none 0 0, .slice none 0 0, .string ⟨#[]⟩, .string ⟨#[]⟩, .string ⟨#[]⟩, .bool false, .bool false] _ _ hr1
    have k4 := cell_setRow_same w11 w.heap.size 4 _ #[.int .i64 0, .string ⟨#[]⟩, .string ⟨#[]⟩, .int .i64 0, .string ⟨#[]⟩, .string ⟨#[]⟩, .string ⟨#[]⟩, .int .i64 0, .slice none 0 0, .slice none 0 0, .string ⟨#[]⟩, .string ⟨#[]⟩, .string ⟨#[]⟩, .bool false, .bool false] _ _ hr1
    have k5 := cell_setRow_same w11 w.heap.size 5 _ #[.int .i64 0, .string ⟨#[]⟩, .string ⟨#[]⟩, .int .i64 0, .string ⟨#[]⟩, .string ⟨#[]⟩, .string ⟨#[]⟩, .int .i64 0, .slice none 0 0, .slice none 0 0, .string ⟨#[]⟩, .string ⟨#[]⟩, .string ⟨#[]⟩, .bool false, .bool false] _ _ hr1
    have k6 := cell_setRow_same w11 w.heap.size 6 _ #[.int .i64 0, .string ⟨#[]⟩, .string ⟨#[]⟩, .int .i64 0, .string ⟨#[]⟩, .string ⟨#[]⟩, .string ⟨#[]⟩, .int .i64 0, .slice none 0 0, .slice none 0 0, .string ⟨#[]⟩, .string ⟨#[]⟩, .string ⟨#[]⟩, .bool false, .bool false] _ _ hr1
    have k7 := cell_setRow_same w11 w.heap.size 7 _ #[.int .i64 0, .string ⟨#[]⟩, .string ⟨#[]⟩, .int .i64 0, .string ⟨#[]⟩, .string ⟨#[]⟩, .string ⟨#[]⟩, .int .i64 0, .slice none 0 0, .slice none 0 0, .string ⟨#[]⟩, .string ⟨#[]⟩, .string ⟨#[]⟩, .bool false, .bool false] _ _ hr1
    have k8 := cell_setRow_same w11 w.heap.size 8 _ #[.int .i64 0, .string ⟨#[]⟩, .string ⟨#[]⟩, .int .i64 0, .string ⟨#[]⟩, .string ⟨#[]⟩, .string ⟨#[]⟩, .int .i64 0, .slice none 0 0, .slice none 0 0, .string ⟨#[]⟩, .string ⟨#[]⟩, .string ⟨#[]⟩, .bool false, .bool false] _ _ hr1
    have k9 := cell_setRow_same w11 w.heap.size 9 _ #[.int .i64 0, .string ⟨#[]⟩, .string ⟨#[]⟩, .int .i64 0, .string ⟨#[]⟩, .string ⟨#[]⟩, .string ⟨#[]⟩, .int .i64 0, .slice none 0 0, .slice none 0 0, .string ⟨#[]⟩, .string ⟨#[]⟩, .string ⟨#[]⟩, .bool false, .bool false] _ _ hr1
    have k10 := cell_setRow_same w11 w.heap.size 10 _ #[.int .i64 0, .string ⟨#[]⟩, .string ⟨#[]⟩, .int .i64 0, .string ⟨#[]⟩, .string ⟨#[]⟩, .string ⟨#[]⟩, .int .i64 0, .slice none 0 0, .slice none 0 0, .string ⟨#[]⟩, .string ⟨#[]⟩, .string ⟨#[]⟩, .bool false, .bool false] _ _ hr1
    have k11 := cell_setRow_same w11 w.heap.size 11 _ #[.int .i64 0, .string ⟨#[]⟩, .string ⟨#[]⟩, .int .i64 0, .string ⟨#[]⟩, .string ⟨#[]⟩, .string ⟨#[]⟩, .int .i64 0, .slice none 0 0, .slice none 0 0, .string ⟨#[]⟩, .string ⟨#[]⟩, .string ⟨#[]⟩, .bool false, .bool false] _ _ hr1
    have k12 := cell_setRow_same w11 w.heap.size 12 _ #[.int .i64 0, .string ⟨#[]⟩, .string ⟨#[]⟩, .int .i64 0, .string ⟨#[]⟩, .string ⟨#[]⟩, .string ⟨#[]⟩, .int .i64 0, .slice none 0 0, .slice none 0 0, .string ⟨#[]⟩, .string ⟨#[]⟩, .string ⟨#[]⟩, .bool false, .bool false] _ _ hr1
    have k13 := cell_setRow_same w11 w.heap.size 13 _ #[.int .i64 0, .string ⟨#[]⟩, .string ⟨#[]⟩, .int .i64 0, .string ⟨#[]⟩, .string ⟨#[]⟩, .string ⟨#[]⟩, .int .i64 0, .slice none 0 0, .slice none 0 0, .string ⟨#[]⟩, .string ⟨#[]⟩, .string ⟨#[]⟩, .bool false, .bool false] _ _ hr1
    have k14 := cell_setRow_same w11 w.heap.size 14 _ #[.int .i64 0, .string ⟨#[]⟩, .string ⟨#[]⟩, .int .i64 0, .string ⟨#[]⟩, .string ⟨#[]⟩, .string ⟨#[]⟩, .int .i64 0, .slice none 0 0, .slice none 0 0, .string ⟨#[]⟩, .string ⟨#[]⟩, .string ⟨#[]⟩, .bool false, .bool false] _ _ hr1
    have hbg : Below w.heap.size w w11 := hbz10.grown g11 (Nat.le_of_lt lr) (fun kk e => by cases e; omega)
    have hbf := below_setRow hbg (Nat.le_refl _) #[.int .i64 0, .string ⟨#[]⟩, .string ⟨#[]⟩, .int .i64 0, .string ⟨#[]⟩, .string ⟨#[]⟩, .string ⟨#[]⟩, .int .i64 0, .slice none 0 0, .slice none 0 0, .string ⟨#[]⟩, .string ⟨#[]⟩, .string ⟨#[]⟩, .bool false, .bool false]
    refine bodyPost_ret (v := .tuple #[.agg #[.int .i64 0, .string ⟨#[]⟩, .string ⟨#[]⟩, .int .i64 0, .string ⟨#[]⟩, .string ⟨#[]⟩, .string ⟨#[]⟩, .int .i64 0, .slice none 0 0, .slice none 0 0, .string ⟨#[]⟩, .string ⟨#[]⟩, .string ⟨#[]⟩, .bool false, .bool false], .int .i64 (ws.length : Int), .int .i64 er]) (by simp [results, Tryz.results8, go_sem, k0, k1, k2, k3, k4, k5, k6, k7, k8, k9, k10, k11, k12, k13, k14, hr2]) rfl ?_
    refine ⟨?_, hbf⟩
    rw [HA.out, HFR.out, if_pos her]
    rfl

end Go.Proofs.YtnmlmbgaljnjeaaGreatDoor
