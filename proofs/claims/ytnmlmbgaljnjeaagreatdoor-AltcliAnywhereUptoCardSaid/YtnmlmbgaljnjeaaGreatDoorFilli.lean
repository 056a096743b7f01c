/- altcli's fill at install. Conditions: as ask's. -/
import Derived.Test.YtnmlmbgaljnjeaaGreatDoorFill
import Derived.BigRegion
set_option linter.unusedVariables false
set_option linter.unusedSimpArgs false
namespace Go.Proofs.YtnmlmbgaljnjeaaGreatDoor
open Go.RowKit Go.Maps

set_option maxRecDepth 100000 in
set_option maxHeartbeats 8000000 in
theorem fill_install (lo cb : Nat) (lv : Value) (b o c : Nat) (l : List Itm) (vs : List ByteArray) (te : TypeId) (pe : Value) (adm alt : ByteArray) (sim qui : Bool) (w : World)
    (hcb : w.heap[cb]? = some (.cells (cmdCells 0 adm alt 0 ⟨#[]⟩ ⟨#[]⟩ ⟨#[]⟩ 0 (.slice none 0 0) (.slice none 0 0) ⟨#[]⟩ ⟨#[]⟩ ⟨#[]⟩ sim qui) 39 (0, 0)))
    (hl : l.length ≤ 1073741824) (hv : ItmAt lo w lv l) (hvv : StrAt lo w (.slice (some ⟨b, o, none⟩) 4 c) vs) (hlo : lo ≤ cb) (h4 : vs.length = 4) (hsz : ∀ s ∈ vs, s.size ≤ 1099511627776)
    (h3 : ∀ x ∈ l, isSlave x = true → x.2.length = 3) (hg : w.cell? ⟨2, 0, none⟩ = some (.iface te pe)) :
    Calls Tryz.prog 17 #[.pointer (some ⟨cb, 0, none⟩), lv, .agg #[.string ⟨#[105, 110, 115, 116, 97, 108, 108]⟩, .slice (some ⟨b, o, none⟩) 4 c]] w fun e w' =>
      ∃ sv fv, e = .returned (.int .i64 (aask l vs).2) ∧ w'.heap[cb]? = some (.cells (cmdCells 1 adm alt 1 (aask l vs).1.name (aask l vs).1.link (aask l vs).1.path (aask l vs).1.prio sv fv ⟨#[]⟩ ⟨#[]⟩ ⟨#[]⟩ sim qui) 39 (0, 0)) ∧
        SlvAt 0 w' sv (aask l vs).1.slaves ∧ StrAt 0 w' fv (aask l vs).1.files ∧ w.grownBy w' (some cb) := by
  have hmm := @run_makeMap Tryz.prog
  have hcbl : cb < w.heap.size := (Array.getElem?_eq_some_iff.1 hcb).1
  unfold cmdCells at hcb
  have belA : Below (w.heap.size + 1) (w.alloc (.cells #[.string ⟨#[105, 110, 115, 116, 97, 108, 108]⟩, .slice (some ⟨b, o, none⟩) 4 c] 62)) ((w.alloc (.cells #[.string ⟨#[105, 110, 115, 116, 97, 108, 108]⟩, .slice (some ⟨b, o, none⟩) 4 c] 62)).alloc (.map #[] 0)) := (Below.refl _ _).alloc (by simp) _
  have y := heap_alloc_new w (.cells #[.string ⟨#[105, 110, 115, 116, 97, 108, 108]⟩, .slice (some ⟨b, o, none⟩) 4 c] 62)
  have y0 : (w.alloc (.cells #[.string ⟨#[105, 110, 115, 116, 97, 108, 108]⟩, .slice (some ⟨b, o, none⟩) 4 c] 62)).cell? ⟨w.heap.size, 0, none⟩ = some (.string ⟨#[105, 110, 115, 116, 97, 108, 108]⟩) := by unfold World.cell?; rw [y]; rfl
  have y1 : (w.alloc (.cells #[.string ⟨#[105, 110, 115, 116, 97, 108, 108]⟩, .slice (some ⟨b, o, none⟩) 4 c] 62)).cell? ⟨w.heap.size, 1, none⟩ = some (.slice (some ⟨b, o, none⟩) 4 c) := by unfold World.cell?; rw [y]; rfl
  clear y
  have own0 : ((w.alloc (.cells #[.string ⟨#[105, 110, 115, 116, 97, 108, 108]⟩, .slice (some ⟨b, o, none⟩) 4 c] 62)).alloc (.map #[] 0)).ownsMap Tryz.prog 9 (plainElem (H := Unit) Tryz.prog 3) (w.heap.size + 1) 0 (.map []) := by
    have := World.ownsMap_made (H := Unit) (w.alloc (.cells #[.string ⟨#[105, 110, 115, 116, 97, 108, 108]⟩, .slice (some ⟨b, o, none⟩) 4 c] 62)) Tryz.prog 9 (plainElem Tryz.prog 3)
    rwa [World.size_alloc] at this
  have hQ := fun (W : World) (hW : Below w.heap.size w W) => cli_ask lo lv (.slice (some ⟨b, o, none⟩) 4 c) l vs te pe W hl (hv.below hW) (hvv.below hW) h4 hsz h3 (((bcell hW).1 _ 0 (World.block_lt_of_cell? w _ hg)).trans hg)
  have HQ := Lib.hid hQ
  clear hQ hv hvv h3 hsz hg
  go_enter Tryz.func17, Tryz.ntmps17
  go_wp2_with (first | (go_at_call 28; refine (HQ.out wt4 belZ).mono ?_; rintro e w5 ⟨av, rfl, ⟨sv, fv, rfl, hsv, hfv⟩, hb5⟩; obtain ⟨sA, sc, rfl, _⟩ := id hsv; obtain ⟨fA, fc, rfl, _⟩ := id hfv) | (refine wpList_insert_own (H := Unit) _ rfl _ (.const (.string ⟨#[114, 101, 109, 111, 118, 101]⟩)) (.const (.int .i64 2)) 84 rfl 9 3 mlaw Tryz.underlying84 (plainElem Tryz.prog 3) _ 0 _ rfl (own0) (by decide) (.string ⟨#[114, 101, 109, 111, 118, 101]⟩) (.int .i64 2) _ rfl rfl (WideMaps.keyOf_string_mk Tryz.underlying9 (by decide)) _ [] (plainElem_int Tryz.underlying3 (by decide)) ?_; intro wk0 ownk0 growk0; have belk0 := belA.grown growk0 (by simp) (fun kk e => by cases e; exact Nat.le_refl _); have belk0s : w.heap.size + 1 ≤ wk0.heap.size := Nat.le_trans (Nat.le_of_eq (World.size_alloc _ _).symm) belk0.size) | (refine wpList_insert_own (H := Unit) _ rfl _ (.const (.string ⟨#[114, 101, 109, 111, 118, 101, 45, 97, 108, 108]⟩)) (.const (.int .i64 3)) 84 rfl 9 3 mlaw Tryz.underlying84 (plainElem Tryz.prog 3) _ 1 _ rfl (ownk0) (by decide) (.string ⟨#[114, 101, 109, 111, 118, 101, 45, 97, 108, 108]⟩) (.int .i64 3) _ rfl rfl (WideMaps.keyOf_string_mk Tryz.underlying9 (by decide)) _ [] (plainElem_int Tryz.underlying3 (by decide)) ?_; intro wk1 ownk1 growk1; have belk1 := belk0.grown growk1 belk0s (fun kk e => by cases e; exact Nat.le_refl _); have belk1s : w.heap.size + 1 ≤ wk1.heap.size := Nat.le_trans (Nat.le_of_eq (World.size_alloc _ _).symm) belk1.size; clear ownk0 growk0 belk0 belk0s) | (refine wpList_insert_own (H := Unit) _ rfl _ (.const (.string ⟨#[115, 101, 116]⟩)) (.const (.int .i64 4)) 84 rfl 9 3 mlaw Tryz.underlying84 (plainElem Tryz.prog 3) _ 2 _ rfl (ownk1) (by decide) (.string ⟨#[115, 101, 116]⟩) (.int .i64 4) _ rfl rfl (WideMaps.keyOf_string_mk Tryz.underlying9 (by decide)) _ [] (plainElem_int Tryz.underlying3 (by decide)) ?_; intro wk2 ownk2 growk2; have belk2 := belk1.grown growk2 belk1s (fun kk e => by cases e; exact Nat.le_refl _); have belk2s : w.heap.size + 1 ≤ wk2.heap.size := Nat.le_trans (Nat.le_of_eq (World.size_alloc _ _).symm) belk2.size; clear ownk1 growk1 belk1 belk1s) | (refine wpList_insert_own (H := Unit) _ rfl _ (.const (.string ⟨#[97, 117, 116, 111]⟩)) (.const (.int .i64 5)) 84 rfl 9 3 mlaw Tryz.underlying84 (plainElem Tryz.prog 3) _ 3 _ rfl (ownk2) (by decide) (.string ⟨#[97, 117, 116, 111]⟩) (.int .i64 5) _ rfl rfl (WideMaps.keyOf_string_mk Tryz.underlying9 (by decide)) _ [] (plainElem_int Tryz.underlying3 (by decide)) ?_; intro wk3 ownk3 growk3; have belk3 := belk2.grown growk3 belk2s (fun kk e => by cases e; exact Nat.le_refl _); have belk3s : w.heap.size + 1 ≤ wk3.heap.size := Nat.le_trans (Nat.le_of_eq (World.size_alloc _ _).symm) belk3.size; clear ownk2 growk2 belk2 belk2s) | (refine wpList_insert_own (H := Unit) _ rfl _ (.const (.string ⟨#[100, 105, 115, 112, 108, 97, 121]⟩)) (.const (.int .i64 2)) 84 rfl 9 3 mlaw Tryz.underlying84 (plainElem Tryz.prog 3) _ 0 _ rfl (World.ownsMap_made _ _ _ _) (by decide) (.string ⟨#[100, 105, 115, 112, 108, 97, 121]⟩) (.int .i64 2) _ rfl rfl (WideMaps.keyOf_string_mk Tryz.underlying9 (by decide)) _ [] (plainElem_int Tryz.underlying3 (by decide)) ?_; intro wt0 ownt0 growt0; have hlk := ownk3.lt; have belB := belk3.alloc belk3s (.map #[] 0); have belt0 := belB.grown growt0 (by simp; omega) (fun kk e => by cases e; omega); have ownc0 := (ownk3.alloc (.map #[] 0)).kept growt0 (by simp; omega); have belt0s : w.heap.size + 1 ≤ wt0.heap.size := Nat.le_trans (Nat.le_of_eq (World.size_alloc _ _).symm) belt0.size; clear belB) | (refine wpList_insert_own (H := Unit) _ rfl _ (.const (.string ⟨#[113, 117, 101, 114, 121]⟩)) (.const (.int .i64 3)) 84 rfl 9 3 mlaw Tryz.underlying84 (plainElem Tryz.prog 3) _ 1 _ rfl (ownt0) (by decide) (.string ⟨#[113, 117, 101, 114, 121]⟩) (.int .i64 3) _ rfl rfl (WideMaps.keyOf_string_mk Tryz.underlying9 (by decide)) _ [] (plainElem_int Tryz.underlying3 (by decide)) ?_; intro wt1 ownt1 growt1; have belt1 := belt0.grown growt1 belt0s (fun kk e => by cases e; omega); have ownc1 := ownc0.kept growt1 (by simp; omega); have belt1s : w.heap.size + 1 ≤ wt1.heap.size := Nat.le_trans (Nat.le_of_eq (World.size_alloc _ _).symm) belt1.size; clear ownt0 growt0 belt0 belt0s ownc0) | (refine wpList_insert_own (H := Unit) _ rfl _ (.const (.string ⟨#[108, 105, 115, 116]⟩)) (.const (.int .i64 4)) 84 rfl 9 3 mlaw Tryz.underlying84 (plainElem Tryz.prog 3) _ 2 _ rfl (ownt1) (by decide) (.string ⟨#[108, 105, 115, 116]⟩) (.int .i64 4) _ rfl rfl (WideMaps.keyOf_string_mk Tryz.underlying9 (by decide)) _ [] (plainElem_int Tryz.underlying3 (by decide)) ?_; intro wt2 ownt2 growt2; have belt2 := belt1.grown growt2 belt1s (fun kk e => by cases e; omega); have ownc2 := ownc1.kept growt2 (by simp; omega); have belt2s : w.heap.size + 1 ≤ wt2.heap.size := Nat.le_trans (Nat.le_of_eq (World.size_alloc _ _).symm) belt2.size; clear ownt1 growt1 belt1 belt1s ownc1) | (refine wpList_insert_own (H := Unit) _ rfl _ (.const (.string ⟨#[103, 101, 116, 45, 115, 101, 108, 101, 99, 116, 105, 111, 110, 115]⟩)) (.const (.int .i64 5)) 84 rfl 9 3 mlaw Tryz.underlying84 (plainElem Tryz.prog 3) _ 3 _ rfl (ownt2) (by decide) (.string ⟨#[103, 101, 116, 45, 115, 101, 108, 101, 99, 116, 105, 111, 110, 115]⟩) (.int .i64 5) _ rfl rfl (WideMaps.keyOf_string_mk Tryz.underlying9 (by decide)) _ [] (plainElem_int Tryz.underlying3 (by decide)) ?_; intro wt3 ownt3 growt3; have belt3 := belt2.grown growt3 belt2s (fun kk e => by cases e; omega); have ownc3 := ownc2.kept growt3 (by simp; omega); have belt3s : w.heap.size + 1 ≤ wt3.heap.size := Nat.le_trans (Nat.le_of_eq (World.size_alloc _ _).symm) belt3.size; clear ownt2 growt2 belt2 belt2s ownc2) | (refine wpList_insert_own (H := Unit) _ rfl _ (.const (.string ⟨#[115, 101, 116, 45, 115, 101, 108, 101, 99, 116, 105, 111, 110, 115]⟩)) (.const (.int .i64 6)) 84 rfl 9 3 mlaw Tryz.underlying84 (plainElem Tryz.prog 3) _ 4 _ rfl (ownt3) (by decide) (.string ⟨#[115, 101, 116, 45, 115, 101, 108, 101, 99, 116, 105, 111, 110, 115]⟩) (.int .i64 6) _ rfl rfl (WideMaps.keyOf_string_mk Tryz.underlying9 (by decide)) _ [] (plainElem_int Tryz.underlying3 (by decide)) ?_; intro wt4 ownt4 growt4; have belt4 := belt3.grown growt4 belt3s (fun kk e => by cases e; omega); have ownc4 := ownc3.kept growt4 (by simp; omega); have belt4s : w.heap.size + 1 ≤ wt4.heap.size := Nat.le_trans (Nat.le_of_eq (World.size_alloc _ _).symm) belt4.size; clear ownt3 growt3 belt3 belt3s ownc3; have belZ : Below w.heap.size w wt4 := (((Below.refl w.heap.size w).alloc (Nat.le_refl _) _).trans (belt4.mono (by omega))); have x0 : wt4.cell? ⟨w.heap.size, 0, none⟩ = some (.string ⟨#[105, 110, 115, 116, 97, 108, 108]⟩) := (belt4.cell (p := ⟨w.heap.size, 0, none⟩) (by simp)).trans y0; have x1 : wt4.cell? ⟨w.heap.size, 1, none⟩ = some (.slice (some ⟨b, o, none⟩) 4 c) := (belt4.cell (p := ⟨w.heap.size, 1, none⟩) (by simp)).trans y1; have hcb4 := (belZ.block cb hcbl).trans hcb))
  obtain ⟨ak, hak⟩ : ∃ ak, aask l vs = ak := ⟨_, rfl⟩
  simp only [hak] at hsv hfv ⊢
  clear HQ
  obtain ⟨⟨nm, lk, pt, n, sl, fl⟩, er⟩ := ak
  have HAK := Lib.hid hak
  clear hak
  dsimp only at hsv hfv ⊢
  obtain ⟨sn, hsn⟩ : ∃ sn, sl.length = sn := ⟨_, rfl⟩
  obtain ⟨fn, hfn⟩ : ∃ fn, fl.length = fn := ⟨_, rfl⟩
  rw [hsn] at hsv ⊢
  rw [hfn] at hfv ⊢
  obtain ⟨AB, hAB⟩ : ∃ AB, w5.heap.size = AB := ⟨_, rfl⟩
  obtain ⟨w6, hw6⟩ : ∃ w6, w6 = w5.alloc (.cells #[.string nm, .string lk, .string pt, .int .i64 n, .slice sA sn sc, .slice fA fn fc] 35) := ⟨_, rfl⟩
  have hab : w6.heap[AB]? = some (.cells #[.string nm, .string lk, .string pt, .int .i64 n, .slice sA sn sc, .slice fA fn fc] 35 (0, 0)) := by rw [hw6, ← hAB]; exact heap_alloc_new w5 _
  have hb56 : Below w5.heap.size w5 w6 := by rw [hw6]; exact (Below.refl _ _).alloc (Nat.le_refl _) _
  have hb46 := hb5.trans (hb56.mono hb5.size)
  have hcb6 := (hb46.block cb (Nat.lt_of_lt_of_le hcbl belZ.size)).trans hcb4
  have hbz6 := belZ.trans (hb46.mono belZ.size)
  have hsv6 := hsv.below hb56
  have hfv6 := hfv.below hb56
  have hne : AB ≠ cb := by have := hb5.size; have := belZ.size; omega
  rw [hAB, ← hw6]
  have c0 : w6.cell? ⟨cb, 0, none⟩ = some (.int .i64 0) := by simp [World.cell?, hcb6]
  have c1 : w6.cell? ⟨cb, 1, none⟩ = some (.string adm) := by simp [World.cell?, hcb6]
  have c2 : w6.cell? ⟨cb, 2, none⟩ = some (.string alt) := by simp [World.cell?, hcb6]
  have c3 : w6.cell? ⟨cb, 3, none⟩ = some (.int .i64 0) := by simp [World.cell?, hcb6]
  have c4 : w6.cell? ⟨cb, 4, none⟩ = some (.string ⟨#[]⟩) := by simp [World.cell?, hcb6]
  have c5 : w6.cell? ⟨cb, 5, none⟩ = some (.string ⟨#[]⟩) := by simp [World.cell?, hcb6]
  have c6 : w6.cell? ⟨cb, 6, none⟩ = some (.string ⟨#[]⟩) := by simp [World.cell?, hcb6]
  have c7 : w6.cell? ⟨cb, 7, none⟩ = some (.int .i64 0) := by simp [World.cell?, hcb6]
  have c8 : w6.cell? ⟨cb, 8, none⟩ = some (.slice none 0 0) := by simp [World.cell?, hcb6]
  have c9 : w6.cell? ⟨cb, 9, none⟩ = some (.slice none 0 0) := by simp [World.cell?, hcb6]
  have c10 : w6.cell? ⟨cb, 10, none⟩ = some (.string ⟨#[]⟩) := by simp [World.cell?, hcb6]
  have c11 : w6.cell? ⟨cb, 11, none⟩ = some (.string ⟨#[]⟩) := by simp [World.cell?, hcb6]
  have f0 : w6.frozen? ⟨cb, 0, none⟩ = false := by simp [World.frozen?, hcb6]
  have f1 : w6.frozen? ⟨cb, 1, none⟩ = false := by simp [World.frozen?, hcb6]
  have f2 : w6.frozen? ⟨cb, 2, none⟩ = false := by simp [World.frozen?, hcb6]
  have f3 : w6.frozen? ⟨cb, 3, none⟩ = false := by simp [World.frozen?, hcb6]
  have f4 : w6.frozen? ⟨cb, 4, none⟩ = false := by simp [World.frozen?, hcb6]
  have f5 : w6.frozen? ⟨cb, 5, none⟩ = false := by simp [World.frozen?, hcb6]
  have f6 : w6.frozen? ⟨cb, 6, none⟩ = false := by simp [World.frozen?, hcb6]
  have f7 : w6.frozen? ⟨cb, 7, none⟩ = false := by simp [World.frozen?, hcb6]
  have f8 : w6.frozen? ⟨cb, 8, none⟩ = false := by simp [World.frozen?, hcb6]
  have f9 : w6.frozen? ⟨cb, 9, none⟩ = false := by simp [World.frozen?, hcb6]
  have f10 : w6.frozen? ⟨cb, 10, none⟩ = false := by simp [World.frozen?, hcb6]
  have f11 : w6.frozen? ⟨cb, 11, none⟩ = false := by simp [World.frozen?, hcb6]
  have a0 : w6.cell? ⟨AB, 0, none⟩ = some (.string nm) := by simp [World.cell?, hab]
  have a1 : w6.cell? ⟨AB, 1, none⟩ = some (.string lk) := by simp [World.cell?, hab]
  have a2 : w6.cell? ⟨AB, 2, none⟩ = some (.string pt) := by simp [World.cell?, hab]
  have a3 : w6.cell? ⟨AB, 3, none⟩ = some (.int .i64 n) := by simp [World.cell?, hab]
  have a4 : w6.cell? ⟨AB, 4, none⟩ = some (.slice sA sn sc) := by simp [World.cell?, hab]
  have a5 : w6.cell? ⟨AB, 5, none⟩ = some (.slice fA fn fc) := by simp [World.cell?, hab]
  have HCB := Lib.hid hcb6
  have HBZ := Lib.hid hbz6
  have HSV := Lib.hid hsv6
  have HFV := Lib.hid hfv6
  clear hsn hfn hab hb56 hb46 hcb6 hbz6 hsv6 hfv6 hsv hfv hb5 hw6 hAB hcb4 x0 x1 hcb y0 y1 belZ
  go_region
  have s0 := HCB.out
  have g0 : w6.grownBy w6 (some cb) := ⟨rfl, rfl, rfl, Nat.le_refl _, fun _ _ _ => rfl⟩
  have g1 := g0.trans (grownBy_set _ cb 0 (.int .i64 1))
  have s1 := set_blk (j := 0) (v := (.int .i64 1)) s0
  simp only [List.setIfInBounds_toArray, List.set_cons_succ, List.set_cons_zero] at s1
  clear s0 g0
  have g2 := g1.trans (grownBy_set _ cb 3 (.int .i64 1))
  have s2 := set_blk (j := 3) (v := (.int .i64 1)) s1
  simp only [List.setIfInBounds_toArray, List.set_cons_succ, List.set_cons_zero] at s2
  clear s1 g1
  have g3 := g2.trans (grownBy_set _ cb 4 (.string nm))
  have s3 := set_blk (j := 4) (v := (.string nm)) s2
  simp only [List.setIfInBounds_toArray, List.set_cons_succ, List.set_cons_zero] at s3
  clear s2 g2
  have g4 := g3.trans (grownBy_set _ cb 5 (.string lk))
  have s4 := set_blk (j := 5) (v := (.string lk)) s3
  simp only [List.setIfInBounds_toArray, List.set_cons_succ, List.set_cons_zero] at s4
  clear s3 g3
  have g5 := g4.trans (grownBy_set _ cb 6 (.string pt))
  have s5 := set_blk (j := 6) (v := (.string pt)) s4
  simp only [List.setIfInBounds_toArray, List.set_cons_succ, List.set_cons_zero] at s5
  clear s4 g4
  have g6 := g5.trans (grownBy_set _ cb 7 (.int .i64 n))
  have s6 := set_blk (j := 7) (v := (.int .i64 n)) s5
  simp only [List.setIfInBounds_toArray, List.set_cons_succ, List.set_cons_zero] at s6
  clear s5 g5
  have g7 := g6.trans (grownBy_set _ cb 8 (.slice sA sn sc))
  have s7 := set_blk (j := 8) (v := (.slice sA sn sc)) s6
  simp only [List.setIfInBounds_toArray, List.set_cons_succ, List.set_cons_zero] at s7
  clear s6 g6
  have g8 := g7.trans (grownBy_set _ cb 9 (.slice fA fn fc))
  have s8 := set_blk (j := 9) (v := (.slice fA fn fc)) s7
  simp only [List.setIfInBounds_toArray, List.set_cons_succ, List.set_cons_zero] at s8
  clear s7 g7
  have g9 := g8.trans (grownBy_set _ cb 10 (.string ⟨#[]⟩))
  have s9 := set_blk (j := 10) (v := (.string ⟨#[]⟩)) s8
  simp only [List.setIfInBounds_toArray, List.set_cons_succ, List.set_cons_zero] at s9
  clear s8 g8
  have g10 := g9.trans (grownBy_set _ cb 11 (.string ⟨#[]⟩))
  have s10 := set_blk (j := 11) (v := (.string ⟨#[]⟩)) s9
  simp only [List.setIfInBounds_toArray, List.set_cons_succ, List.set_cons_zero] at s10
  clear s9 g9
  generalize hwF : World.drew _ = wF
  generalize World.setCell _ ⟨cb, 11, none⟩ _ = wX at s10 g10 hwF
  have hsF : wF.heap[cb]? = some (.cells (cmdCells 1 adm alt 1 nm lk pt n (.slice sA sn sc) (.slice fA fn fc) ⟨#[]⟩ ⟨#[]⟩ ⟨#[]⟩ sim qui) 39 (0, 0)) := by rw [← hwF]; exact s10
  have hgF : w6.grownBy wF (some cb) := by rw [← hwF]; exact ⟨g10.os, g10.tape, g10.output, g10.size, g10.block⟩
  have HS := Lib.hid hsF
  have HG := Lib.hid hgF
  clear s10 g10 hwF hsF hgF
  go_wp2
  go_ret
  have hg6 := HG.out
  have hkp : Keeps (fun i => i = cb) w6 wF := ⟨hg6.size, fun i hi hn => hg6.block i hi (fun e => hn (Option.some.inj e))⟩
  rw [HAK.out]
  refine ⟨_, _, rfl, HS.out, ?_, ?_, (grownBy_below (some cb) HBZ.out).trans hg6⟩
  · refine RowAt.keeps HSV.out hkp ?_
    rintro i rfl (hst | ⟨c1, z1, hst⟩)
    · omega
    · rw [HCB.out] at hst; cases hst
  · refine RowAt.keeps HFV.out hkp ?_
    rintro i rfl (hst | ⟨c1, z1, hst⟩)
    · omega
    · rw [HCB.out] at hst; cases hst

end Go.Proofs.YtnmlmbgaljnjeaaGreatDoor
