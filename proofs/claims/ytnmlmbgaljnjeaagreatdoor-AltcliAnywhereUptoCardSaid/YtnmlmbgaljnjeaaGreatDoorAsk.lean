/- altcli.ask. Conditions: fewer than 2^30 items, lengths below 2^40; strconv.ErrRange holds an error. -/
import Derived.Test.YtnmlmbgaljnjeaaGreatDoorClast
import Derived.Test.YtnmlmbgaljnjeaaGreatDoorNum
set_option linter.unusedVariables false
set_option linter.unusedSimpArgs false
namespace Go.Proofs.YtnmlmbgaljnjeaaGreatDoor
open Go.RowKit

def isSlave (x : Itm) : Bool := x.1.toList == slaveB.toList
/-- a slave: its name, its link -/
abbrev Slv := ByteArray × ByteArray
def encSlv (x : Slv) : List Value := [.string x.1, .string x.2]
def slv (x : Itm) : Slv := (x.2.getD 1 ⟨#[]⟩, x.2.getD 0 ⟨#[]⟩)
def fil (x : Itm) : ByteArray := x.2.getD 2 ⟨#[]⟩
structure Ask where
  name : ByteArray
  link : ByteArray
  path : ByteArray
  prio : Int
  slaves : List Slv
  files : List ByteArray
def ask0 : Ask := ⟨⟨#[]⟩, ⟨#[]⟩, ⟨#[]⟩, 0, [], []⟩
def aask (l : List Itm) (vs : List ByteArray) : Ask × Int :=
  if (nparse (vs.getD 3 ⟨#[]⟩) (-1073741824) 1073741824).2 ≠ 0 then (ask0, (nparse (vs.getD 3 ⟨#[]⟩) (-1073741824) 1073741824).2)
  else (⟨vs.getD 1 ⟨#[]⟩, vs.getD 0 ⟨#[]⟩, vs.getD 2 ⟨#[]⟩, (nparse (vs.getD 3 ⟨#[]⟩) (-1073741824) 1073741824).1, (l.filter isSlave).map slv, (l.filter isSlave).map fil⟩, 0)
abbrev SlvAt (lo : Nat) (w : World) (v : Value) (l : List Slv) : Prop := RowAt encSlv 2 71 lo w v l
/-- v is an ask's value -/
def AskAt (lo : Nat) (w : World) (v : Value) (a : Ask) : Prop :=
  ∃ sv fv, v = .agg #[.string a.name, .string a.link, .string a.path, .int .i64 a.prio, sv, fv] ∧ SlvAt lo w sv a.slaves ∧ StrAt lo w fv a.files
def AskPost (lo : Nat) (l : List Itm) (vs : List ByteArray) (w : World) (e : Ending) (w' : World) : Prop :=
  ∃ v, e = .returned (.tuple #[v, .int .i64 (aask l vs).2]) ∧ AskAt 0 w' v (aask l vs).1 ∧ Below w.heap.size w w'

theorem len3 {α : Type} {l : List α} (h : l.length = 3) : ∃ a b c, l = [a, b, c] := by
  match l, h with
  | [a, b, c], _ => exact ⟨a, b, c, rfl⟩
theorem grownBy_setRow (w : World) (g : Nat) (cs : Array Value) : w.grownBy (w.setRow g cs) (some g) :=
  ⟨rfl, rfl, rfl, by simp [World.setRow], fun k _ hk => setRow_other w g k cs (fun e => hk (congrArg some e))⟩
theorem slvInfo : (Tryz.prog.info? 71).map (fun i => (i.zero, i.size, i.bytes)) = some (some (.agg #[.string ⟨#[]⟩, .string ⟨#[]⟩]), 2, 32) := by kernel_rfl

/-- an ask under way, in block B -/
def AskIn (base B : Nat) (nm lk pt : ByteArray) (n : Int) (w : World) (sl : List Slv) (fl : List ByteArray) (sv fv : Value) : Prop :=
  w.heap[B]? = some (.cells #[.string nm, .string lk, .string pt, .int .i64 n, sv, fv] 35 (0, 0)) ∧ base ≤ B ∧
    w.ownsRow base 71 2 sv sl.length (sl.flatMap encSlv) ∧ w.ownsRow base 9 1 fv fl.length (fl.map Value.string)
/-- what it turns: block B, rows of slaves, rows of strings -/
def Fr (base B : Nat) (w w' : World) : Prop :=
  Below base w w' ∧ ∀ i, i < w.heap.size → i ≠ B → (∀ c fz, w.heap[i]? ≠ some (.cells c 71 fz)) → (∀ c fz, w.heap[i]? ≠ some (.cells c 9 fz)) → w'.heap[i]? = w.heap[i]?
theorem Fr.refl (base B : Nat) (w : World) : Fr base B w w := ⟨Below.refl _ _, fun _ _ _ _ _ => rfl⟩
theorem Fr.trans {base B : Nat} {a b c : World} (h : Fr base B a b) (k : Fr base B b c) : Fr base B a c := by
  refine ⟨h.1.trans k.1, fun i hi hn h1 h2 => ?_⟩
  have e := h.2 i hi hn h1 h2
  rw [k.2 i (Nat.lt_of_lt_of_le hi h.1.size) hn (by rw [e]; exact h1) (by rw [e]; exact h2), e]
theorem fr_below {base B : Nat} {w w' : World} (h : Below w.heap.size w w') (hb : base ≤ w.heap.size) : Fr base B w w' := ⟨h.mono hb, fun i hi _ _ _ => h.block i hi⟩
theorem fr_set {base B j : Nat} {w : World} {v : Value} (hb : base ≤ B) : Fr base B w (w.setCell ⟨B, j, none⟩ v) :=
  ⟨(Below.refl base w).setCell (p := ⟨B, j, none⟩) hb _, fun i hi hn _ _ => Below.heap_setCell _ _ _ i (by simpa using hn)⟩
theorem fr_grown {base B n T sz : Nat} {w w' : World} {v : Value} {xs : List Value} (ho : w.ownsRow base T sz v n xs) (hT : T = 71 ∨ T = 9) (hg : w.grownBy w' v.ownBlock) (hb : base ≤ w.heap.size) : Fr base B w w' := by
  refine ⟨(Below.refl base w).grown hg hb (fun k e => (ho.lt k e).1), fun i hi _ h1 h2 => hg.block i hi (fun e => ?_)⟩
  rcases ho.2 with ⟨rfl, _⟩ | ⟨g, cap, cur, rfl, _, hgg, _⟩
  · cases e
  · have : i = g := by simpa [Value.ownBlock] using e
    subst this
    rcases hT with rfl | rfl
    · exact h1 _ _ hgg
    · exact h2 _ _ hgg
theorem Fr.boxed {base B : Nat} {w w' : World} (h : Fr base B w w') {k : Nat} {t : TypeId} {c : Array Value} {fz : Nat × Nat} (hv : w.heap[k]? = some (.cells c t fz)) (hk : k ≠ B) (h1 : t ≠ 71) (h2 : t ≠ 9) : w'.heap[k]? = some (.cells c t fz) :=
  (h.2 k (Array.getElem?_eq_some_iff.1 hv).1 hk (fun c fz e => by rw [hv] at e; cases e; exact h1 rfl) (fun c fz e => by rw [hv] at e; cases e; exact h2 rfl)).trans hv
theorem own_ne2 {w : World} {base n n' T T' sz sz' : Nat} {v v' : Value} {xs xs' : List Value} (h : w.ownsRow base T sz v n xs) (h' : w.ownsRow base T' sz' v' n' xs') (hT : T ≠ T') : v'.ownBlock = none ∨ v'.ownBlock ≠ v.ownBlock := by
  rcases h'.2 with ⟨rfl, _⟩ | ⟨g, cap, cur, rfl, _, hg, _⟩
  · exact .inl rfl
  · right
    intro e
    exact own_ne h hg (fun e => hT e.symm) (by rw [← e]; rfl)
theorem AskIn.below {base B : Nat} {nm lk pt : ByteArray} {n : Int} {w w' : World} {sl : List Slv} {fl : List ByteArray} {sv fv : Value} (h : AskIn base B nm lk pt n w sl fl sv fv) (k : Below w.heap.size w w') : AskIn base B nm lk pt n w' sl fl sv fv :=
  ⟨(k.block _ (Array.getElem?_eq_some_iff.1 h.1).1).trans h.1, h.2.1, own_below h.2.2.1 k, own_below h.2.2.2 k⟩

theorem AskIn.slave {base B : Nat} {nm lk pt : ByteArray} {n : Int} {w : World} {sl : List Slv} {fl : List ByteArray} {sv fv : Value} (h : AskIn base B nm lk pt n w sl fl sv fv) (hb : base ≤ w.heap.size) (x : Slv) {g6 cap6 : Nat} {w6 : World} {o : Obj}
    (hgrow6 : (w.alloc o).grownBy w6 sv.ownBlock) (hown6 : w6.ownsRow base 71 2 (.slice (some ⟨g6, 0, none⟩) (sl.length + 1) cap6) (sl.length + 1) (sl.flatMap encSlv ++ encSlv x)) :
    w6.cell? ⟨B, 4, none⟩ = some sv ∧ w6.frozen? ⟨B, 4, none⟩ = false ∧ B < w6.heap.size ∧ AskIn base B nm lk pt n (w6.setCell ⟨B, 4, none⟩ (.slice (some ⟨g6, 0, none⟩) (sl.length + 1) cap6)) (sl ++ [x]) fl (.slice (some ⟨g6, 0, none⟩) (sl.length + 1) cap6) fv ∧
      Fr base B w (w6.setCell ⟨B, 4, none⟩ (.slice (some ⟨g6, 0, none⟩) (sl.length + 1) cap6)) := by
  obtain ⟨hB, hbB, hs, hf⟩ := h
  have hBl : B < w.heap.size := (Array.getElem?_eq_some_iff.1 hB).1
  have e6 := hgrow6.block B (by simp; omega) (own_ne hs hB (by decide)).symm
  have hB6 : w6.heap[B]? = some (.cells #[.string nm, .string lk, .string pt, .int .i64 n, sv, fv] 35 (0, 0)) := by rw [e6, Below.heap_alloc _ _ _ hBl]; exact hB
  have hz := set_blk (j := 4) (v := .slice (some ⟨g6, 0, none⟩) (sl.length + 1) cap6) hB6
  simp only [List.setIfInBounds_toArray, List.set_cons_succ, List.set_cons_zero] at hz
  have hf6 := (hf.alloc o).kept hgrow6 (own_ne2 hs hf (by decide))
  refine ⟨by simp [World.cell?, hB6], by simp [World.frozen?, hB6], (Array.getElem?_eq_some_iff.1 hB6).1, ⟨hz, hbB, ?_, ?_⟩, ?_⟩
  · rw [List.length_append, List.flatMap_append, List.flatMap_singleton]
    exact hown6.kept (grownBy_set w6 B 4 _) (.inr (own_ne hown6 hB6 (by decide)))
  · exact hf6.kept (grownBy_set w6 B 4 _) (.inr (own_ne hf6 hB6 (by decide)))
  · exact ((fr_below ((Below.refl _ w).alloc (Nat.le_refl _) o) hb).trans (fr_grown (hs.alloc o) (.inl rfl) hgrow6 (by simp; omega))).trans (fr_set hbB)
theorem AskIn.file {base B : Nat} {nm lk pt : ByteArray} {n : Int} {w : World} {sl : List Slv} {fl : List ByteArray} {sv fv : Value} (h : AskIn base B nm lk pt n w sl fl sv fv) (hb : base ≤ w.heap.size) (x : ByteArray) {g6 cap6 : Nat} {w6 : World} {o : Obj}
    (hgrow6 : (w.alloc o).grownBy w6 fv.ownBlock) (hown6 : w6.ownsRow base 9 1 (.slice (some ⟨g6, 0, none⟩) (fl.length + 1) cap6) (fl.length + 1) (fl.map Value.string ++ [.string x])) :
    w6.cell? ⟨B, 5, none⟩ = some fv ∧ w6.frozen? ⟨B, 5, none⟩ = false ∧ B < w6.heap.size ∧ AskIn base B nm lk pt n (w6.setCell ⟨B, 5, none⟩ (.slice (some ⟨g6, 0, none⟩) (fl.length + 1) cap6)) sl (fl ++ [x]) sv (.slice (some ⟨g6, 0, none⟩) (fl.length + 1) cap6) ∧
      Fr base B w (w6.setCell ⟨B, 5, none⟩ (.slice (some ⟨g6, 0, none⟩) (fl.length + 1) cap6)) := by
  obtain ⟨hB, hbB, hs, hf⟩ := h
  have hBl : B < w.heap.size := (Array.getElem?_eq_some_iff.1 hB).1
  have e6 := hgrow6.block B (by simp; omega) (own_ne hf hB (by decide)).symm
  have hB6 : w6.heap[B]? = some (.cells #[.string nm, .string lk, .string pt, .int .i64 n, sv, fv] 35 (0, 0)) := by rw [e6, Below.heap_alloc _ _ _ hBl]; exact hB
  have hz := set_blk (j := 5) (v := .slice (some ⟨g6, 0, none⟩) (fl.length + 1) cap6) hB6
  simp only [List.setIfInBounds_toArray, List.set_cons_succ, List.set_cons_zero] at hz
  have hs6 := (hs.alloc o).kept hgrow6 (own_ne2 hf hs (by decide))
  refine ⟨by simp [World.cell?, hB6], by simp [World.frozen?, hB6], (Array.getElem?_eq_some_iff.1 hB6).1, ⟨hz, hbB, ?_, ?_⟩, ?_⟩
  · exact hs6.kept (grownBy_set w6 B 5 _) (.inr (own_ne hs6 hB6 (by decide)))
  · rw [List.length_append, List.map_append]
    exact hown6.kept (grownBy_set w6 B 5 _) (.inr (own_ne hown6 hB6 (by decide)))
  · exact ((fr_below ((Below.refl _ w).alloc (Nat.le_refl _) o) hb).trans (fr_grown (hf.alloc o) (.inr rfl) hgrow6 (by simp; omega))).trans (fr_set hbB)

set_option maxRecDepth 100000 in
set_option maxHeartbeats 8000000 in
theorem cli_ask (lo : Nat) (v vv : Value) (l : List Itm) (vs : List ByteArray) (te : TypeId) (pe : Value) (w : World) (hl : l.length ≤ 1073741824) (hv : ItmAt lo w v l) (hvv : StrAt lo w vv vs) (h4 : vs.length = 4) (hsz : ∀ s ∈ vs, s.size ≤ 1099511627776)
    (h3 : ∀ x ∈ l, isSlave x = true → x.2.length = 3) (hg : w.cell? ⟨2, 0, none⟩ = some (.iface te pe)) :
    Calls Tryz.prog 28 #[v, vv] w (AskPost lo l vs w) := by
  obtain ⟨m, rfl, hm, hvals⟩ := hv
  obtain ⟨A, c, rfl, hc, hA⟩ := hm
  rw [List.length_map] at hl
  obtain ⟨A2, c2, rfl, hc2, hA2⟩ := hvv
  obtain ⟨b2, o2, rfl, hb2, hst2, hcells2⟩ := hA2 (by intro h; rw [h] at h4; simp at h4)
  rw [h4] at hc2 ⊢
  match vs, h4 with
  | [v0, v1, v2, v3], _ =>
  have k0 : w.cell? ⟨b2, o2, none⟩ = some (.string v0) := by simpa using hcells2 0 v0 rfl 0 _ rfl
  have k1 : w.cell? ⟨b2, o2 + 1, none⟩ = some (.string v1) := by simpa using hcells2 1 v1 rfl 0 _ rfl
  have k2 : w.cell? ⟨b2, o2 + 2, none⟩ = some (.string v2) := by simpa using hcells2 2 v2 rfl 0 _ rfl
  have k3 : w.cell? ⟨b2, o2 + 3, none⟩ = some (.string v3) := by simpa using hcells2 3 v3 rfl 0 _ rfl
  have hN := fun (W : World) (hW : Below w.heap.size w W) => num_Parse v3 (-1073741824) 1073741824 te pe W (hsz v3 (by simp)) (((bcell hW).1 _ 0 (World.block_lt_of_cell? w _ hg)).trans hg)
  unfold AskPost aask
  simp only [List.getD_cons_zero, List.getD_cons_succ]
  obtain ⟨pn, hpn⟩ : ∃ pn, nparse v3 (-1073741824) 1073741824 = pn := ⟨_, rfl⟩
  rw [hpn] at hN ⊢
  obtain ⟨n, er⟩ := pn
  dsimp only at hN ⊢
  have HN := Lib.hid hN
  have HA := Lib.hid hA
  have HV := Lib.hid hvals
  have H3 := Lib.hid h3
  have hb0 := (Below.refl w.heap.size w).alloc (Nat.le_refl _) (.cells #[.string ⟨#[]⟩, .string ⟨#[]⟩, .string ⟨#[]⟩, .int .i64 0, .slice none 0 0, .slice none 0 0] 35)
  clear hN hA hvals h3 hA2 hcells2 hg hpn hsz
  by_cases her : er = 0
  · subst her
    have hng : ((0 : Int) != 0) = false := rfl
    go_enter Tryz.func28, Tryz.ntmps28
    go_wp2_with (go_at_call 39; refine (HN.out _ hb0).mono ?_; rintro e w1 ⟨rfl, hb1⟩; have hb01 := hb0.trans (hb1.mono (by simp)))
    have hres : w1.heap[w.heap.size]? = some (.cells #[.string ⟨#[]⟩, .string ⟨#[]⟩, .string ⟨#[]⟩, .int .i64 0, .slice none 0 0, .slice none 0 0] 35 (0, 0)) := (hb1.block _ (by simp)).trans (heap_alloc_new w _)
    have hw1 : w.heap.size < w1.heap.size := by have := hb1.size; simp at this; omega
    have j0 := ((bcell hb01).1 b2 _ hb2).trans k0
    have j1 := ((bcell hb01).1 b2 _ hb2).trans k1
    have j2 := ((bcell hb01).1 b2 _ hb2).trans k2
    have HRes := Lib.hid hres
    clear k0 k1 k2 k3 hres
    have hb21 : b2 < w1.heap.size := by omega
    go_region
    obtain ⟨w2, hw2⟩ : ∃ w2, w2 = (w1.alloc (.cells #[.string v1, .string v0, .string v2, .int .i64 n, .slice none 0 0, .slice none 0 0] 35)).drew := ⟨_, rfl⟩
    rw [← hw2]
    obtain ⟨B, hB⟩ : ∃ B, w1.heap.size = B := ⟨_, rfl⟩
    have hb12 : Below w1.heap.size w1 w2 := by rw [hw2]; exact ((Below.refl _ _).alloc (Nat.le_refl _) _).trans ⟨rfl, rfl, rfl, Nat.le_refl _, fun _ _ => rfl⟩
    have hb02 := hb01.trans (hb12.mono (by omega))
    have hI2 : AskIn w.heap.size B v1 v0 v2 n w2 [] [] (.slice none 0 0) (.slice none 0 0) := by
      refine ⟨?_, by omega, World.ownsRow_nil _ _ _ _, World.ownsRow_nil _ _ _ _⟩
      rw [hw2, ← hB]
      exact heap_alloc_new w1 _
    have hR2 := (hb12.block _ hw1).trans HRes.out
    have hRB : w.heap.size ≠ B := by omega
    have HI2 := Lib.hid hI2
    have HB2 := Lib.hid hb02
    have HR2 := Lib.hid hR2
    rw [hB]
    clear hb12 hb02 hI2 hR2 j0 j1 j2 hw2 HRes hB hb1 hb01 hb21 hw1
    go_wp2
    go_loopg [35] m.length (fun g i wr => ∃ (j : Nat) (sv fv : Value), g + j = m.length ∧ i = .int .i64 j ∧ Aside (AskIn w.heap.size B v1 v0 v2 n wr ((((m.take j).map (·.1)).filter isSlave).map slv) ((((m.take j).map (·.1)).filter isSlave).map fil) sv fv) ∧ Aside (Fr w.heap.size B w2 wr))
    case atStart => exact ⟨0, _, _, by omega, rfl, HI2.out, Fr.refl _ _ _⟩
    case round =>
      obtain ⟨j, sv, fv, hgj, rfl, HI, HFr⟩ := hrel
      have hB := HI.out.1
      have hBl : B < wr.heap.size := (Array.getElem?_eq_some_iff.1 hB).1
      have hbw : Below w.heap.size w wr := HB2.out.trans HFr.out.1
      have hsz := hbw.size
      by_cases hlj : j < m.length
      · obtain ⟨y, hy⟩ : ∃ y, m[j]? = some y := ⟨m[j], List.getElem?_eq_getElem hlj⟩
        obtain ⟨b, o, rfl, hb, hst, hcells⟩ := HA.out (by intro h; rw [h] at hy; simp at hy)
        have hb' := bcell hbw
        have c0 : wr.cell? ⟨b, o + j * 2, none⟩ = some (.string y.1.1) := (hb'.1 b _ hb).trans (hcells _ y hy 0 _ rfl)
        have c1 : wr.cell? ⟨b, o + j * 2 + 1, none⟩ = some y.2 := (hb'.1 b _ hb).trans (hcells _ y hy 1 _ rfl)
        have htk := take_snoc_get hy
        have hym := List.mem_iff_getElem?.2 ⟨j, hy⟩
        have hval := (HV.out y hym).1
        have h3y := H3.out y.1 (List.mem_map.2 ⟨y, hym, rfl⟩)
        obtain ⟨⟨yn, yl⟩, yv⟩ := y
        dsimp only at c0 c1 hval h3y
        obtain ⟨yA, yc, rfl, hyc, hyr⟩ := hval
        have r0 : (j : Int) < (m.length : Int) := by omega
        have r1 : (0 : Int) ≤ (j : Int) := by omega
        have r2 : ((j : Int)).toNat = j := by omega
        have r3 : IntKind.i64.wrap ((j : Int) + 1) = (j : Int) + 1 := IntWalk.i64_in _ (by omega)
        have hlen : (((m.take j).map (·.1)).filter isSlave).length ≤ j := by
          refine Nat.le_trans (List.length_filter_le _ _) ?_
          rw [List.length_map, List.length_take]; omega
        have HTk : Hid ((m.take (j + 1)).map (·.1) = (m.take j).map (·.1) ++ [(yn, yl)]) := Lib.hid (by rw [htk, List.map_append]; rfl)
        clear hcells hb' hy htk hym
        have hsv : (yn.toList == slaveB.toList) = (yn.toList == [115, 108, 97, 118, 101]) := by rw [Lib.toList_data slaveB]; rfl
        cases e2 : (yn.toList == [115, 108, 97, 118, 101])
        · have hno : isSlave (yn, yl) = false := by unfold isSlave; rw [hsv, e2]
          have HNo : Hid (((m.take (j + 1)).map (·.1)).filter isSlave = ((m.take j).map (·.1)).filter isSlave) := Lib.hid (by rw [HTk.out, List.filter_append, List.filter_cons, hno]; simp)
          clear hno hsv h3y hyr hB
          go_wp2
          go_roundg (m.length - (j + 1))
          case measure => omega
          case rel =>
            have hal := (Below.refl wr.heap.size wr).alloc (Nat.le_refl _) (.cells #[.string yn, .slice yA yl.length yc] 62)
            refine ⟨j + 1, sv, fv, by omega, by go_num, ?_, HFr.out.trans (fr_below hal hsz)⟩
            rw [HNo.out]
            exact HI.out.below hal
        · have hno : isSlave (yn, yl) = true := by unfold isSlave; rw [hsv, e2]
          have h3l := h3y hno
          have HNo : Hid (((m.take (j + 1)).map (·.1)).filter isSlave = ((m.take j).map (·.1)).filter isSlave ++ [(yn, yl)]) := Lib.hid (by rw [HTk.out, List.filter_append, List.filter_cons, hno]; simp)
          obtain ⟨vb, vo, rfl, hvb, _, hvc⟩ := hyr (by intro h; rw [h] at h3l; simp at h3l)
          obtain ⟨s0, s1, s2, rfl⟩ := len3 h3l
          have d0' : w.cell? ⟨vb, vo, none⟩ = some (.string s0) := by simpa using hvc 0 s0 rfl 0 _ rfl
          have d1' : w.cell? ⟨vb, vo + 1, none⟩ = some (.string s1) := by simpa using hvc 1 s1 rfl 0 _ rfl
          have d2' : w.cell? ⟨vb, vo + 2, none⟩ = some (.string s2) := by simpa using hvc 2 s2 rfl 0 _ rfl
          clear hno hsv h3y hyr hB hvc
          go_wp2
          obtain ⟨X, hX⟩ : ∃ X, wr.heap.size = X := ⟨_, rfl⟩
          obtain ⟨wA, hwA⟩ : ∃ wA, wA = wr.alloc (.cells #[.string yn, .slice (some ⟨vb, vo, none⟩) 3 yc] 62) := ⟨_, rfl⟩
          rw [hX] at hBl ⊢
          have hwA1 : wA.heap[X]? = some (.cells #[.string yn, .slice (some ⟨vb, vo, none⟩) 3 yc] 62 (0, 0)) := by rw [hwA, ← hX]; exact heap_alloc_new wr _
          have hzA : wA.heap.size = X + 1 := by rw [hwA, ← hX]; simp
          have hbA : Below X wr wA := by rw [hwA, ← hX]; exact (Below.refl _ _).alloc (Nat.le_refl _) _
          rw [← hX] at hbA
          have hIA := HI.out.below hbA
          have hFA := HFr.out.trans (fr_below hbA hsz)
          have hbwA : Below w.heap.size w wA := HB2.out.trans hFA.1
          rw [← hwA]
          obtain ⟨sl, hsl⟩ : ∃ sl, (((m.take j).map (·.1)).filter isSlave).map slv = sl := ⟨_, rfl⟩
          obtain ⟨fl, hfl⟩ : ∃ fl, (((m.take j).map (·.1)).filter isSlave).map fil = fl := ⟨_, rfl⟩
          have hsll : sl.length ≤ 1073741824 := by rw [← hsl, List.length_map]; omega
          have hfll : fl.length ≤ 1073741824 := by rw [← hfl, List.length_map]; omega
          rw [hsl, hfl] at hIA
          have HSl := Lib.hid hsl
          have HFl := Lib.hid hfl
          have a1 : wA.cell? ⟨X, 1, none⟩ = some (.slice (some ⟨vb, vo, none⟩) 3 yc) := by simp [World.cell?, hwA1]
          have d0 := ((bcell hbwA).1 vb _ hvb).trans d0'
          have d1 := ((bcell hbwA).1 vb _ hvb).trans d1'
          have d2 := ((bcell hbwA).1 vb _ hvb).trans d2'
          have hBA := hIA.1
          have b4 : wA.cell? ⟨B, 4, none⟩ = some sv := by simp [World.cell?, hBA]
          have HIA := Lib.hid hIA
          have HFA := Lib.hid hFA
          have HWA := Lib.hid hwA1
          have HBW := Lib.hid hbwA
          have hXA : X < wA.heap.size := by omega
          have hwX : w.heap.size ≤ X := by rw [← hX]; exact hsz
          have hBX : B < X := hBl
          have hvB : vb ≠ B := by have := HIA.out.2.1; omega
          clear hwA hsl hfl hbA hIA hFA hwA1 hbwA hBA hzA hX
          obtain ⟨i1, hi1, hy0, hy1, hy2⟩ := info_parts slvInfo
          have hbB := (Below.refl wA.heap.size wA).alloc (Nat.le_refl _) (.cells #[.string s1, .string s0] 71)
          have e0 := ((bcell hbB).1 X 1 (by omega)).trans a1
          have e1 := ((bcell hbB).1 vb vo (by omega)).trans d0
          have e2' := ((bcell hbB).1 vb (vo + 1) (by omega)).trans d1
          have e3 := ((bcell hbB).1 B 4 (by omega)).trans b4
          have hs6 := HIA.out.2.2.1.alloc (.cells #[.string s1, .string s0] 71)
          have hn6 := heap_alloc_new wA (.cells #[.string s1, .string s0] 71)
          have hG := fun g6 cap6 w6 h1 h2 => HIA.out.slave (by omega) (s1, s0) (g6 := g6) (cap6 := cap6) (w6 := w6) (o := .cells #[.string s1, .string s0] 71) h1 h2
          have HG := Lib.hid hG
          have hneX : some X ≠ sv.ownBlock := (own_ne HIA.out.2.2.1 HWA.out (by decide)).symm
          have hnev : ∀ kk, some kk = sv.ownBlock → w.heap.size ≤ kk := fun kk e => (HIA.out.2.2.1.lt kk e.symm).1
          have hneV : some vb ≠ sv.ownBlock := fun e => by have := hnev vb e; omega
          clear hG hnev
          have hbs8 : w.heap.size ≤ wA.heap.size + 1 := by omega
          generalize hw8 : wA.alloc (.cells #[.string s1, .string s0] 71) = w8 at *
          have hz8 : w8.heap.size = wA.heap.size + 1 := by rw [← hw8]; simp
          refine wp_region_held_drew (S := (fun W => W.cell? ⟨X, 1, none⟩ = some (.slice (some ⟨vb, vo, none⟩) 3 yc) ∧ W.cell? ⟨vb, vo, none⟩ = some (.string s0) ∧ W.cell? ⟨vb, vo + 1, none⟩ = some (.string s1))) (by kernel_rfl) ?_ (fun hHeld => ?_)
          · ((try dsimp only) <;> (first | (go_split_ands; exact ⟨by go_keep, by go_keep, by go_keep⟩) | exact ⟨e0, e1, e2'⟩ | (rw [hw8]; exact ⟨e0, e1, e2'⟩) | exact ⟨k6s, k6t, k6u⟩ | exact ⟨(World.cell?_setCell_other w6 ⟨B, 4, none⟩ ⟨X, 1, none⟩ _ (by simp)).trans k6s, (World.cell?_setCell_other w6 ⟨B, 4, none⟩ ⟨vb, vo, none⟩ _ (by simp <;> omega)).trans k6t, (World.cell?_setCell_other w6 ⟨B, 4, none⟩ ⟨vb, vo + 1, none⟩ _ (by simp <;> omega)).trans k6u⟩))
          refine wpAnyH_take (i := 0) (v := ?_) rfl (by kernel_rfl) (by kernel_rfl) (by kernel_rfl) (fun _ _ _ h => h) (Or.inl ⟨by rfl, ?_⟩) (by assumption) ?_
          rotate_left
          · (intro w hSw; (try dsimp only at hSw); go_simp; first | done | with_reducible rfl)
          try simp only [Act.put, List.setIfInBounds_toArray, List.set_cons_zero, List.set_cons_succ]
          refine wpAnyH_take (i := 2) (v := ?_) rfl (by kernel_rfl) (by kernel_rfl) (by kernel_rfl) (fun _ _ _ h => h) (Or.inl ⟨by rfl, ?_⟩) (by assumption) ?_
          rotate_left
          · (intro w hSw; (try dsimp only at hSw); go_simp; first | done | with_reducible rfl)
          try simp only [Act.put, List.setIfInBounds_toArray, List.set_cons_zero, List.set_cons_succ]
          refine wpAnyH_take (i := 3) (v := ?_) rfl (by kernel_rfl) (by kernel_rfl) (by kernel_rfl) (fun _ _ _ h => h) (Or.inl ⟨by rfl, ?_⟩) (by assumption) ?_
          rotate_left
          · (intro w hSw; (try dsimp only at hSw); go_simp; first | done | with_reducible rfl)
          try simp only [Act.put, List.setIfInBounds_toArray, List.set_cons_zero, List.set_cons_succ]
          refine wpAnyH_take (i := 4) (v := ?_) rfl (by kernel_rfl) (by kernel_rfl) (by kernel_rfl) (fun _ _ _ h => h) (Or.inl ⟨by rfl, ?_⟩) (by assumption) ?_
          rotate_left
          · (intro w hSw; (try dsimp only at hSw); go_simp; first | done | with_reducible rfl)
          try simp only [Act.put, List.setIfInBounds_toArray, List.set_cons_zero, List.set_cons_succ]
          refine wpAnyH_take (i := 5) (v := ?_) rfl (by kernel_rfl) (by kernel_rfl) (by kernel_rfl) (fun _ _ _ h => h) (Or.inl ⟨by rfl, ?_⟩) (by assumption) ?_
          rotate_left
          · (intro w hSw; (try dsimp only at hSw); go_simp; first | done | with_reducible rfl)
          try simp only [Act.put, List.setIfInBounds_toArray, List.set_cons_zero, List.set_cons_succ]
          refine wpAnyH_take (i := 6) (v := ?_) rfl (by kernel_rfl) (by kernel_rfl) (by kernel_rfl) (fun _ _ _ h => h) (Or.inl ⟨by rfl, ?_⟩) (by assumption) ?_
          rotate_left
          · (intro w hSw; (try dsimp only at hSw); go_simp; first | done | with_reducible rfl)
          try simp only [Act.put, List.setIfInBounds_toArray, List.set_cons_zero, List.set_cons_succ]
          refine wpAnyH_take (i := 7) (v := ?_) rfl (by kernel_rfl) (by kernel_rfl) (by kernel_rfl) (fun _ _ _ h => h) (Or.inl ⟨by rfl, ?_⟩) (by assumption) ?_
          rotate_left
          · (intro w hSw; (try dsimp only at hSw); go_simp; first | done | with_reducible rfl)
          try simp only [Act.put, List.setIfInBounds_toArray, List.set_cons_zero, List.set_cons_succ]
          refine wpAnyH_take (i := 8) (v := ?_) rfl (by kernel_rfl) (by kernel_rfl) (by kernel_rfl) (fun _ _ _ h => h) (Or.inl ⟨by rfl, ?_⟩) (by assumption) ?_
          rotate_left
          · (intro w hSw; (try dsimp only at hSw); go_simp; first | done | with_reducible rfl)
          try simp only [Act.put, List.setIfInBounds_toArray, List.set_cons_zero, List.set_cons_succ]
          refine wpAnyH_take (i := 9) (v := ?_) rfl (by kernel_rfl) (by kernel_rfl) (by kernel_rfl) (fun _ _ _ h => h) (Or.inl ⟨by rfl, ?_⟩) (by assumption) ?_
          rotate_left
          · (intro w hSw; (try dsimp only at hSw); go_simp; first | done | with_reducible rfl)
          try simp only [Act.put, List.setIfInBounds_toArray, List.set_cons_zero, List.set_cons_succ]
          refine wpAnyH_take (i := 10) (v := ?_) rfl (by kernel_rfl) (by kernel_rfl) (by kernel_rfl) (fun _ _ _ h => h) (Or.inl ⟨by rfl, ?_⟩) (by assumption) ?_
          rotate_left
          · (intro w hSw; (try dsimp only at hSw); go_simp; first | done | with_reducible rfl)
          try simp only [Act.put, List.setIfInBounds_toArray, List.set_cons_zero, List.set_cons_succ]
          refine wpAnyH_ready (rs := [1, 11]) (by kernel_rfl) (by simp) ?_
          refine AllReadyH.cons rfl (fun K hK => ?_) ?_
          · go_simp
            refine hK.out _ _ ?_ (fun hHeld => ?_)
            · ((try dsimp only) <;> (first | (go_split_ands; exact ⟨by go_keep, by go_keep, by go_keep⟩) | exact ⟨e0, e1, e2'⟩ | (rw [hw8]; exact ⟨e0, e1, e2'⟩) | exact ⟨k6s, k6t, k6u⟩ | exact ⟨(World.cell?_setCell_other w6 ⟨B, 4, none⟩ ⟨X, 1, none⟩ _ (by simp)).trans k6s, (World.cell?_setCell_other w6 ⟨B, 4, none⟩ ⟨vb, vo, none⟩ _ (by simp <;> omega)).trans k6t, (World.cell?_setCell_other w6 ⟨B, 4, none⟩ ⟨vb, vo + 1, none⟩ _ (by simp <;> omega)).trans k6u⟩))
            clear hK K
            refine wpAnyH_ready (rs := [11]) (by kernel_rfl) (by simp) ?_
            refine AllReadyH.cons rfl (fun K hK => ?_) ?_
            · go_simp
              refine hK.out _ _ ?_ (fun hHeld => ?_)
              · ((try dsimp only) <;> (first | (go_split_ands; exact ⟨by go_keep, by go_keep, by go_keep⟩) | exact ⟨e0, e1, e2'⟩ | (rw [hw8]; exact ⟨e0, e1, e2'⟩) | exact ⟨k6s, k6t, k6u⟩ | exact ⟨(World.cell?_setCell_other w6 ⟨B, 4, none⟩ ⟨X, 1, none⟩ _ (by simp)).trans k6s, (World.cell?_setCell_other w6 ⟨B, 4, none⟩ ⟨vb, vo, none⟩ _ (by simp <;> omega)).trans k6t, (World.cell?_setCell_other w6 ⟨B, 4, none⟩ ⟨vb, vo + 1, none⟩ _ (by simp <;> omega)).trans k6u⟩))
              clear hK K
              refine wpAnyH_ready (rs := [12]) (by kernel_rfl) (by simp) ?_
              refine AllReadyH.cons rfl (fun K hK => ?_) ?_
              · (first | (refine step_append_lies _ (by rfl) _ _ _ (by rfl) w.heap.size 71 i1 _ 2 32 Tryz.underlying33 hi1 hy0 hy1 hy2 rfl (by omega) sv sl.length (sl.flatMap encSlv) (by rfl) hs6.drew ⟨wA.heap.size, 0, none⟩ 1 1 [.string s1, .string s0] (by rfl) (by rfl) (World.news_of_block (cs := #[.string s1, .string s0]) (t := 71) (fr := (0, 0)) hn6) (by simp [Value.oneCell']) (by omega) (by unfold maxLen; omega) (by omega) (by simp [hz8]; omega) (wA.heap.size + 1) (by simp [hz8]) ?_; intro g6 cap6 w6 hown6 hgrow6 hat6 hlt6; have hgr8 : w8.grownBy w6 sv.ownBlock := ⟨hgrow6.os, hgrow6.tape, hgrow6.output, hgrow6.size, hgrow6.block⟩; have e6s := hgr8.block X (by omega) hneX; have e6v := hgr8.block vb (by omega) hneV; have k6s := (World.cell?_of_block (w := w8) (a := ⟨X, 1, none⟩) e6s).trans e0; have k6t := (World.cell?_of_block (w := w8) (a := ⟨vb, vo, none⟩) e6v).trans e1; have k6u := (World.cell?_of_block (w := w8) (a := ⟨vb, vo + 1, none⟩) e6v).trans e2'; obtain ⟨k3, f3, hBl6, hR, hMu⟩ := HG.out g6 cap6 w6 (by first | exact hgr8 | (rw [hw8]; exact hgr8)) hown6))
                refine hK.out _ _ ?_ (fun hHeld => ?_)
                · ((try dsimp only) <;> (first | (go_split_ands; exact ⟨by go_keep, by go_keep, by go_keep⟩) | exact ⟨e0, e1, e2'⟩ | (rw [hw8]; exact ⟨e0, e1, e2'⟩) | exact ⟨k6s, k6t, k6u⟩ | exact ⟨(World.cell?_setCell_other w6 ⟨B, 4, none⟩ ⟨X, 1, none⟩ _ (by simp)).trans k6s, (World.cell?_setCell_other w6 ⟨B, 4, none⟩ ⟨vb, vo, none⟩ _ (by simp <;> omega)).trans k6t, (World.cell?_setCell_other w6 ⟨B, 4, none⟩ ⟨vb, vo + 1, none⟩ _ (by simp <;> omega)).trans k6u⟩))
                clear hK K
                refine wpAnyH_take (i := 13) (v := ?_) rfl (by kernel_rfl) (by kernel_rfl) (by kernel_rfl) (fun _ _ _ h => h) (Or.inl ⟨by rfl, ?_⟩) (by assumption) ?_
                rotate_left
                · (intro w hSw; (try dsimp only at hSw); go_simp; first | done | with_reducible rfl)
                try simp only [Act.put, List.setIfInBounds_toArray, List.set_cons_zero, List.set_cons_succ]
                refine wpAnyH_ready (rs := [14]) (by kernel_rfl) (by simp) ?_
                refine AllReadyH.cons rfl (fun K hK => ?_) ?_
                · go_simp
                  refine hK.out _ _ ?_ (fun hHeld => ?_)
                  · ((try dsimp only) <;> (first | (go_split_ands; exact ⟨by go_keep, by go_keep, by go_keep⟩) | exact ⟨e0, e1, e2'⟩ | (rw [hw8]; exact ⟨e0, e1, e2'⟩) | exact ⟨k6s, k6t, k6u⟩ | exact ⟨(World.cell?_setCell_other w6 ⟨B, 4, none⟩ ⟨X, 1, none⟩ _ (by simp)).trans k6s, (World.cell?_setCell_other w6 ⟨B, 4, none⟩ ⟨vb, vo, none⟩ _ (by simp <;> omega)).trans k6t, (World.cell?_setCell_other w6 ⟨B, 4, none⟩ ⟨vb, vo + 1, none⟩ _ (by simp <;> omega)).trans k6u⟩))
                  clear hK K
                  refine wpAnyH_done (by kernel_rfl) ?_ _
                  obtain ⟨sv7, hsv7⟩ : ∃ sv7, Value.slice (some ⟨g6, 0, none⟩) (sl.length + 1) cap6 = sv7 := ⟨_, rfl⟩
                  rw [hsv7] at hR hMu
                  simp only [hsv7]
                  obtain ⟨w7, hw7⟩ : ∃ w7, w7 = w6.setCell ⟨B, 4, none⟩ sv7 := ⟨_, rfl⟩
                  rw [← hw7] at hR hMu ⊢
                  have hz67 : w7.heap.size = w6.heap.size := by rw [hw7]; simp
                  have HR7 := Lib.hid hR
                  have HMu7 := Lib.hid (HFA.out.trans hMu)
                  have hX7 := hMu.boxed HWA.out (by omega) (by decide) (by decide)
                  have hBw7 := HBW.out.trans hMu.1
                  clear hw7 hsv7 hR hown6 hgrow6 hat6 hgr8 e6s e6v k6s k6t k6u k3 f3 hs6 hn6 hbB e0 e1 e2' e3 a1 d0 d1 b4 hw8 hz8
                  have hsz7 : wA.heap.size ≤ w7.heap.size := hMu.1.size
                  clear hMu hz67 hlt6 hBl6
                  go_wp2
                  obtain ⟨i2, hi2, hx0, hx1, hx2⟩ := info_parts infoStr
                  have p1 : w7.cell? ⟨X, 1, none⟩ = some (.slice (some ⟨vb, vo, none⟩) 3 yc) := by simp [World.cell?, hX7]
                  have p2 := ((bcell hBw7).1 vb _ hvb).trans d2'
                  have hB7 := HR7.out.1
                  have p3 : w7.cell? ⟨B, 5, none⟩ = some fv := by simp [World.cell?, hB7]
                  have hbC := (Below.refl w7.heap.size w7).alloc (Nat.le_refl _) (.cells #[.string s2] 9)
                  have e0 := ((bcell hbC).1 X 1 (by omega)).trans p1
                  have e1 := ((bcell hbC).1 vb (vo + 2) (by omega)).trans p2
                  have e3 := ((bcell hbC).1 B 5 (by omega)).trans p3
                  have hs6 := HR7.out.2.2.2.alloc (.cells #[.string s2] 9)
                  have hn6 := heap_alloc_new w7 (.cells #[.string s2] 9)
                  have hG := fun g6 cap6 w6 h1 h2 => HR7.out.file (by omega) s2 (g6 := g6) (cap6 := cap6) (w6 := w6) (o := .cells #[.string s2] 9) h1 h2
                  have HG7 := Lib.hid hG
                  have hneX7 : some X ≠ fv.ownBlock := (own_ne HR7.out.2.2.2 hX7 (by decide)).symm
                  have hnev : ∀ kk, some kk = fv.ownBlock → w.heap.size ≤ kk := fun kk e => (HR7.out.2.2.2.lt kk e.symm).1
                  have hneV7 : some vb ≠ fv.ownBlock := fun e => by have := hnev vb e; omega
                  have HX7 := Lib.hid hX7
                  have HBw7 := Lib.hid hBw7
                  clear hG hnev hB7 hX7 hBw7 hbC
                  have hbs9 : w.heap.size ≤ w7.heap.size + 1 := by omega
                  generalize hw9 : w7.alloc (.cells #[.string s2] 9) = w9 at *
                  have hz9 : w9.heap.size = w7.heap.size + 1 := by rw [← hw9]; simp
                  refine wp_region_held_drew (S := (fun W => W.cell? ⟨X, 1, none⟩ = some (.slice (some ⟨vb, vo, none⟩) 3 yc) ∧ W.cell? ⟨vb, vo + 2, none⟩ = some (.string s2))) (by kernel_rfl) ?_ (fun hHeld => ?_)
                  · ((try dsimp only) <;> (first | (go_split_ands; exact ⟨by go_keep, by go_keep⟩) | exact ⟨e0, e1⟩ | (rw [hw9]; exact ⟨e0, e1⟩) | exact ⟨k6s, k6t⟩ | exact ⟨(World.cell?_setCell_other w6' ⟨B, 5, none⟩ ⟨X, 1, none⟩ _ (by simp)).trans k6s, (World.cell?_setCell_other w6' ⟨B, 5, none⟩ ⟨vb, vo + 2, none⟩ _ (by simp <;> omega)).trans k6t⟩))
                  refine wpAnyH_take (i := 0) (v := ?_) rfl (by kernel_rfl) (by kernel_rfl) (by kernel_rfl) (fun _ _ _ h => h) (Or.inl ⟨by rfl, ?_⟩) (by assumption) ?_
                  rotate_left
                  · (intro w hSw; (try dsimp only at hSw); go_simp; first | done | with_reducible rfl)
                  try simp only [Act.put, List.setIfInBounds_toArray, List.set_cons_zero, List.set_cons_succ]
                  refine wpAnyH_take (i := 2) (v := ?_) rfl (by kernel_rfl) (by kernel_rfl) (by kernel_rfl) (fun _ _ _ h => h) (Or.inl ⟨by rfl, ?_⟩) (by assumption) ?_
                  rotate_left
                  · (intro w hSw; (try dsimp only at hSw); go_simp; first | done | with_reducible rfl)
                  try simp only [Act.put, List.setIfInBounds_toArray, List.set_cons_zero, List.set_cons_succ]
                  refine wpAnyH_take (i := 3) (v := ?_) rfl (by kernel_rfl) (by kernel_rfl) (by kernel_rfl) (fun _ _ _ h => h) (Or.inl ⟨by rfl, ?_⟩) (by assumption) ?_
                  rotate_left
                  · (intro w hSw; (try dsimp only at hSw); go_simp; first | done | with_reducible rfl)
                  try simp only [Act.put, List.setIfInBounds_toArray, List.set_cons_zero, List.set_cons_succ]
                  refine wpAnyH_take (i := 4) (v := ?_) rfl (by kernel_rfl) (by kernel_rfl) (by kernel_rfl) (fun _ _ _ h => h) (Or.inl ⟨by rfl, ?_⟩) (by assumption) ?_
                  rotate_left
                  · (intro w hSw; (try dsimp only at hSw); go_simp; first | done | with_reducible rfl)
                  try simp only [Act.put, List.setIfInBounds_toArray, List.set_cons_zero, List.set_cons_succ]
                  refine wpAnyH_take (i := 5) (v := ?_) rfl (by kernel_rfl) (by kernel_rfl) (by kernel_rfl) (fun _ _ _ h => h) (Or.inl ⟨by rfl, ?_⟩) (by assumption) ?_
                  rotate_left
                  · (intro w hSw; (try dsimp only at hSw); go_simp; first | done | with_reducible rfl)
                  try simp only [Act.put, List.setIfInBounds_toArray, List.set_cons_zero, List.set_cons_succ]
                  refine wpAnyH_ready (rs := [1, 6]) (by kernel_rfl) (by simp) ?_
                  refine AllReadyH.cons rfl (fun K hK => ?_) ?_
                  · go_simp
                    refine hK.out _ _ ?_ (fun hHeld => ?_)
                    · ((try dsimp only) <;> (first | (go_split_ands; exact ⟨by go_keep, by go_keep⟩) | exact ⟨e0, e1⟩ | (rw [hw9]; exact ⟨e0, e1⟩) | exact ⟨k6s, k6t⟩ | exact ⟨(World.cell?_setCell_other w6' ⟨B, 5, none⟩ ⟨X, 1, none⟩ _ (by simp)).trans k6s, (World.cell?_setCell_other w6' ⟨B, 5, none⟩ ⟨vb, vo + 2, none⟩ _ (by simp <;> omega)).trans k6t⟩))
                    clear hK K
                    refine wpAnyH_ready (rs := [6]) (by kernel_rfl) (by simp) ?_
                    refine AllReadyH.cons rfl (fun K hK => ?_) ?_
                    · go_simp
                      refine hK.out _ _ ?_ (fun hHeld => ?_)
                      · ((try dsimp only) <;> (first | (go_split_ands; exact ⟨by go_keep, by go_keep⟩) | exact ⟨e0, e1⟩ | (rw [hw9]; exact ⟨e0, e1⟩) | exact ⟨k6s, k6t⟩ | exact ⟨(World.cell?_setCell_other w6' ⟨B, 5, none⟩ ⟨X, 1, none⟩ _ (by simp)).trans k6s, (World.cell?_setCell_other w6' ⟨B, 5, none⟩ ⟨vb, vo + 2, none⟩ _ (by simp <;> omega)).trans k6t⟩))
                      clear hK K
                      refine wpAnyH_ready (rs := [7]) (by kernel_rfl) (by simp) ?_
                      refine AllReadyH.cons rfl (fun K hK => ?_) ?_
                      · (first | (refine step_append_lies _ (by rfl) _ _ _ (by rfl) w.heap.size 9 i2 _ 1 16 Tryz.underlying22 hi2 hx0 hx1 hx2 rfl (by omega) fv fl.length (fl.map Value.string) (by rfl) hs6.drew ⟨w7.heap.size, 0, none⟩ 1 1 [.string s2] (by rfl) (by rfl) (World.news_of_block (cs := #[.string s2]) (t := 9) (fr := (0, 0)) hn6) (by simp [Value.oneCell']) (by omega) (by unfold maxLen; omega) (by omega) (by simp [hz9]; omega) (w7.heap.size + 1) (by simp [hz9]) ?_; intro g7 cap7 w6' hown6 hgrow6 hat6 hlt6; have hgr9 : w9.grownBy w6' fv.ownBlock := ⟨hgrow6.os, hgrow6.tape, hgrow6.output, hgrow6.size, hgrow6.block⟩; have e6s := hgr9.block X (by omega) hneX7; have e6v := hgr9.block vb (by omega) hneV7; have k6s := (World.cell?_of_block (w := w9) (a := ⟨X, 1, none⟩) e6s).trans e0; have k6t := (World.cell?_of_block (w := w9) (a := ⟨vb, vo + 2, none⟩) e6v).trans e1; obtain ⟨k3, f3, hBl6, hR8, hMu8⟩ := HG7.out g7 cap7 w6' (by first | exact hgr9 | (rw [hw9]; exact hgr9)) hown6))
                        refine hK.out _ _ ?_ (fun hHeld => ?_)
                        · ((try dsimp only) <;> (first | (go_split_ands; exact ⟨by go_keep, by go_keep⟩) | exact ⟨e0, e1⟩ | (rw [hw9]; exact ⟨e0, e1⟩) | exact ⟨k6s, k6t⟩ | exact ⟨(World.cell?_setCell_other w6' ⟨B, 5, none⟩ ⟨X, 1, none⟩ _ (by simp)).trans k6s, (World.cell?_setCell_other w6' ⟨B, 5, none⟩ ⟨vb, vo + 2, none⟩ _ (by simp <;> omega)).trans k6t⟩))
                        clear hK K
                        refine wpAnyH_take (i := 8) (v := ?_) rfl (by kernel_rfl) (by kernel_rfl) (by kernel_rfl) (fun _ _ _ h => h) (Or.inl ⟨by rfl, ?_⟩) (by assumption) ?_
                        rotate_left
                        · (intro w hSw; (try dsimp only at hSw); go_simp; first | done | with_reducible rfl)
                        try simp only [Act.put, List.setIfInBounds_toArray, List.set_cons_zero, List.set_cons_succ]
                        refine wpAnyH_ready (rs := [9]) (by kernel_rfl) (by simp) ?_
                        refine AllReadyH.cons rfl (fun K hK => ?_) ?_
                        · go_simp
                          refine hK.out _ _ ?_ (fun hHeld => ?_)
                          · ((try dsimp only) <;> (first | (go_split_ands; exact ⟨by go_keep, by go_keep⟩) | exact ⟨e0, e1⟩ | (rw [hw9]; exact ⟨e0, e1⟩) | exact ⟨k6s, k6t⟩ | exact ⟨(World.cell?_setCell_other w6' ⟨B, 5, none⟩ ⟨X, 1, none⟩ _ (by simp)).trans k6s, (World.cell?_setCell_other w6' ⟨B, 5, none⟩ ⟨vb, vo + 2, none⟩ _ (by simp <;> omega)).trans k6t⟩))
                          clear hK K
                          refine wpAnyH_done (by kernel_rfl) ?_ _
                          go_wp2
                          go_roundg (m.length - (j + 1))
                          case measure => omega
                          case rel =>
                            refine ⟨j + 1, sv7, .slice (some ⟨g7, 0, none⟩) (fl.length + 1) cap7, by omega, by go_num, ?_, HMu7.out.trans hMu8⟩
                            rw [HNo.out, List.map_append, List.map_append, HSl.out, HFl.out]
                            exact hR8
                        exact AllReadyH.nil
                      exact AllReadyH.nil
                    exact AllReadyH.nil
                  refine AllReadyH.cons rfl (fun K hK => ?_) ?_
                  · go_simp
                    refine hK.out _ _ ?_ (fun hHeld => ?_)
                    · ((try dsimp only) <;> (first | (go_split_ands; exact ⟨by go_keep, by go_keep⟩) | exact ⟨e0, e1⟩ | (rw [hw9]; exact ⟨e0, e1⟩) | exact ⟨k6s, k6t⟩ | exact ⟨(World.cell?_setCell_other w6' ⟨B, 5, none⟩ ⟨X, 1, none⟩ _ (by simp)).trans k6s, (World.cell?_setCell_other w6' ⟨B, 5, none⟩ ⟨vb, vo + 2, none⟩ _ (by simp <;> omega)).trans k6t⟩))
                    clear hK K
                    refine wpAnyH_ready (rs := [1]) (by kernel_rfl) (by simp) ?_
                    refine AllReadyH.cons rfl (fun K hK => ?_) ?_
                    · go_simp
                      refine hK.out _ _ ?_ (fun hHeld => ?_)
                      · ((try dsimp only) <;> (first | (go_split_ands; exact ⟨by go_keep, by go_keep⟩) | exact ⟨e0, e1⟩ | (rw [hw9]; exact ⟨e0, e1⟩) | exact ⟨k6s, k6t⟩ | exact ⟨(World.cell?_setCell_other w6' ⟨B, 5, none⟩ ⟨X, 1, none⟩ _ (by simp)).trans k6s, (World.cell?_setCell_other w6' ⟨B, 5, none⟩ ⟨vb, vo + 2, none⟩ _ (by simp <;> omega)).trans k6t⟩))
                      clear hK K
                      refine wpAnyH_ready (rs := [7]) (by kernel_rfl) (by simp) ?_
                      refine AllReadyH.cons rfl (fun K hK => ?_) ?_
                      · (first | (refine step_append_lies _ (by rfl) _ _ _ (by rfl) w.heap.size 9 i2 _ 1 16 Tryz.underlying22 hi2 hx0 hx1 hx2 rfl (by omega) fv fl.length (fl.map Value.string) (by rfl) hs6.drew ⟨w7.heap.size, 0, none⟩ 1 1 [.string s2] (by rfl) (by rfl) (World.news_of_block (cs := #[.string s2]) (t := 9) (fr := (0, 0)) hn6) (by simp [Value.oneCell']) (by omega) (by unfold maxLen; omega) (by omega) (by simp [hz9]; omega) (w7.heap.size + 1) (by simp [hz9]) ?_; intro g7 cap7 w6' hown6 hgrow6 hat6 hlt6; have hgr9 : w9.grownBy w6' fv.ownBlock := ⟨hgrow6.os, hgrow6.tape, hgrow6.output, hgrow6.size, hgrow6.block⟩; have e6s := hgr9.block X (by omega) hneX7; have e6v := hgr9.block vb (by omega) hneV7; have k6s := (World.cell?_of_block (w := w9) (a := ⟨X, 1, none⟩) e6s).trans e0; have k6t := (World.cell?_of_block (w := w9) (a := ⟨vb, vo + 2, none⟩) e6v).trans e1; obtain ⟨k3, f3, hBl6, hR8, hMu8⟩ := HG7.out g7 cap7 w6' (by first | exact hgr9 | (rw [hw9]; exact hgr9)) hown6))
                        refine hK.out _ _ ?_ (fun hHeld => ?_)
                        · ((try dsimp only) <;> (first | (go_split_ands; exact ⟨by go_keep, by go_keep⟩) | exact ⟨e0, e1⟩ | (rw [hw9]; exact ⟨e0, e1⟩) | exact ⟨k6s, k6t⟩ | exact ⟨(World.cell?_setCell_other w6' ⟨B, 5, none⟩ ⟨X, 1, none⟩ _ (by simp)).trans k6s, (World.cell?_setCell_other w6' ⟨B, 5, none⟩ ⟨vb, vo + 2, none⟩ _ (by simp <;> omega)).trans k6t⟩))
                        clear hK K
                        refine wpAnyH_take (i := 8) (v := ?_) rfl (by kernel_rfl) (by kernel_rfl) (by kernel_rfl) (fun _ _ _ h => h) (Or.inl ⟨by rfl, ?_⟩) (by assumption) ?_
                        rotate_left
                        · (intro w hSw; (try dsimp only at hSw); go_simp; first | done | with_reducible rfl)
                        try simp only [Act.put, List.setIfInBounds_toArray, List.set_cons_zero, List.set_cons_succ]
                        refine wpAnyH_ready (rs := [9]) (by kernel_rfl) (by simp) ?_
                        refine AllReadyH.cons rfl (fun K hK => ?_) ?_
                        · go_simp
                          refine hK.out _ _ ?_ (fun hHeld => ?_)
                          · ((try dsimp only) <;> (first | (go_split_ands; exact ⟨by go_keep, by go_keep⟩) | exact ⟨e0, e1⟩ | (rw [hw9]; exact ⟨e0, e1⟩) | exact ⟨k6s, k6t⟩ | exact ⟨(World.cell?_setCell_other w6' ⟨B, 5, none⟩ ⟨X, 1, none⟩ _ (by simp)).trans k6s, (World.cell?_setCell_other w6' ⟨B, 5, none⟩ ⟨vb, vo + 2, none⟩ _ (by simp <;> omega)).trans k6t⟩))
                          clear hK K
                          refine wpAnyH_done (by kernel_rfl) ?_ _
                          go_wp2
                          go_roundg (m.length - (j + 1))
                          case measure => omega
                          case rel =>
                            refine ⟨j + 1, sv7, .slice (some ⟨g7, 0, none⟩) (fl.length + 1) cap7, by omega, by go_num, ?_, HMu7.out.trans hMu8⟩
                            rw [HNo.out, List.map_append, List.map_append, HSl.out, HFl.out]
                            exact hR8
                        exact AllReadyH.nil
                      exact AllReadyH.nil
                    exact AllReadyH.nil
                  exact AllReadyH.nil
                exact AllReadyH.nil
              exact AllReadyH.nil
            exact AllReadyH.nil
          refine AllReadyH.cons rfl (fun K hK => ?_) ?_
          · go_simp
            refine hK.out _ _ ?_ (fun hHeld => ?_)
            · ((try dsimp only) <;> (first | (go_split_ands; exact ⟨by go_keep, by go_keep, by go_keep⟩) | exact ⟨e0, e1, e2'⟩ | (rw [hw8]; exact ⟨e0, e1, e2'⟩) | exact ⟨k6s, k6t, k6u⟩ | exact ⟨(World.cell?_setCell_other w6 ⟨B, 4, none⟩ ⟨X, 1, none⟩ _ (by simp)).trans k6s, (World.cell?_setCell_other w6 ⟨B, 4, none⟩ ⟨vb, vo, none⟩ _ (by simp <;> omega)).trans k6t, (World.cell?_setCell_other w6 ⟨B, 4, none⟩ ⟨vb, vo + 1, none⟩ _ (by simp <;> omega)).trans k6u⟩))
            clear hK K
            refine wpAnyH_ready (rs := [1]) (by kernel_rfl) (by simp) ?_
            refine AllReadyH.cons rfl (fun K hK => ?_) ?_
            · go_simp
              refine hK.out _ _ ?_ (fun hHeld => ?_)
              · ((try dsimp only) <;> (first | (go_split_ands; exact ⟨by go_keep, by go_keep, by go_keep⟩) | exact ⟨e0, e1, e2'⟩ | (rw [hw8]; exact ⟨e0, e1, e2'⟩) | exact ⟨k6s, k6t, k6u⟩ | exact ⟨(World.cell?_setCell_other w6 ⟨B, 4, none⟩ ⟨X, 1, none⟩ _ (by simp)).trans k6s, (World.cell?_setCell_other w6 ⟨B, 4, none⟩ ⟨vb, vo, none⟩ _ (by simp <;> omega)).trans k6t, (World.cell?_setCell_other w6 ⟨B, 4, none⟩ ⟨vb, vo + 1, none⟩ _ (by simp <;> omega)).trans k6u⟩))
              clear hK K
              refine wpAnyH_ready (rs := [12]) (by kernel_rfl) (by simp) ?_
              refine AllReadyH.cons rfl (fun K hK => ?_) ?_
              · (first | (refine step_append_lies _ (by rfl) _ _ _ (by rfl) w.heap.size 71 i1 _ 2 32 Tryz.underlying33 hi1 hy0 hy1 hy2 rfl (by omega) sv sl.length (sl.flatMap encSlv) (by rfl) hs6.drew ⟨wA.heap.size, 0, none⟩ 1 1 [.string s1, .string s0] (by rfl) (by rfl) (World.news_of_block (cs := #[.string s1, .string s0]) (t := 71) (fr := (0, 0)) hn6) (by simp [Value.oneCell']) (by omega) (by unfold maxLen; omega) (by omega) (by simp [hz8]; omega) (wA.heap.size + 1) (by simp [hz8]) ?_; intro g6 cap6 w6 hown6 hgrow6 hat6 hlt6; have hgr8 : w8.grownBy w6 sv.ownBlock := ⟨hgrow6.os, hgrow6.tape, hgrow6.output, hgrow6.size, hgrow6.block⟩; have e6s := hgr8.block X (by omega) hneX; have e6v := hgr8.block vb (by omega) hneV; have k6s := (World.cell?_of_block (w := w8) (a := ⟨X, 1, none⟩) e6s).trans e0; have k6t := (World.cell?_of_block (w := w8) (a := ⟨vb, vo, none⟩) e6v).trans e1; have k6u := (World.cell?_of_block (w := w8) (a := ⟨vb, vo + 1, none⟩) e6v).trans e2'; obtain ⟨k3, f3, hBl6, hR, hMu⟩ := HG.out g6 cap6 w6 (by first | exact hgr8 | (rw [hw8]; exact hgr8)) hown6))
                refine hK.out _ _ ?_ (fun hHeld => ?_)
                · ((try dsimp only) <;> (first | (go_split_ands; exact ⟨by go_keep, by go_keep, by go_keep⟩) | exact ⟨e0, e1, e2'⟩ | (rw [hw8]; exact ⟨e0, e1, e2'⟩) | exact ⟨k6s, k6t, k6u⟩ | exact ⟨(World.cell?_setCell_other w6 ⟨B, 4, none⟩ ⟨X, 1, none⟩ _ (by simp)).trans k6s, (World.cell?_setCell_other w6 ⟨B, 4, none⟩ ⟨vb, vo, none⟩ _ (by simp <;> omega)).trans k6t, (World.cell?_setCell_other w6 ⟨B, 4, none⟩ ⟨vb, vo + 1, none⟩ _ (by simp <;> omega)).trans k6u⟩))
                clear hK K
                refine wpAnyH_take (i := 13) (v := ?_) rfl (by kernel_rfl) (by kernel_rfl) (by kernel_rfl) (fun _ _ _ h => h) (Or.inl ⟨by rfl, ?_⟩) (by assumption) ?_
                rotate_left
                · (intro w hSw; (try dsimp only at hSw); go_simp; first | done | with_reducible rfl)
                try simp only [Act.put, List.setIfInBounds_toArray, List.set_cons_zero, List.set_cons_succ]
                refine wpAnyH_ready (rs := [14]) (by kernel_rfl) (by simp) ?_
                refine AllReadyH.cons rfl (fun K hK => ?_) ?_
                · go_simp
                  refine hK.out _ _ ?_ (fun hHeld => ?_)
                  · ((try dsimp only) <;> (first | (go_split_ands; exact ⟨by go_keep, by go_keep, by go_keep⟩) | exact ⟨e0, e1, e2'⟩ | (rw [hw8]; exact ⟨e0, e1, e2'⟩) | exact ⟨k6s, k6t, k6u⟩ | exact ⟨(World.cell?_setCell_other w6 ⟨B, 4, none⟩ ⟨X, 1, none⟩ _ (by simp)).trans k6s, (World.cell?_setCell_other w6 ⟨B, 4, none⟩ ⟨vb, vo, none⟩ _ (by simp <;> omega)).trans k6t, (World.cell?_setCell_other w6 ⟨B, 4, none⟩ ⟨vb, vo + 1, none⟩ _ (by simp <;> omega)).trans k6u⟩))
                  clear hK K
                  refine wpAnyH_done (by kernel_rfl) ?_ _
                  obtain ⟨sv7, hsv7⟩ : ∃ sv7, Value.slice (some ⟨g6, 0, none⟩) (sl.length + 1) cap6 = sv7 := ⟨_, rfl⟩
                  rw [hsv7] at hR hMu
                  simp only [hsv7]
                  obtain ⟨w7, hw7⟩ : ∃ w7, w7 = w6.setCell ⟨B, 4, none⟩ sv7 := ⟨_, rfl⟩
                  rw [← hw7] at hR hMu ⊢
                  have hz67 : w7.heap.size = w6.heap.size := by rw [hw7]; simp
                  have HR7 := Lib.hid hR
                  have HMu7 := Lib.hid (HFA.out.trans hMu)
                  have hX7 := hMu.boxed HWA.out (by omega) (by decide) (by decide)
                  have hBw7 := HBW.out.trans hMu.1
                  clear hw7 hsv7 hR hown6 hgrow6 hat6 hgr8 e6s e6v k6s k6t k6u k3 f3 hs6 hn6 hbB e0 e1 e2' e3 a1 d0 d1 b4 hw8 hz8
                  have hsz7 : wA.heap.size ≤ w7.heap.size := hMu.1.size
                  clear hMu hz67 hlt6 hBl6
                  go_wp2
                  obtain ⟨i2, hi2, hx0, hx1, hx2⟩ := info_parts infoStr
                  have p1 : w7.cell? ⟨X, 1, none⟩ = some (.slice (some ⟨vb, vo, none⟩) 3 yc) := by simp [World.cell?, hX7]
                  have p2 := ((bcell hBw7).1 vb _ hvb).trans d2'
                  have hB7 := HR7.out.1
                  have p3 : w7.cell? ⟨B, 5, none⟩ = some fv := by simp [World.cell?, hB7]
                  have hbC := (Below.refl w7.heap.size w7).alloc (Nat.le_refl _) (.cells #[.string s2] 9)
                  have e0 := ((bcell hbC).1 X 1 (by omega)).trans p1
                  have e1 := ((bcell hbC).1 vb (vo + 2) (by omega)).trans p2
                  have e3 := ((bcell hbC).1 B 5 (by omega)).trans p3
                  have hs6 := HR7.out.2.2.2.alloc (.cells #[.string s2] 9)
                  have hn6 := heap_alloc_new w7 (.cells #[.string s2] 9)
                  have hG := fun g6 cap6 w6 h1 h2 => HR7.out.file (by omega) s2 (g6 := g6) (cap6 := cap6) (w6 := w6) (o := .cells #[.string s2] 9) h1 h2
                  have HG7 := Lib.hid hG
                  have hneX7 : some X ≠ fv.ownBlock := (own_ne HR7.out.2.2.2 hX7 (by decide)).symm
                  have hnev : ∀ kk, some kk = fv.ownBlock → w.heap.size ≤ kk := fun kk e => (HR7.out.2.2.2.lt kk e.symm).1
                  have hneV7 : some vb ≠ fv.ownBlock := fun e => by have := hnev vb e; omega
                  have HX7 := Lib.hid hX7
                  have HBw7 := Lib.hid hBw7
                  clear hG hnev hB7 hX7 hBw7 hbC
                  have hbs9 : w.heap.size ≤ w7.heap.size + 1 := by omega
                  generalize hw9 : w7.alloc (.cells #[.string s2] 9) = w9 at *
                  have hz9 : w9.heap.size = w7.heap.size + 1 := by rw [← hw9]; simp
                  refine wp_region_held_drew (S := (fun W => W.cell? ⟨X, 1, none⟩ = some (.slice (some ⟨vb, vo, none⟩) 3 yc) ∧ W.cell? ⟨vb, vo + 2, none⟩ = some (.string s2))) (by kernel_rfl) ?_ (fun hHeld => ?_)
                  · ((try dsimp only) <;> (first | (go_split_ands; exact ⟨by go_keep, by go_keep⟩) | exact ⟨e0, e1⟩ | (rw [hw9]; exact ⟨e0, e1⟩) | exact ⟨k6s, k6t⟩ | exact ⟨(World.cell?_setCell_other w6' ⟨B, 5, none⟩ ⟨X, 1, none⟩ _ (by simp)).trans k6s, (World.cell?_setCell_other w6' ⟨B, 5, none⟩ ⟨vb, vo + 2, none⟩ _ (by simp <;> omega)).trans k6t⟩))
                  refine wpAnyH_take (i := 0) (v := ?_) rfl (by kernel_rfl) (by kernel_rfl) (by kernel_rfl) (fun _ _ _ h => h) (Or.inl ⟨by rfl, ?_⟩) (by assumption) ?_
                  rotate_left
                  · (intro w hSw; (try dsimp only at hSw); go_simp; first | done | with_reducible rfl)
                  try simp only [Act.put, List.setIfInBounds_toArray, List.set_cons_zero, List.set_cons_succ]
                  refine wpAnyH_take (i := 2) (v := ?_) rfl (by kernel_rfl) (by kernel_rfl) (by kernel_rfl) (fun _ _ _ h => h) (Or.inl ⟨by rfl, ?_⟩) (by assumption) ?_
                  rotate_left
                  · (intro w hSw; (try dsimp only at hSw); go_simp; first | done | with_reducible rfl)
                  try simp only [Act.put, List.setIfInBounds_toArray, List.set_cons_zero, List.set_cons_succ]
                  refine wpAnyH_take (i := 3) (v := ?_) rfl (by kernel_rfl) (by kernel_rfl) (by kernel_rfl) (fun _ _ _ h => h) (Or.inl ⟨by rfl, ?_⟩) (by assumption) ?_
                  rotate_left
                  · (intro w hSw; (try dsimp only at hSw); go_simp; first | done | with_reducible rfl)
                  try simp only [Act.put, List.setIfInBounds_toArray, List.set_cons_zero, List.set_cons_succ]
                  refine wpAnyH_take (i := 4) (v := ?_) rfl (by kernel_rfl) (by kernel_rfl) (by kernel_rfl) (fun _ _ _ h => h) (Or.inl ⟨by rfl, ?_⟩) (by assumption) ?_
                  rotate_left
                  · (intro w hSw; (try dsimp only at hSw); go_simp; first | done | with_reducible rfl)
                  try simp only [Act.put, List.setIfInBounds_toArray, List.set_cons_zero, List.set_cons_succ]
                  refine wpAnyH_take (i := 5) (v := ?_) rfl (by kernel_rfl) (by kernel_rfl) (by kernel_rfl) (fun _ _ _ h => h) (Or.inl ⟨by rfl, ?_⟩) (by assumption) ?_
                  rotate_left
                  · (intro w hSw; (try dsimp only at hSw); go_simp; first | done | with_reducible rfl)
                  try simp only [Act.put, List.setIfInBounds_toArray, List.set_cons_zero, List.set_cons_succ]
                  refine wpAnyH_ready (rs := [1, 6]) (by kernel_rfl) (by simp) ?_
                  refine AllReadyH.cons rfl (fun K hK => ?_) ?_
                  · go_simp
                    refine hK.out _ _ ?_ (fun hHeld => ?_)
                    · ((try dsimp only) <;> (first | (go_split_ands; exact ⟨by go_keep, by go_keep⟩) | exact ⟨e0, e1⟩ | (rw [hw9]; exact ⟨e0, e1⟩) | exact ⟨k6s, k6t⟩ | exact ⟨(World.cell?_setCell_other w6' ⟨B, 5, none⟩ ⟨X, 1, none⟩ _ (by simp)).trans k6s, (World.cell?_setCell_other w6' ⟨B, 5, none⟩ ⟨vb, vo + 2, none⟩ _ (by simp <;> omega)).trans k6t⟩))
                    clear hK K
                    refine wpAnyH_ready (rs := [6]) (by kernel_rfl) (by simp) ?_
                    refine AllReadyH.cons rfl (fun K hK => ?_) ?_
                    · go_simp
                      refine hK.out _ _ ?_ (fun hHeld => ?_)
                      · ((try dsimp only) <;> (first | (go_split_ands; exact ⟨by go_keep, by go_keep⟩) | exact ⟨e0, e1⟩ | (rw [hw9]; exact ⟨e0, e1⟩) | exact ⟨k6s, k6t⟩ | exact ⟨(World.cell?_setCell_other w6' ⟨B, 5, none⟩ ⟨X, 1, none⟩ _ (by simp)).trans k6s, (World.cell?_setCell_other w6' ⟨B, 5, none⟩ ⟨vb, vo + 2, none⟩ _ (by simp <;> omega)).trans k6t⟩))
                      clear hK K
                      refine wpAnyH_ready (rs := [7]) (by kernel_rfl) (by simp) ?_
                      refine AllReadyH.cons rfl (fun K hK => ?_) ?_
                      · (first | (refine step_append_lies _ (by rfl) _ _ _ (by rfl) w.heap.size 9 i2 _ 1 16 Tryz.underlying22 hi2 hx0 hx1 hx2 rfl (by omega) fv fl.length (fl.map Value.string) (by rfl) hs6.drew ⟨w7.heap.size, 0, none⟩ 1 1 [.string s2] (by rfl) (by rfl) (World.news_of_block (cs := #[.string s2]) (t := 9) (fr := (0, 0)) hn6) (by simp [Value.oneCell']) (by omega) (by unfold maxLen; omega) (by omega) (by simp [hz9]; omega) (w7.heap.size + 1) (by simp [hz9]) ?_; intro g7 cap7 w6' hown6 hgrow6 hat6 hlt6; have hgr9 : w9.grownBy w6' fv.ownBlock := ⟨hgrow6.os, hgrow6.tape, hgrow6.output, hgrow6.size, hgrow6.block⟩; have e6s := hgr9.block X (by omega) hneX7; have e6v := hgr9.block vb (by omega) hneV7; have k6s := (World.cell?_of_block (w := w9) (a := ⟨X, 1, none⟩) e6s).trans e0; have k6t := (World.cell?_of_block (w := w9) (a := ⟨vb, vo + 2, none⟩) e6v).trans e1; obtain ⟨k3, f3, hBl6, hR8, hMu8⟩ := HG7.out g7 cap7 w6' (by first | exact hgr9 | (rw [hw9]; exact hgr9)) hown6))
                        refine hK.out _ _ ?_ (fun hHeld => ?_)
                        · ((try dsimp only) <;> (first | (go_split_ands; exact ⟨by go_keep, by go_keep⟩) | exact ⟨e0, e1⟩ | (rw [hw9]; exact ⟨e0, e1⟩) | exact ⟨k6s, k6t⟩ | exact ⟨(World.cell?_setCell_other w6' ⟨B, 5, none⟩ ⟨X, 1, none⟩ _ (by simp)).trans k6s, (World.cell?_setCell_other w6' ⟨B, 5, none⟩ ⟨vb, vo + 2, none⟩ _ (by simp <;> omega)).trans k6t⟩))
                        clear hK K
                        refine wpAnyH_take (i := 8) (v := ?_) rfl (by kernel_rfl) (by kernel_rfl) (by kernel_rfl) (fun _ _ _ h => h) (Or.inl ⟨by rfl, ?_⟩) (by assumption) ?_
                        rotate_left
                        · (intro w hSw; (try dsimp only at hSw); go_simp; first | done | with_reducible rfl)
                        try simp only [Act.put, List.setIfInBounds_toArray, List.set_cons_zero, List.set_cons_succ]
                        refine wpAnyH_ready (rs := [9]) (by kernel_rfl) (by simp) ?_
                        refine AllReadyH.cons rfl (fun K hK => ?_) ?_
                        · go_simp
                          refine hK.out _ _ ?_ (fun hHeld => ?_)
                          · ((try dsimp only) <;> (first | (go_split_ands; exact ⟨by go_keep, by go_keep⟩) | exact ⟨e0, e1⟩ | (rw [hw9]; exact ⟨e0, e1⟩) | exact ⟨k6s, k6t⟩ | exact ⟨(World.cell?_setCell_other w6' ⟨B, 5, none⟩ ⟨X, 1, none⟩ _ (by simp)).trans k6s, (World.cell?_setCell_other w6' ⟨B, 5, none⟩ ⟨vb, vo + 2, none⟩ _ (by simp <;> omega)).trans k6t⟩))
                          clear hK K
                          refine wpAnyH_done (by kernel_rfl) ?_ _
                          go_wp2
                          go_roundg (m.length - (j + 1))
                          case measure => omega
                          case rel =>
                            refine ⟨j + 1, sv7, .slice (some ⟨g7, 0, none⟩) (fl.length + 1) cap7, by omega, by go_num, ?_, HMu7.out.trans hMu8⟩
                            rw [HNo.out, List.map_append, List.map_append, HSl.out, HFl.out]
                            exact hR8
                        exact AllReadyH.nil
                      exact AllReadyH.nil
                    exact AllReadyH.nil
                  refine AllReadyH.cons rfl (fun K hK => ?_) ?_
                  · go_simp
                    refine hK.out _ _ ?_ (fun hHeld => ?_)
                    · ((try dsimp only) <;> (first | (go_split_ands; exact ⟨by go_keep, by go_keep⟩) | exact ⟨e0, e1⟩ | (rw [hw9]; exact ⟨e0, e1⟩) | exact ⟨k6s, k6t⟩ | exact ⟨(World.cell?_setCell_other w6' ⟨B, 5, none⟩ ⟨X, 1, none⟩ _ (by simp)).trans k6s, (World.cell?_setCell_other w6' ⟨B, 5, none⟩ ⟨vb, vo + 2, none⟩ _ (by simp <;> omega)).trans k6t⟩))
                    clear hK K
                    refine wpAnyH_ready (rs := [1]) (by kernel_rfl) (by simp) ?_
                    refine AllReadyH.cons rfl (fun K hK => ?_) ?_
                    · go_simp
                      refine hK.out _ _ ?_ (fun hHeld => ?_)
                      · ((try dsimp only) <;> (first | (go_split_ands; exact ⟨by go_keep, by go_keep⟩) | exact ⟨e0, e1⟩ | (rw [hw9]; exact ⟨e0, e1⟩) | exact ⟨k6s, k6t⟩ | exact ⟨(World.cell?_setCell_other w6' ⟨B, 5, none⟩ ⟨X, 1, none⟩ _ (by simp)).trans k6s, (World.cell?_setCell_other w6' ⟨B, 5, none⟩ ⟨vb, vo + 2, none⟩ _ (by simp <;> omega)).trans k6t⟩))
                      clear hK K
                      refine wpAnyH_ready (rs := [7]) (by kernel_rfl) (by simp) ?_
                      refine AllReadyH.cons rfl (fun K hK => ?_) ?_
                      · (first | (refine step_append_lies _ (by rfl) _ _ _ (by rfl) w.heap.size 9 i2 _ 1 16 Tryz.underlying22 hi2 hx0 hx1 hx2 rfl (by omega) fv fl.length (fl.map Value.string) (by rfl) hs6.drew ⟨w7.heap.size, 0, none⟩ 1 1 [.string s2] (by rfl) (by rfl) (World.news_of_block (cs := #[.string s2]) (t := 9) (fr := (0, 0)) hn6) (by simp [Value.oneCell']) (by omega) (by unfold maxLen; omega) (by omega) (by simp [hz9]; omega) (w7.heap.size + 1) (by simp [hz9]) ?_; intro g7 cap7 w6' hown6 hgrow6 hat6 hlt6; have hgr9 : w9.grownBy w6' fv.ownBlock := ⟨hgrow6.os, hgrow6.tape, hgrow6.output, hgrow6.size, hgrow6.block⟩; have e6s := hgr9.block X (by omega) hneX7; have e6v := hgr9.block vb (by omega) hneV7; have k6s := (World.cell?_of_block (w := w9) (a := ⟨X, 1, none⟩) e6s).trans e0; have k6t := (World.cell?_of_block (w := w9) (a := ⟨vb, vo + 2, none⟩) e6v).trans e1; obtain ⟨k3, f3, hBl6, hR8, hMu8⟩ := HG7.out g7 cap7 w6' (by first | exact hgr9 | (rw [hw9]; exact hgr9)) hown6))
                        refine hK.out _ _ ?_ (fun hHeld => ?_)
                        · ((try dsimp only) <;> (first | (go_split_ands; exact ⟨by go_keep, by go_keep⟩) | exact ⟨e0, e1⟩ | (rw [hw9]; exact ⟨e0, e1⟩) | exact ⟨k6s, k6t⟩ | exact ⟨(World.cell?_setCell_other w6' ⟨B, 5, none⟩ ⟨X, 1, none⟩ _ (by simp)).trans k6s, (World.cell?_setCell_other w6' ⟨B, 5, none⟩ ⟨vb, vo + 2, none⟩ _ (by simp <;> omega)).trans k6t⟩))
                        clear hK K
                        refine wpAnyH_take (i := 8) (v := ?_) rfl (by kernel_rfl) (by kernel_rfl) (by kernel_rfl) (fun _ _ _ h => h) (Or.inl ⟨by rfl, ?_⟩) (by assumption) ?_
                        rotate_left
                        · (intro w hSw; (try dsimp only at hSw); go_simp; first | done | with_reducible rfl)
                        try simp only [Act.put, List.setIfInBounds_toArray, List.set_cons_zero, List.set_cons_succ]
                        refine wpAnyH_ready (rs := [9]) (by kernel_rfl) (by simp) ?_
                        refine AllReadyH.cons rfl (fun K hK => ?_) ?_
                        · go_simp
                          refine hK.out _ _ ?_ (fun hHeld => ?_)
                          · ((try dsimp only) <;> (first | (go_split_ands; exact ⟨by go_keep, by go_keep⟩) | exact ⟨e0, e1⟩ | (rw [hw9]; exact ⟨e0, e1⟩) | exact ⟨k6s, k6t⟩ | exact ⟨(World.cell?_setCell_other w6' ⟨B, 5, none⟩ ⟨X, 1, none⟩ _ (by simp)).trans k6s, (World.cell?_setCell_other w6' ⟨B, 5, none⟩ ⟨vb, vo + 2, none⟩ _ (by simp <;> omega)).trans k6t⟩))
                          clear hK K
                          refine wpAnyH_done (by kernel_rfl) ?_ _
                          go_wp2
                          go_roundg (m.length - (j + 1))
                          case measure => omega
                          case rel =>
                            refine ⟨j + 1, sv7, .slice (some ⟨g7, 0, none⟩) (fl.length + 1) cap7, by omega, by go_num, ?_, HMu7.out.trans hMu8⟩
                            rw [HNo.out, List.map_append, List.map_append, HSl.out, HFl.out]
                            exact hR8
                        exact AllReadyH.nil
                      exact AllReadyH.nil
                    exact AllReadyH.nil
                  exact AllReadyH.nil
                exact AllReadyH.nil
              exact AllReadyH.nil
            exact AllReadyH.nil
          exact AllReadyH.nil
      · have r0 : ¬ (j : Int) < (m.length : Int) := by omega
        have hj : m.take j = m := List.take_of_length_le (by omega)
        have HJ := Lib.hid hj
        obtain ⟨sA, sc, hsv⟩ := own_slice HI.out.2.2.1
        obtain ⟨fA, fc, hfv⟩ := own_slice HI.out.2.2.2
        obtain ⟨sn, hsn⟩ : ∃ sn, ((((m.take j).map (·.1)).filter isSlave).map slv).length = sn := ⟨_, rfl⟩
        obtain ⟨fn, hfn⟩ : ∃ fn, ((((m.take j).map (·.1)).filter isSlave).map fil).length = fn := ⟨_, rfl⟩
        rw [hsn] at hsv
        rw [hfn] at hfv
        subst hsv hfv
        have z0 : wr.cell? ⟨B, 0, none⟩ = some (.string v1) := by simp [World.cell?, hB]
        have z1 : wr.cell? ⟨B, 1, none⟩ = some (.string v0) := by simp [World.cell?, hB]
        have z2 : wr.cell? ⟨B, 2, none⟩ = some (.string v2) := by simp [World.cell?, hB]
        have z3 : wr.cell? ⟨B, 3, none⟩ = some (.int .i64 n) := by simp [World.cell?, hB]
        have z4 : wr.cell? ⟨B, 4, none⟩ = some (.slice sA sn sc) := by simp [World.cell?, hB]
        have z5 : wr.cell? ⟨B, 5, none⟩ = some (.slice fA fn fc) := by simp [World.cell?, hB]
        have hr1 := HFr.out.boxed HR2.out hRB (by decide) (by decide)
        clear hj hB hsn hfn
        go_wp2_with (refine wpList_store_row rfl 35 _ _ rfl w.heap.size _ rfl rfl 35 _ hr1 (by kernel_rfl) rfl (by simp [Value.oneCell']) ?_)
        have hr2 := setRow_heap wr w.heap.size _ #[.string v1, .string v0, .string v2, .int .i64 n, .slice sA sn sc, .slice fA fn fc] 35 (0, 0) hr1
        have k0 := cell_setRow_same wr w.heap.size 0 _ #[.string v1, .string v0, .string v2, .int .i64 n, .slice sA sn sc, .slice fA fn fc] _ _ hr1
        have k1 := cell_setRow_same wr w.heap.size 1 _ #[.string v1, .string v0, .string v2, .int .i64 n, .slice sA sn sc, .slice fA fn fc] _ _ hr1
        have k2 := cell_setRow_same wr w.heap.size 2 _ #[.string v1, .string v0, .string v2, .int .i64 n, .slice sA sn sc, .slice fA fn fc] _ _ hr1
        have k3 := cell_setRow_same wr w.heap.size 3 _ #[.string v1, .string v0, .string v2, .int .i64 n, .slice sA sn sc, .slice fA fn fc] _ _ hr1
        have k4 := cell_setRow_same wr w.heap.size 4 _ #[.string v1, .string v0, .string v2, .int .i64 n, .slice sA sn sc, .slice fA fn fc] _ _ hr1
        have k5 := cell_setRow_same wr w.heap.size 5 _ #[.string v1, .string v0, .string v2, .int .i64 n, .slice sA sn sc, .slice fA fn fc] _ _ hr1
        refine bodyPost_ret (v := .tuple #[.agg #[.string v1, .string v0, .string v2, .int .i64 n, .slice sA sn sc, .slice fA fn fc], .int .i64 0]) (by simp [results, Tryz.results28, go_sem, k0, k1, k2, k3, k4, k5, hr2]) rfl ?_
        have hI := HI.out
        rw [HJ.out] at hI
        have hbf := below_setRow hbw (Nat.le_refl _) #[.string v1, .string v0, .string v2, .int .i64 n, .slice sA sn sc, .slice fA fn fc]
        have hgr : wr.grownBy (wr.setRow w.heap.size #[.string v1, .string v0, .string v2, .int .i64 n, .slice sA sn sc, .slice fA fn fc]) (some w.heap.size) := grownBy_setRow _ _ _
        refine ⟨_, rfl, ⟨_, _, rfl, ?_, ?_⟩, hbf⟩
        · exact rowAt_own (hI.2.2.1.kept hgr (.inr (own_ne hI.2.2.1 hr1 (by decide)))) rfl rfl (fun _ => rfl)
        · exact rowAt_own (hI.2.2.2.kept hgr (.inr (own_ne hI.2.2.2 hr1 (by decide)))) rfl (strs_flat _).symm (fun _ => rfl)
  · have hng : (er != 0) = true := by rw [bne_iff_ne]; exact her
    simp only [if_pos her, ne_eq, her, not_false_eq_true, if_true]
    clear k0 k1 k2 H3 HV HA
    go_enter Tryz.func28, Tryz.ntmps28
    go_wp2_with (first | (go_at_call 39; refine (HN.out _ hb0).mono ?_; rintro e w1 ⟨rfl, hb1⟩; have hr1 := (hb1.block w.heap.size (by simp)).trans (heap_alloc_new w _)) | (refine wpList_store_row rfl 35 _ _ rfl w.heap.size _ rfl rfl 35 _ hr1 (by kernel_rfl) rfl (by simp [Value.oneCell']) ?_))
    have hr2 := setRow_heap w1 w.heap.size _ #[.string ⟨#[]⟩, .string ⟨#[]⟩, .string ⟨#[]⟩, .int .i64 0, .slice none 0 0, .slice none 0 0] 35 (0, 0) hr1
    have k0 := cell_setRow_same w1 w.heap.size 0 _ #[.string ⟨#[]⟩, .string ⟨#[]⟩, .string ⟨#[]⟩, .int .i64 0, .slice none 0 0, .slice none 0 0] _ _ hr1
    have k1 := cell_setRow_same w1 w.heap.size 1 _ #[.string ⟨#[]⟩, .string ⟨#[]⟩, .string ⟨#[]⟩, .int .i64 0, .slice none 0 0, .slice none 0 0] _ _ hr1
    have k2 := cell_setRow_same w1 w.heap.size 2 _ #[.string ⟨#[]⟩, .string ⟨#[]⟩, .string ⟨#[]⟩, .int .i64 0, .slice none 0 0, .slice none 0 0] _ _ hr1
    have k3 := cell_setRow_same w1 w.heap.size 3 _ #[.string ⟨#[]⟩, .string ⟨#[]⟩, .string ⟨#[]⟩, .int .i64 0, .slice none 0 0, .slice none 0 0] _ _ hr1
    have k4 := cell_setRow_same w1 w.heap.size 4 _ #[.string ⟨#[]⟩, .string ⟨#[]⟩, .string ⟨#[]⟩, .int .i64 0, .slice none 0 0, .slice none 0 0] _ _ hr1
    have k5 := cell_setRow_same w1 w.heap.size 5 _ #[.string ⟨#[]⟩, .string ⟨#[]⟩, .string ⟨#[]⟩, .int .i64 0, .slice none 0 0, .slice none 0 0] _ _ hr1
    have hbf := below_setRow (hb0.trans (hb1.mono (by simp))) (Nat.le_refl _) #[.string ⟨#[]⟩, .string ⟨#[]⟩, .string ⟨#[]⟩, .int .i64 0, .slice none 0 0, .slice none 0 0]
    refine bodyPost_ret (v := .tuple #[.agg #[.string ⟨#[]⟩, .string ⟨#[]⟩, .string ⟨#[]⟩, .int .i64 0, .slice none 0 0, .slice none 0 0], .int .i64 er]) (by simp [results, Tryz.results28, go_sem, k0, k1, k2, k3, k4, k5, hr2]) rfl ?_
    exact ⟨_, rfl, ⟨_, _, rfl, rowAt_nil _ _ _ _ _ _ _, rowAt_nil _ _ _ _ _ _ _⟩, hbf⟩

end Go.Proofs.YtnmlmbgaljnjeaaGreatDoor
