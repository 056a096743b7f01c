/- path: parts, their iterator, Parts, Clean, Is. Conditions: lengths below 2^32. -/
import Derived.Test.YtnmlmbgaljnjeaaGreatDoorShelf
import Derived.Test.YtnmlmbgaljnjeaaGreatDoorIter
import Derived.Deep.Onto
set_option linter.unusedVariables false
set_option linter.unusedSimpArgs false
namespace Go.Proofs.YtnmlmbgaljnjeaaGreatDoor
open Go.RowKit Go.Lib

/-- strings.Cut at one byte: before it, behind it, is it there -/
def cut1 (s : ByteArray) (c : UInt8) : ByteArray × ByteArray × Bool :=
  if 0 ≤ Lib.indexByte s.data.toList c then (s.extract 0 (Lib.indexByte s.data.toList c).toNat, s.extract ((Lib.indexByte s.data.toList c).toNat + 1) s.size, true) else (s, ⟨#[]⟩, false)

theorem indexByte_lt (l : List UInt8) (c : UInt8) : Lib.indexByte l c < l.length ∨ Lib.indexByte l c = -1 := by
  rcases Int.lt_or_le (Lib.indexByte l c) 0 with h1 | h1
  · have := Lib.indexByte_ge l c
    exact .inr (by omega)
  · obtain ⟨o, ho⟩ := Int.eq_ofNat_of_zero_le h1
    have := (Lib.indexByte_some ho).1
    have := (List.getElem?_eq_some_iff.1 this).1
    exact .inl (by omega)

set_option maxHeartbeats 1000000 in
theorem slite_Cut (s : ByteArray) (c : UInt8) (w : World) (hs : s.size < 4294967296) :
    Calls Tryz.prog 56 #[.string s, .string ⟨#[c]⟩] w fun e w' => e = .returned (.tuple #[.string (cut1 s c).1, .string (cut1 s c).2.1, .bool (cut1 s c).2.2]) ∧ ∃ n, w' = w.drewN n := by
  unfold cut1
  have hr := indexByte_lt s.data.toList c
  rw [← Lib.size_eq] at hr
  by_cases hi : 0 ≤ Lib.indexByte s.data.toList c
  · simp only [if_pos hi]
    obtain ⟨i, h⟩ := Int.eq_ofNat_of_zero_le hi
    have HC := Lib.hid (fun W => Tryz.stringslite_Index_one s c W)
    simp only [h] at HC hr ⊢
    have hlt : (i : Int) < (s.size : Int) := by omega
    clear hi h hr
    go_enter Tryz.func56, Tryz.ntmps56
    go_wp2_with (go_at_call 72; refine (HC.out _).mono ?_; rintro e w' ⟨rfl, rfl⟩)
    have q1 : IntKind.i64.wrap ((i : Int) + 1) = (i : Int) + 1 := IntWalk.i64_in _ (by omega)
    have q2 : (0 : Int) ≤ (i : Int) + 1 := by omega
    have q3 : ((i : Int) + 1).toNat = i + 1 := by omega
    have q4 : (i : Int) + 1 ≤ (s.size : Int) := by omega
    have q5 : (i : Int) ≤ (s.size : Int) := by omega
    have q6 : (⟨#[c]⟩ : ByteArray).size = 1 := rfl
    go_quiet (fail)
    go_wp2
    go_ret3
    exact ⟨rfl, _, rfl⟩
  · simp only [if_neg hi]
    have h : Lib.indexByte s.data.toList c = -1 := by have := Lib.indexByte_ge s.data.toList c; omega
    have HC := Lib.hid (fun W => Tryz.stringslite_Index_one s c W)
    simp only [h] at HC
    clear hi h hr
    go_enter Tryz.func56, Tryz.ntmps56
    go_wp2_with (go_at_call 72; refine (HC.out _).mono ?_; rintro e w' ⟨rfl, rfl⟩)
    go_ret3
    exact ⟨rfl, 0, rfl⟩

set_option maxHeartbeats 1000000 in
theorem strings_Cut1 (s : ByteArray) (c : UInt8) (w : World) (hs : s.size < 4294967296) :
    Calls Tryz.prog 44 #[.string s, .string ⟨#[c]⟩] w fun e w' => e = .returned (.tuple #[.string (cut1 s c).1, .string (cut1 s c).2.1, .bool (cut1 s c).2.2]) ∧ ∃ n, w' = w.drewN n := by
  go_enter Tryz.func44, Tryz.ntmps44
  go_wp2_with (go_at_call 56; refine (slite_Cut _ _ _ hs).mono ?_; rintro e w' ⟨rfl, n, rfl⟩)
  go_ret3
  exact ⟨rfl, n, rfl⟩

/-! The parts, as lists of bytes. -/
def segs : List UInt8 → List (List UInt8)
  | [] => [[]]
  | c :: l => if c = 47 then [] :: segs l else match segs l with | [] => [[c]] | h :: t => (c :: h) :: t
def keeps (p : List UInt8) : Bool := !p.isEmpty && !(p == [46])
def parts (s : ByteArray) : List ByteArray := ((segs s.data.toList).filter keeps).map fun l => ⟨l.toArray⟩

theorem segs_cut (l : List UInt8) : segs l = if 0 ≤ Lib.indexByte l 47 then l.take (Lib.indexByte l 47).toNat :: segs (l.drop ((Lib.indexByte l 47).toNat + 1)) else [l] := by
  induction l with
  | nil => rfl
  | cons c l ih =>
    by_cases h : c = 47
    · subst h
      have h0 : Lib.indexByte (47 :: l) 47 = 0 := by simp [Lib.indexByte]
      rw [h0]
      simp [segs]
    · have hge := Lib.indexByte_ge l 47
      have h1 : Lib.indexByte (c :: l) 47 = if Lib.indexByte l 47 = -1 then -1 else Lib.indexByte l 47 + 1 := by
        simp [Lib.indexByte, h]
      have h3 : segs (c :: l) = match segs l with | [] => [[c]] | h :: t => (c :: h) :: t := by
        rw [segs.eq_2, if_neg h]
      rw [h3]
      by_cases h2 : 0 ≤ Lib.indexByte l 47
      · rw [if_pos h2] at ih
        rw [if_neg (by omega)] at h1
        rw [ih, h1, if_pos (by omega)]
        obtain ⟨i, hi⟩ := Int.eq_ofNat_of_zero_le h2
        rw [hi, show ((i : Int) + 1).toNat = i + 1 from by omega]
        simp
      · rw [if_neg h2] at ih
        rw [if_pos (by omega)] at h1
        rw [ih, h1, if_neg (by omega)]

theorem ba_eta (s : ByteArray) : (⟨s.data.toList.toArray⟩ : ByteArray) = s := by cases s; simp

theorem parts_nil : parts ⟨#[]⟩ = [] := by simp [parts, segs, keeps]
/-- one step of the iterator -/
theorem parts_step (s : ByteArray) (h : s.size ≠ 0) : parts s = (if keeps (cut1 s 47).1.data.toList then [(cut1 s 47).1] else []) ++ parts (cut1 s 47).2.1 := by
  unfold parts
  rw [segs_cut]
  unfold cut1
  by_cases h1 : 0 ≤ Lib.indexByte s.data.toList 47
  · simp only [if_pos h1, Lib.extract_to_end]
    simp only [Lib.extract_data, List.drop_zero, Nat.sub_zero]
    rw [List.filter_cons]
    have e : (⟨(s.data.toList.take (Lib.indexByte s.data.toList 47).toNat).toArray⟩ : ByteArray) = s.extract 0 (Lib.indexByte s.data.toList 47).toNat := by
      rw [← ba_eta (s.extract 0 _), Lib.extract_data]; simp
    split <;> simp [e]
  · simp only [if_neg h1]
    rw [List.filter_cons]
    split <;> simp [segs, keeps, ba_eta]

theorem cut1_rest (s : ByteArray) (c : UInt8) (h : s.size ≠ 0) : (cut1 s c).2.1.size < s.size := by
  unfold cut1
  split
  · rw [ByteArray.size_extract]; omega
  · show 0 < s.size
    omega
theorem cut1_head (s : ByteArray) (c : UInt8) : (cut1 s c).1.size ≤ s.size := by
  unfold cut1
  split
  · have := indexByte_lt s.data.toList c
    rw [← Lib.size_eq] at this
    simp; omega
  · exact Nat.le_refl _

theorem keeps_iff (s : ByteArray) : keeps s.data.toList = (!s.toList.isEmpty && !(s.toList == [46])) := by
  rw [Lib.toList_data]; rfl

attribute [local go_sem] Oper.semAt_some

/-- how many bytes box X holds -/
def boxLen (W : World) (X : Nat) : Nat := match W.cell? ⟨X, 0, none⟩ with | some (.string r) => r.size | _ => 0

theorem boxLen_eq {W : World} {X : Nat} {t : TypeId} {r : ByteArray} (h : Boxed W X t (.string r)) : boxLen W X = r.size := by
  unfold boxLen; rw [h.cell]
theorem grownBy_drewN (w : World) (n : Nat) (row : Option Nat) : w.grownBy (w.drewN n) row := ⟨rfl, rfl, rfl, Nat.le_refl _, fun _ _ _ => rfl⟩

set_option maxRecDepth 100000 in
set_option maxHeartbeats 2000000 in
/-- path.parts' iterator: the parts of what its box holds, one by one -/
theorem parts1_seq (n : Nat) (hn : 1 ≤ n) (s : ByteArray) (hs : s.size < 4294967296) (X : Nat) (w : World) (hX : w.heap[X]? = some (.cells #[.string s] 9 (0, 0))) :
    SeqBox Fence.wide n Tryz.prog 49 #[.pointer (some ⟨X, 0, none⟩)] (fun x : ByteArray => #[Value.string x]) X (parts s) w := by
  intro l J Jx W hW hJ hJx hY h0
  rw [hX] at hW
  have HW := Lib.hid hW
  have HY := Lib.hid hY
  clear hX hW hY
  refine callsIn_of_wp Tryz.func49 rfl trivial ?_ rfl
  simp only [Tryz.ntmps49, List.size_toArray, List.length_cons, List.length_nil, Nat.reduceAdd, Nat.reduceSub, Array.replicate_succ, Array.replicate_zero, List.push_toArray, List.append_toArray, List.nil_append, List.cons_append]
  refine wpIn_block ?_
  gi_loopw [3] (fun _ wr => ∃ (pre : List ByteArray) (r : ByteArray), parts s = pre ++ parts r ∧ r.size < 4294967296 ∧ Boxed wr X 9 (.string r) ∧ J pre wr)
    (fun _ wr => boxLen wr X)
  case atStart => exact ⟨[], s, rfl, hs, HW.out.symm, h0⟩
  case round =>
    obtain ⟨pre, r, hpr, hr, hb, hJs⟩ := hrel
    have hc := hb.cell
    have hf := hb.frozen
    have HP := Lib.hid hpr
    have HJs := Lib.hid hJs
    clear hpr hJs
    by_cases he : r.size = 0
    · have hemp : r.toList.isEmpty = true := by
        rw [Lib.toList_data, List.isEmpty_iff, ← List.length_eq_zero_iff, ← Lib.size_eq]; exact he
      gi_wp2
      go_end0
      refine ⟨⟨_, rfl⟩, .inl ?_⟩
      have : parts r = [] := by
        have : r.data.toList = [] := by rw [← List.length_eq_zero_iff, ← Lib.size_eq]; exact he
        unfold parts; rw [this]; rfl
      rw [HP.out, this, List.append_nil]
      exact HJs.out
    · have hemp : r.toList.isEmpty = false := by
        rw [Lib.toList_data, List.isEmpty_eq_false_iff, ne_eq, ← List.length_eq_zero_iff, ← Lib.size_eq]; exact he
      have hst := parts_step r he
      have hlt := cut1_rest r 47 he
      have hC := fun W => strings_Cut1 r 47 W hr
      have hk := keeps_iff (cut1 r 47).1
      obtain ⟨o, ho⟩ : ∃ o, (cut1 r 47).1 = o := ⟨_, rfl⟩
      obtain ⟨q, hq⟩ : ∃ q, (cut1 r 47).2.1 = q := ⟨_, rfl⟩
      obtain ⟨b, hb'⟩ : ∃ b, (cut1 r 47).2.2 = b := ⟨_, rfl⟩
      rw [ho] at hst hk
      rw [hq] at hst hlt
      simp only [ho, hq, hb'] at hC
      have HC := Lib.hid hC
      clear ho hq hb' hC
      have hYY : ∀ nd, pre ++ [o] <+: parts s → YieldAt Fence.wide (n - 1) Tryz.prog l #[.string o] (wr.drewN nd) fun e W' =>
          (e = .returned (.bool true) ∧ J (pre ++ [o]) W' ∧ SameBox X (wr.drewN nd) W') ∨ (e = .returned (.bool false) ∧ Jx (pre ++ [o]) W') :=
        fun nd hp => HY.out pre o _ (hJ _ _ _ HJs.out (grownBy_drewN wr nd _)) hp
      have HYY := Lib.hid hYY
      clear hYY
      cases hkk : keeps o.data.toList
      · rw [hkk, if_neg (by simp)] at hst
        rw [hkk] at hk
        have HS := Lib.hid hst
        have Hk := Lib.hid hk
        clear hst hk hkk
        cases hk1 : o.toList.isEmpty
        · have hk2 : (o.toList == [46]) = true := by simpa [hk1] using Hk.out
          gi_wp2_with (refine ⟨trivial, ?_⟩; gi_at_call 44; refine (callsIn_wide.2 (HC.out _)).mono ?_; rintro e w' ⟨rfl, nd, rfl⟩)
          refine ⟨fun _ h => (by cases h), ?_⟩
          gi_wp2
          go_roundw
          case rel => exact ⟨pre, q, by rw [HP.out, HS.out]; simp, by omega, Boxed.set _ hb, hJ _ _ _ (hJ _ _ _ HJs.out (grownBy_drewN wr nd _)) (grownBy_setCell' _ _ _)⟩
          case measure => rw [boxLen_eq (W := (wr.drewN nd).setCell ⟨X, 0, none⟩ (.string q)) (Boxed.set _ hb), boxLen_eq hb]; exact hlt
        · gi_wp2_with (refine ⟨trivial, ?_⟩; gi_at_call 44; refine (callsIn_wide.2 (HC.out _)).mono ?_; rintro e w' ⟨rfl, nd, rfl⟩)
          refine ⟨fun _ h => (by cases h), ?_⟩
          gi_wp2
          go_roundw
          case rel => exact ⟨pre, q, by rw [HP.out, HS.out]; simp, by omega, Boxed.set _ hb, hJ _ _ _ (hJ _ _ _ HJs.out (grownBy_drewN wr nd _)) (grownBy_setCell' _ _ _)⟩
          case measure => rw [boxLen_eq (W := (wr.drewN nd).setCell ⟨X, 0, none⟩ (.string q)) (Boxed.set _ hb), boxLen_eq hb]; exact hlt
      · rw [hkk, if_pos rfl] at hst
        rw [hkk] at hk
        have HS := Lib.hid hst
        have hk1 : o.toList.isEmpty = false := by simpa using (by simpa using hk.symm : _ ∧ _).1
        have hk2 : (o.toList == [46]) = false := by simpa using (by simpa using hk.symm : _ ∧ _).2
        clear hst hk hkk
        gi_wp2_with (refine ⟨trivial, ?_⟩; gi_at_call 44; refine (callsIn_wide.2 (HC.out _)).mono ?_; rintro e w' ⟨rfl, nd, rfl⟩; obtain ⟨fn, tmps, assign, body, hy, hR⟩ := HYY.out nd ⟨parts q, by rw [HP.out, HS.out]; simp⟩)
        refine hR.mono ?_
        rintro e W3 (⟨rfl, hJ3, hk3⟩ | ⟨rfl, hJx3⟩)
        · have hb3 : Boxed W3 X 9 (.string r) := hk3.2.trans hb
          have hc3 := hb3.cell
          have hf3 := hb3.frozen
          gi_wp2
          go_roundw
          case rel => exact ⟨pre ++ [o], q, by rw [HP.out, HS.out]; simp, by omega, hb3.set _, hJ _ _ _ hJ3 (grownBy_setCell' _ _ _)⟩
          case measure => rw [boxLen_eq (hb3.set _), boxLen_eq hb]; exact hlt
        · gi_wp2
          refine bodyPost_ret (results_none rfl _ _ _) rfl ?_
          exact ⟨⟨_, rfl⟩, .inr ⟨pre ++ [o], ⟨parts q, by rw [HP.out, HS.out]; simp⟩, hJx3⟩⟩

set_option maxHeartbeats 1000000 in
/-- path.parts: the text is boxed; the function captures the box -/
theorem path_parts (n : Nat) (s : ByteArray) (w : World) :
    CallsIn Fence.wide n Tryz.prog 37 #[.string s] w fun e w' => e = .returned (.func (.func 49) #[] #[.pointer (some ⟨w.heap.size, 0, none⟩)]) ∧ w' = w.alloc (.cells #[.string s] 9) := by
  refine callsIn_of_wp Tryz.func37 rfl trivial ?_ rfl
  simp only [Tryz.ntmps37, List.size_toArray, List.length_cons, List.length_nil, Nat.reduceAdd, Nat.reduceSub, Array.replicate_succ, Array.replicate_zero, List.push_toArray, List.append_toArray, List.nil_append, List.cons_append]
  gi_wp2
  go_ret
  exact ⟨rfl, rfl⟩

theorem infoStr : (Tryz.prog.info? 9).map (fun i => (i.zero, i.size, i.bytes)) = some (some (.string ⟨#[]⟩), 1, 16) := by kernel_rfl

theorem segs_len (l : List UInt8) : (segs l).length ≤ l.length + 1 := by
  induction l with
  | nil => simp [segs]
  | cons c l ih =>
    rw [segs.eq_2]
    split
    · simp; omega
    · cases h : segs l with
      | nil => simp
      | cons a t => rw [h] at ih; simp at ih ⊢; omega
theorem parts_len (s : ByteArray) : (parts s).length ≤ s.size + 1 := by
  unfold parts
  rw [List.length_map]
  refine Nat.le_trans (List.length_filter_le _ _) ?_
  have := segs_len s.data.toList
  rwa [← Lib.size_eq] at this

/-- a box and a row beside it, under a turn of box X and of what is no cells -/
theorem bears_rowbox {β : Type} (X B n₀ B0 : Nat) (t e : TypeId) (size : Nat) (k : β → Nat) (f : β → List Value) (hX : B0 ≠ X) (hX2 : X < n₀) : BearsFrom X B (fun (s : β) W => ∃ v, Boxed W B0 t v ∧ W.ownsRow n₀ e size v (k s) (f s)) := by
  rintro s A C row ⟨v, hv, hr⟩ hg hrow
  have h1 : some B0 ≠ row := fun e' => by
    rcases hrow B0 e'.symm with h | ⟨_, o, ho, hc⟩
    · exact hX h
    · rw [show A.heap[B0]? = _ from hv] at ho; cases ho; cases hc
  refine ⟨v, hv.kept hg h1, hr.kept hg ?_⟩
  rcases hr.2 with ⟨rfl, _⟩ | ⟨g, cap, cur, rfl, hb, hgb, _⟩
  · exact .inl rfl
  · refine .inr fun e' => ?_
    have e'' : row = some g := by rw [← e']; simp [Value.ownBlock]
    rcases hrow g e'' with h | ⟨_, o, ho, hc⟩
    · omega
    · rw [hgb] at ho; cases ho; cases hc
theorem bears_below {β : Type} (X B n₀ : Nat) (w : World) (hn : n₀ ≤ w.heap.size) (hX : n₀ ≤ X) (hB : n₀ ≤ B) : BearsFrom X B (fun (_ : β) W => Below n₀ w W) :=
  fun s A C row hs hg hrow => hs.grown hg (Nat.le_trans hn hs.size) (fun k e => by rcases hrow k e with rfl | ⟨h, _⟩ <;> omega)
theorem bears_size {β : Type} (X B n : Nat) : BearsFrom X B (fun (_ : β) W => n ≤ W.heap.size) := fun _ _ _ _ hs hg _ => Nat.le_trans hs hg.size
theorem BearsFrom.and {β : Type} {X B : Nat} {I J : β → World → Prop} (h : BearsFrom X B I) (k : BearsFrom X B J) : BearsFrom X B (fun s W => I s W ∧ J s W) :=
  fun s A C row hs hg hrow => ⟨h s A C row hs.1 hg hrow, k s A C row hs.2 hg hrow⟩

/-- an append to a row leaves a block below its base as it lay -/
theorem same_append {W w1 : World} {base : Nat} {e : TypeId} {size k X B0 : Nat} {v : Value} {xs : List Value} {tmp : Obj} (hrow : W.ownsRow base e size v k xs) (hX : X < base) (hXW : X < W.heap.size)
    (hg : (W.alloc tmp).grownBy w1 v.ownBlock) (hne : B0 ≠ X) (u : Value) : (w1.setCell ⟨B0, 0, none⟩ u).heap[X]? = W.heap[X]? := by
  rw [Below.heap_setCell _ _ _ X (fun e => hne e.symm), hg.block X (by simp; omega) (fun e => ?_), Below.heap_alloc _ _ _ hXW]
  have := (hrow.lt X e.symm).1
  omega

end Go.Proofs.YtnmlmbgaljnjeaaGreatDoor
