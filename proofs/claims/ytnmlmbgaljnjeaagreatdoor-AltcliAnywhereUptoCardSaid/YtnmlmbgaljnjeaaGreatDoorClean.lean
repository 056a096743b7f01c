/- path.Clean and path.Is. Conditions: lengths below 2^32. -/
import Derived.Test.YtnmlmbgaljnjeaaGreatDoorPath
import Derived.Test.YtnmlmbgaljnjeaaGreatDoorJoin
import Derived.Test.YtnmlmbgaljnjeaaGreatDoorSlices
set_option linter.unusedVariables false
set_option linter.unusedSimpArgs false
namespace Go.Proofs.YtnmlmbgaljnjeaaGreatDoor
open Go.RowKit
attribute [local go_sem] Oper.semAt_some

def dotdot : ByteArray := ⟨#[46, 46]⟩
def cleanStep (out : List ByteArray) (p : ByteArray) : List ByteArray := if p.toList = [46, 46] then out.dropLast else out ++ [p]
def cleanL (ps : List ByteArray) : List ByteArray := ps.foldl cleanStep []
def joinB (l : List ByteArray) (sep : ByteArray) : ByteArray := ⟨(Lib.join (l.map (·.data.toList)) sep.data.toList).toArray⟩
def slash : ByteArray := ⟨#[47]⟩
def clean (s : ByteArray) : ByteArray := slash ++ joinB (cleanL (parts s)) slash

theorem cleanL_snoc (ps : List ByteArray) (p : ByteArray) : cleanL (ps ++ [p]) = cleanStep (cleanL ps) p := by simp [cleanL]
theorem cleanL_len' (ps : List ByteArray) : ∀ acc, (ps.foldl cleanStep acc).length ≤ acc.length + ps.length := by
  induction ps with
  | nil => intro acc; simp
  | cons p ps ih =>
    intro acc
    have := ih (cleanStep acc p)
    have h2 : (cleanStep acc p).length ≤ acc.length + 1 := by unfold cleanStep; split <;> simp; omega
    simp only [List.foldl_cons, List.length_cons]
    omega
theorem cleanL_len (ps : List ByteArray) : (cleanL ps).length ≤ ps.length := by have := cleanL_len' ps []; simp at this; exact this

/-- what a row of texts of the call's own reads as -/
theorem own_reads {w : World} {base c : Nat} {A : Option Addr} {e : TypeId} {xs : List ByteArray} (h : w.ownsRow base e 1 (.slice A xs.length c) xs.length (xs.map Value.string)) :
    xs ≠ [] → ∃ bk o, A = some ⟨bk, o, none⟩ ∧ bk < w.heap.size ∧ ∀ (j : Nat) x, xs[j]? = some x → w.cell? ⟨bk, o + j, none⟩ = some (.string x) := by
  intro hne
  have hp := List.length_pos_iff.2 hne
  rcases h.2 with ⟨h1, h2⟩ | ⟨g, cap, cur, h1, hb, hh, _⟩
  · omega
  · cases h1
    refine ⟨g, 0, rfl, (Array.getElem?_eq_some_iff.1 hh).1, fun j x hx => ?_⟩
    have := h.cells (g := g) rfl j (.string x) (by simp [hx])
    rw [Nat.zero_add]
    have e1 : (⟨g, 0, none⟩ : Addr).add j = ⟨g, j, none⟩ := by unfold Addr.add; split <;> simp_all
    rwa [e1] at this

def tot (l : List ByteArray) : Nat := (l.map (·.size)).sum
theorem tot_lens (l : List ByteArray) : Lib.lens (l.map (·.data.toList)) = tot l := by
  unfold Lib.lens tot
  rw [List.map_map]
  rfl
theorem tot_append (a b : List ByteArray) : tot (a ++ b) = tot a + tot b := by simp [tot]
theorem segs_tot (l : List UInt8) : ((segs l).map (·.length)).sum ≤ l.length := by
  induction l with
  | nil => simp [segs]
  | cons c l ih =>
    rw [segs.eq_2]
    split
    · simp; omega
    · cases h : segs l with
      | nil => simp
      | cons a t => rw [h] at ih; simp at ih ⊢; omega
theorem sum_filter (p : List UInt8 → Bool) (l : List (List UInt8)) : ((l.filter p).map (·.length)).sum ≤ (l.map (·.length)).sum := by
  induction l with
  | nil => simp
  | cons a l ih =>
    rw [List.filter_cons]
    split <;> simp <;> omega
theorem parts_tot (s : ByteArray) : tot (parts s) ≤ s.size := by
  unfold parts tot
  rw [List.map_map]
  have := sum_filter keeps (segs s.data.toList)
  have h2 := segs_tot s.data.toList
  rw [← Lib.size_eq] at h2
  have h3 : ((segs s.data.toList).filter keeps).map ((fun x => x.size) ∘ fun l => (⟨l.toArray⟩ : ByteArray)) = ((segs s.data.toList).filter keeps).map (·.length) := by
    apply List.map_congr_left
    intro a _
    show a.toArray.size = a.length
    simp
  rw [h3]
  omega
theorem clean_tot' (ps : List ByteArray) : ∀ acc, tot (ps.foldl cleanStep acc) ≤ tot acc + tot ps := by
  induction ps with
  | nil => intro acc; simp [tot]
  | cons p ps ih =>
    intro acc
    have h1 := ih (cleanStep acc p)
    have h2 : tot (cleanStep acc p) ≤ tot acc + p.size := by
      unfold cleanStep
      split
      · have : acc = [] ∨ ∃ a x, acc = a ++ [x] := by
          rcases List.eq_nil_or_concat acc with h | ⟨a, x, h⟩
          · exact .inl h
          · exact .inr ⟨a, x, by simpa using h⟩
        rcases this with rfl | ⟨a, x, rfl⟩
        · simp [tot]
        · simp [tot]; omega
      · rw [tot_append]; simp [tot]
    have h3 : tot (p :: ps) = p.size + tot ps := by simp [tot]
    simp only [List.foldl_cons]
    omega
theorem clean_tot (ps : List ByteArray) : tot (cleanL ps) ≤ tot ps := by have := clean_tot' ps []; simp [tot] at this; exact this
theorem join_len (l : List ByteArray) (sep : ByteArray) : (Lib.join (l.map (·.data.toList)) sep.data.toList).length ≤ sep.size * l.length + tot l := by
  cases l with
  | nil => simp [Lib.join_nil]
  | cons a l =>
    have h := tot_lens (a :: l)
    rw [List.map_cons] at h
    rw [List.map_cons, Lib.join_length, h, List.length_map, ← Lib.size_eq, List.length_cons, Nat.mul_add]
    omega
theorem clean_len (s : ByteArray) (hs : s.size < 4294967296) : (Lib.join ((cleanL (parts s)).map (·.data.toList)) [47]).length ≤ 140737488355328 := by
  have h1 := join_len (cleanL (parts s)) ⟨#[47]⟩
  have h2 := clean_tot (parts s)
  have h3 := parts_tot s
  have h4 := cleanL_len (parts s)
  have h5 := parts_len s
  have h6 : (⟨#[47]⟩ : ByteArray).size = 1 := rfl
  have h7 : (⟨#[47]⟩ : ByteArray).data.toList = [47] := rfl
  rw [h6, h7] at h1
  omega

set_option maxRecDepth 100000 in
set_option maxHeartbeats 4000000 in
theorem path_Clean (s : ByteArray) (w : World) (hs : s.size < 4294967296) :
    Calls Tryz.prog 27 #[.string s] w fun e w' => e = .returned (.string (clean s)) ∧ Below w.heap.size w w' := by
  refine (callsIn_wide (n := 3)).1 ?_
  obtain ⟨i0, hi, hz0, hz1, hz2⟩ := info_parts infoStr
  have hpl := parts_len s
  refine callsIn_of_wp_marks Tryz.func27 rfl trivial ?_ rfl
  simp only [Tryz.ntmps27, List.size_toArray, List.length_cons, List.length_nil, Nat.reduceAdd, Nat.reduceSub, Array.replicate_succ, Array.replicate_zero, List.push_toArray, List.append_toArray, List.nil_append, List.cons_append]
  gi_wp2_with (refine ⟨trivial, ?_⟩; gi_at_call 37; refine (path_parts _ _ _).mono ?_; rintro e w' ⟨rfl, rfl⟩)
  have bO := Boxed.new w 22 (.slice none 0 0)
  have bN := Boxed.new (w.alloc (.cells #[.slice none 0 0] 22)) 9 (.string s)
  rw [World.size_alloc] at bN
  have hB0 : Below w.heap.size w ((w.alloc (.cells #[.slice none 0 0] 22)).alloc (.cells #[.string s] 9)) := ((Below.refl _ w).alloc (Nat.le_refl _) _).alloc (by simp) _
  refine rangeBox rfl (by omega) (gf := 49) (lb := #[.pointer (some ⟨w.heap.size + 1, 0, none⟩)]) rfl trivial (enters_of Tryz.func49 (by kernel_rfl) rfl)
    (by simp) (parts1_seq _ (by omega) s hs (w.heap.size + 1) _ bN) (fun _ => rfl)
    (fun pre W => (∃ v, Boxed W w.heap.size 22 v ∧ W.ownsRow (w.heap.size + 2) 9 1 v (cleanL pre).length ((cleanL pre).map Value.string)) ∧ Below w.heap.size w W ∧ w.heap.size + 2 ≤ W.heap.size)
    (fun _ _ _ => False)
    ((bears_rowbox _ _ _ _ _ _ _ (fun pre : List ByteArray => (cleanL pre).length) (fun pre => (cleanL pre).map Value.string) (by omega) (by omega)).and ((bears_below _ _ _ w (Nat.le_refl _) (by omega) (by simp; omega)).and (bears_size _ _ _)))
    (fun _ _ _ _ _ hs _ _ => hs)
    ⟨⟨_, bO.alloc _, World.ownsRow_nil _ _ _ _⟩, hB0, by simp⟩
    (fun x => { tmps := #[.string s, undef, .string ⟨#[]⟩, .pointer (some ⟨w.heap.size, 0, none⟩), .string x, .string s, .func (.func 49) #[] #[.pointer (some ⟨w.heap.size + 1, 0, none⟩)], .string x, undef, undef, undef, undef, undef, undef, undef, undef, undef, undef, undef, undef, undef, undef, undef, undef, undef, undef, undef], defers := [] }) ?assign ?body ?done ?stop
  case assign =>
    intro l x W K hK
    gi_wp2
    exact hK
  case body =>
    rintro l pre x W ⟨⟨v, hv, hrow⟩, hB, hsz⟩ hpre
    have hc := hv.cell
    have hf := hv.frozen
    have hplen : (cleanL pre).length ≤ s.size := by
      have h1 := hpre.length_le
      have h2 := cleanL_len pre
      rw [List.length_append, List.length_singleton] at h1
      omega
    have HP := Lib.hid hpre
    have hsn := cleanL_snoc pre x
    unfold cleanStep at hsn
    clear hpre
    generalize cleanL pre = out at *
    by_cases hx : x.toList = [46, 46]
    · rw [if_pos hx] at hsn
      have HS := Lib.hid hsn
      clear hsn
      obtain ⟨A, c, rfl⟩ := own_slice hrow
      by_cases ho : out = []
      · subst ho
        gi_wp2
        exact ⟨KeepsFrom.refl _ _, SameBox.refl _ _, ⟨_, hv, by rw [HS.out]; exact hrow⟩, hB, hsz⟩
      · obtain ⟨k, hk⟩ : ∃ k, out.length = k + 1 := ⟨out.length - 1, by have := List.length_pos_iff.2 ho; omega⟩
        have Hk := Lib.hid hk
        rw [hk] at hrow hplen
        simp only [hk] at hv hc
        obtain ⟨g, cap, hgv⟩ := ownsRow_succ hrow
        cases hgv
        have hsh := own_take hrow (m := k) (by omega)
        have hcap : k + 1 ≤ c := own_cap hrow
        have HS2 := Lib.hid (show out.dropLast.length = k ∧ out.dropLast.map Value.string = (out.map Value.string).take (k * 1) by
          refine ⟨by simp [hk], ?_⟩
          rw [List.dropLast_eq_take, hk, Nat.mul_one, Nat.add_sub_cancel, List.map_take])
        clear hk ho
        have hj : (((k + 1 : Nat) : Int) - 1) = (k : Int) := by omega
        gi_wp2
        have ho := hsh.kept (grownBy_setCell' W w.heap.size (.slice (some ⟨g, 0, none⟩) k c)) (.inr (hv.not_row (by decide) hsh).symm)
        exact ⟨(KeepsOthers.setCell _ _ _).from _, ⟨(KeepsOthers.setCell _ _ _).size, Below.heap_setCell _ _ _ _ (by simp)⟩, ⟨_, hv.set _, by rw [HS.out, HS2.out.1, HS2.out.2]; exact ho⟩, hB.setCell (p := ⟨w.heap.size, 0, none⟩) (Nat.le_refl _) _, Nat.le_trans hsz (KeepsOthers.setCell _ _ _).size⟩
    · rw [if_neg hx] at hsn
      have hxb : (x.toList == [46, 46]) = false := by simpa using hx
      have HS := Lib.hid hsn
      clear hsn
      gi_wp2_with (gi_at_builtin; refine wpListIn_append_own _ rfl _ _ 22 rfl (w.heap.size + 2) 9 i0 (.string ⟨#[]⟩) 1 16 Tryz.underlying22 hi hz0 hz1 hz2 rfl (by decide) _ _ _ rfl (hrow.alloc _) ⟨W.heap.size, 0, none⟩ 1 1 [.string x] rfl rfl (cell_one_new _ _ _) (by simp [Value.oneCell']) (by unfold maxLen; omega) (by omega) (by simp; omega) ?_; intro v' w1 hown' hgrow _; obtain ⟨g', cap', rfl⟩ := ownsRow_succ hown'; obtain ⟨hv1, hv2, _, hk2, hb2⟩ := hv.appended (by decide) (hrow.mono (base' := w.heap.size) (by omega)) hB.size (Nat.le_refl _) (hown'.mono (by omega)) hgrow; have hr2 := hown'.kept (grownBy_setCell' _ w.heap.size (.slice (some ⟨g', 0, none⟩) (out.length + 1) cap')) (.inr (hv1.not_row (by decide) hown').symm); have hg1 := hgrow.size; have hc1 := hv1.cell; have hf1 := hv1.frozen)
      refine ⟨hk2.from _, ⟨hb2.size, ?_⟩, ⟨_, hv2, by rw [HS.out]; simpa using hr2⟩, hB.trans hb2, by simp at hg1 ⊢; omega⟩
      exact same_append hrow (by omega) (by omega) hgrow (by omega) _
  case done =>
    rintro D W hD ⟨⟨v, hv, hrow⟩, hB, hsz⟩ hK
    have hc := hv.cell
    obtain ⟨A, c, rfl⟩ := own_slice hrow
    have HJ := Lib.hid (fun W1 h => strings_Join A c (cleanL (parts s)) ⟨#[47]⟩ W1 h (by have := cleanL_len (parts s); omega) (own_cap hrow) (clean_len s hs))
    have HA := Lib.hid (own_reads hrow)
    have hcl := clean_len s hs
    clear hpl
    gi_wp2_with (refine ⟨trivial, ?_⟩; gi_at_call 38; refine (callsIn_wide.2 (HJ.out _ HA.out)).mono ?_; rintro e w1 ⟨rfl, hb1⟩)
    refine ⟨by simp, .inl ⟨_, _, rfl, run_takeDeferred ((hb1.block D (Array.getElem?_eq_some_iff.1 hK).1).trans hK), ?_⟩⟩
    refine ⟨_, results_tmp rfl _ _ _, rfl, ?_⟩
    exact (hB.trans (hb1.mono hB.size)).trans (belowK_b (w := w) (Nat.le_refl _) w1 D _ _ (by simp at hD; omega) ((hb1.block D (Array.getElem?_eq_some_iff.1 hK).1).trans hK) rfl rfl)
  case stop =>
    rintro D c pre W _ _ h _
    exact h.elim

end Go.Proofs.YtnmlmbgaljnjeaaGreatDoor
