/- altcli: which items words are: their values' numbers and lengths. No conditions. -/
import Derived.Test.YtnmlmbgaljnjeaaGreatDoorCfill
set_option linter.unusedVariables false
set_option linter.unusedSimpArgs false
namespace Go.Proofs.YtnmlmbgaljnjeaaGreatDoor
open Go.RowKit

/-- an operand, or an option with its values -/
def Well (S : List Spc) (x : Itm) : Prop := (x.1 = ⟨#[]⟩ ∧ x.2.length = 1) ∨ ∃ s ∈ S, x.1 = s.long ∧ x.2.length = s.needs.toNat
/-- what holds of items that words ws are: M bounds the words -/
def Okay (S : List Spc) (M : Nat) (x : Itm) : Prop := Well S x ∧ ∀ s ∈ x.2, s.size ≤ M

theorem aput_okay {S : List Spc} {s : Spc} {rest : List ByteArray} {M : Nat} {x : Itm × Nat} (hs : s ∈ S) (hM : ∀ v ∈ rest, v.size ≤ M) (h : aput s rest = some x) : Okay S M x.1 ∧ x.1.2.length = x.2 := by
  unfold aput at h
  split at h
  · rename_i hle
    cases h
    refine ⟨⟨.inr ⟨s, hs, rfl, by rw [List.length_take]; omega⟩, fun v hv => hM v (List.mem_of_mem_take hv)⟩, by dsimp only; rw [List.length_take]; omega⟩
  · cases h
theorem ashort_okay {S : List Spc} {M : Nat} (l : List UInt8) (hl : l.length ≤ M) (rest : List ByteArray) (hM : ∀ v ∈ rest, v.size ≤ M) (x : List Itm × Nat) (h : ashort S rest l = some x) :
    (∀ y ∈ x.1, Okay S M y) ∧ (x.1.flatMap (·.2)).length ≤ x.2 + 1 := by
  induction l generalizing rest x with
  | nil => rw [ashort] at h; cases h; exact ⟨fun y hy => (by cases hy), by simp⟩
  | cons c t ih =>
    rw [ashort] at h
    split at h
    · cases h
    · rename_i s hs
      have hmem := sfind_mem hs
      split at h
      · cases h
      · split at h
        · rename_i h1
          cases h
          refine ⟨fun y hy => ?_, by simp⟩
          rw [List.mem_singleton] at hy
          subst hy
          refine ⟨.inr ⟨s, hmem, rfl, by rw [h1.1]; rfl⟩, fun v hv => ?_⟩
          rw [List.mem_singleton] at hv
          subst hv
          rw [Lib.size_eq]
          simp at hl ⊢; omega
        · split at h
          · cases h
          · rename_i y hy
            have h1 := aput_okay hmem hM hy
            split at h
            · cases h
            · rename_i z hz
              have h2 := ih (by simp at hl; omega) _ (fun v hv => hM v (List.mem_of_mem_drop hv)) _ hz
              cases h
              refine ⟨fun q hq => ?_, ?_⟩
              · rcases List.mem_cons.1 hq with rfl | hq
                · exact h1.1
                · exact h2.1 q hq
              · rw [List.flatMap_cons, List.length_append, h1.2]
                have := h2.2
                dsimp only; omega
theorem cut1_snd (s : ByteArray) (c : UInt8) : (cut1 s c).2.1.size ≤ s.size := by
  unfold cut1
  split
  · rw [ByteArray.size_extract]; omega
  · exact Nat.zero_le _
theorem along_okay {S : List Spc} {M : Nat} {w : ByteArray} (hw : w.size ≤ M) {rest : List ByteArray} (hM : ∀ v ∈ rest, v.size ≤ M) {x : List Itm × Nat} (h : along S w rest = some x) :
    (∀ y ∈ x.1, Okay S M y) ∧ (x.1.flatMap (·.2)).length ≤ x.2 + 1 := by
  unfold along at h
  split at h
  · cases h
  · rename_i s hs
    have hmem := sfind_mem hs
    split at h
    · split at h
      · rename_i h1
        cases h
        refine ⟨fun y hy => ?_, by simp⟩
        rw [List.mem_singleton] at hy
        subst hy
        refine ⟨.inr ⟨s, hmem, rfl, by rw [h1]; rfl⟩, fun v hv => ?_⟩
        rw [List.mem_singleton] at hv
        subst hv
        exact Nat.le_trans (cut1_snd w 61) hw
      · cases h
    · cases hy : aput s rest with
      | none => rw [hy] at h; cases h
      | some y =>
        rw [hy] at h; cases h
        have h1 := aput_okay hmem hM hy
        refine ⟨fun q hq => ?_, by simp [h1.2]⟩
        rw [List.mem_singleton] at hq
        subst hq
        exact h1.1
theorem aword_okay {S : List Spc} {M : Nat} {w : ByteArray} (hw : w.size ≤ M) {rest : List ByteArray} (hM : ∀ v ∈ rest, v.size ≤ M) {x : List Itm × Nat} (h : aword S w rest = some x) :
    (∀ y ∈ x.1, Okay S M y) ∧ (x.1.flatMap (·.2)).length ≤ x.2 + 1 := by
  unfold aword at h
  split at h
  · exact along_okay (by rw [ByteArray.size_extract]; omega) hM h
  · split at h
    · exact ashort_okay _ (by rw [List.length_drop, ← Lib.size_eq]; omega) rest hM x h
    · cases h
      refine ⟨fun q hq => ?_, by simp⟩
      rw [List.mem_singleton] at hq
      subst hq
      exact ⟨.inl ⟨rfl, rfl⟩, fun v hv => by rw [List.mem_singleton] at hv; subst hv; exact hw⟩

theorem aparse_okay (S : List Spc) (M : Nat) (ws : List ByteArray) (k : Nat) (l : List Itm) (hM : ∀ v ∈ ws, v.size ≤ M) (h : aparse S k ws = .ok l) :
    (∀ y ∈ l, Okay S M y) ∧ (l.flatMap (·.2)).length ≤ ws.length ∧ l.length ≤ ltot ws := by
  match ws with
  | [] => rw [aparse] at h; cases h; exact ⟨fun y hy => (by cases hy), by simp, by simp⟩
  | w :: rest =>
    have hMr : ∀ v ∈ rest, v.size ≤ M := fun v hv => hM v (List.mem_cons_of_mem _ hv)
    rw [aparse] at h
    split at h
    · cases h
      refine ⟨fun q hq => ?_, ?_, ?_⟩
      · obtain ⟨v, hv, rfl⟩ := List.mem_map.1 hq
        exact ⟨.inl ⟨rfl, rfl⟩, fun u hu => by rw [List.mem_singleton] at hu; subst hu; exact hMr u hv⟩
      · rw [List.flatMap_map]
        simp [List.flatMap_singleton']
      · rw [List.length_map, ltot_cons]; have := len_tot rest; omega
    · split at h
      · cases h
      · rename_i x hx
        have h1 := aword_okay (hM w List.mem_cons_self) hMr hx
        have h1l := aword_le hx
        split at h
        · cases h
        · rename_i l' hl'
          have h2 := aparse_okay S M (rest.drop x.2) _ l' (fun v hv => hMr v (List.mem_of_mem_drop hv)) hl'
          cases h
          refine ⟨fun q hq => ?_, ?_, ?_⟩
          · rcases List.mem_append.1 hq with hq | hq
            · exact h1.1 q hq
            · exact h2.1 q hq
          · rw [List.flatMap_append, List.length_append, List.length_cons]
            have := h2.2.1
            rw [List.length_drop] at this
            omega
          · rw [List.length_append, ltot_cons]
            have := h2.2.2
            have := ltot_drop rest x.2
            omega
termination_by ws.length
decreasing_by simp; omega

theorem toList_eq_iff (a b : ByteArray) : (a.toList == b.toList) = true ↔ a = b := by
  rw [beq_iff_eq, Lib.toList_data, Lib.toList_data]
  exact ⟨fun h => ByteArray.ext (Array.toList_inj.1 h), fun h => by rw [h]⟩

theorem specs_apart : ∀ s ∈ aspecs.drop 4, ∀ s' ∈ aspecs, s.long = s'.long → s'.needs = s.needs := by decide
theorem specs_named : ∀ s ∈ aspecs, s.long ≠ ⟨#[]⟩ := by decide
theorem specs_cmd : ∀ s ∈ aspecs.drop 4, s.long ≠ slaveB → ∀ vs : List ByteArray, vs.length = s.needs.toNat → CmdItm (s.long, vs) := by
  intro s hs hne vs hvs
  simp only [aspecs, List.drop_succ_cons, List.drop_zero, List.mem_cons, List.not_mem_nil, or_false] at hs
  rcases hs with rfl | rfl | rfl | rfl | rfl | rfl | rfl | rfl | rfl | rfl | rfl
  · exact .inl ⟨rfl, hvs⟩
  · exact absurd rfl hne
  · exact .inr (.inl ⟨rfl, hvs⟩)
  · exact .inr (.inr (.inl ⟨rfl, hvs⟩))
  · exact .inr (.inr (.inr (.inl ⟨rfl, hvs⟩)))
  · exact .inr (.inr (.inr (.inr (.inl ⟨rfl, hvs⟩))))
  · exact .inr (.inr (.inr (.inr (.inr (.inl ⟨rfl, hvs⟩)))))
  · exact .inr (.inr (.inr (.inr (.inr (.inr (.inl ⟨rfl, hvs⟩))))))
  · exact .inr (.inr (.inr (.inr (.inr (.inr (.inr (.inl ⟨rfl, hvs⟩)))))))
  · exact .inr (.inr (.inr (.inr (.inr (.inr (.inr (.inr (.inl ⟨rfl, hvs⟩))))))))
  · exact .inr (.inr (.inr (.inr (.inr (.inr (.inr (.inr (.inr ⟨rfl, hvs⟩))))))))
theorem cmd_itm {l : List Itm} {M : Nat} (hl : ∀ y ∈ l, Okay aspecs M y) {x : Itm} (hx : x ∈ acommands l) : x ∈ l ∧ CmdItm x := by
  obtain ⟨s, hs, hx⟩ := List.mem_flatMap.1 hx
  obtain ⟨hxl, hc⟩ := List.mem_filter.1 hx
  unfold isCmd at hc
  rw [Bool.and_eq_true, toList_eq_iff] at hc
  obtain ⟨h1, h2⟩ := hc
  have hne : x.1 ≠ slaveB := by
    intro e
    rw [(toList_eq_iff _ _).2 e] at h2
    cases h2
  have hsm : s ∈ aspecs := List.mem_of_mem_drop hs
  obtain ⟨xn, xs⟩ := x
  dsimp only at h1 hne
  subst h1
  refine ⟨hxl, ?_⟩
  rcases (hl _ hxl).1 with ⟨h, _⟩ | ⟨s', hs', h3, h4⟩
  · exact absurd h (specs_named s hsm)
  · rw [specs_apart s hs s' hs' h3] at h4
    exact specs_cmd s hs hne xs h4
theorem slave_three {l : List Itm} {M : Nat} (hl : ∀ y ∈ l, Okay aspecs M y) : ∀ x ∈ l, isSlave x = true → x.2.length = 3 := by
  intro x hx h
  unfold isSlave at h
  rw [toList_eq_iff] at h
  rcases (hl _ hx).1 with ⟨h1, _⟩ | ⟨s', hs', h3, h4⟩
  · rw [h1] at h; exact absurd h (by decide)
  · rw [h4]
    have : ∀ s ∈ aspecs, s.long = slaveB → s.needs.toNat = 3 := by decide
    exact this s' hs' (h3.symm.trans h)

end Go.Proofs.YtnmlmbgaljnjeaaGreatDoor
