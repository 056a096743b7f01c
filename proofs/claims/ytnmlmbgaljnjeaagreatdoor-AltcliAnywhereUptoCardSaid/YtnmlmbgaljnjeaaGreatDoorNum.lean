/- num.Parse. Conditions: shorter than 2^40; strconv.ErrRange holds an error. -/
import Derived.Test.YtnmlmbgaljnjeaaGreatDoorBase
import Derived.Test.YtnmlmbgaljnjeaaGreatDoorShelf
import Derived.Shelf.Strings.SlTrimAscii
set_option linter.unusedVariables false
set_option linter.unusedSimpArgs false
namespace Go.Proofs.YtnmlmbgaljnjeaaGreatDoor
open Go.RowKit Go.Lib

def digitsB : ByteArray := ⟨#[48, 49, 50, 51, 52, 53, 54, 55, 56, 57]⟩
def isDig (x : UInt8) : Bool := digitsB.data.toList.contains x
theorem isDig_iff (x : UInt8) : isDig x = true ↔ 48 ≤ x.toNat ∧ x.toNat ≤ 57 := by
  unfold isDig digitsB
  simp only [List.contains_iff_mem, List.mem_cons, List.not_mem_nil, or_false, ← UInt8.toNat_inj]
  simp only [UInt8.reduceToNat]
  omega
def unsign (l : List UInt8) : List UInt8 := Lib.trimPrefix l [45]
/-- a number: its value and an error's number -/
def nparse (s : ByteArray) (lo hi : Int) : Int × Int :=
  if unsign s.data.toList = [] ∨ ¬ (∀ x ∈ unsign s.data.toList, isDig x = true) ∨ ((unsign s.data.toList).head? = some 48 ∧ s.data.toList ≠ [48]) then (0, 3)
  else match Lib.atoiAll s.data.toList with
    | .ok v => if v < lo ∨ hi < v then (0, 4) else (v, 0)
    | _ => (0, 4)

theorem dw_nil (p : UInt8 → Bool) (l : List UInt8) : l.dropWhile p = [] ↔ ∀ x ∈ l, p x = true := by
  induction l with
  | nil => simp
  | cons a l ih =>
    rw [List.dropWhile_cons]
    cases h : p a
    · simp [h]
    · simp [h, ih]
theorem trims_empty (l cs : List UInt8) : Lib.trimS l cs = [] ↔ ∀ x ∈ l, cs.contains x = true := by
  unfold Lib.trimS Lib.trimLeftS Lib.trimRightS
  rw [dw_nil]
  constructor
  · intro h x hx
    have hm : x ∈ l.reverse.takeWhile (cs.contains ·) ++ l.reverse.dropWhile (cs.contains ·) := by rw [List.takeWhile_append_dropWhile]; simpa using hx
    rcases List.mem_append.1 hm with h1 | h1
    · clear hm hx h
      generalize l.reverse = r at h1
      induction r with
      | nil => simp at h1
      | cons a r ih =>
        rw [List.takeWhile_cons] at h1
        cases ha : cs.contains a
        · rw [ha] at h1; simp at h1
        · rw [ha] at h1
          simp only [if_true, List.mem_cons] at h1
          rcases h1 with rfl | h1
          · exact ha
          · exact ih h1
    · exact h x (by simpa using h1)
  · intro h x hx
    refine h x ?_
    have : x ∈ l.reverse.dropWhile (cs.contains ·) := by simpa using hx
    simpa using (List.dropWhile_suffix _).mem this

/-- it ends in a number, or out of range -/
def goodEnd {α : Type} : Lib.NumEnd α → Bool
  | .ok _ => true
  | .range => true
  | _ => false
theorem parse_digits (l : List UInt8) (acc : Nat) (h : ∀ x ∈ l, isDig x = true) : goodEnd (Lib.parseUint10 acc l) = true := by
  induction l generalizing acc with
  | nil => rfl
  | cons c r ih =>
    have hc := (isDig_iff c).1 (h c (by simp))
    rw [Lib.parseUint10, if_pos hc]
    split
    · rfl
    · split
      · rfl
      · exact ih _ (fun x hx => h x (by simp [hx]))
theorem unsign_cases (l : List UInt8) : (∃ r, l = 45 :: r ∧ unsign l = r) ∨ (l.head? ≠ some 45 ∧ unsign l = l) := by
  unfold unsign Lib.trimPrefix Lib.hasPrefix
  cases l with
  | nil => right; simp
  | cons a r =>
    by_cases ha : a = 45
    · left; subst ha; exact ⟨r, rfl, by simp [List.isPrefixOf]⟩
    · right; exact ⟨by simpa using ha, by simp [List.isPrefixOf, Ne.symm ha]⟩
theorem numEnd_good (s : ByteArray) (hne : unsign s.data.toList ≠ []) (hall : ∀ x ∈ unsign s.data.toList, isDig x = true) : goodEnd (Lib.atoiAll s.data.toList) = true := by
  generalize s.data.toList = l at *
  have key : ∀ m : List UInt8, m ≠ [] → (∀ x ∈ m, isDig x = true) → goodEnd (Lib.parseMag m) = true := fun m h1 h2 => by
    rw [Lib.parseMag, if_neg h1]; exact parse_digits m 0 h2
  have fin : ∀ (a b : Prop) [Decidable a] [Decidable b] (v : Int), goodEnd (if a then Lib.NumEnd.range else if b then Lib.NumEnd.range else Lib.NumEnd.ok v) = true := fun a b _ _ v => by
    split
    · rfl
    · split <;> rfl
  rcases unsign_cases l with ⟨r, rfl, hu⟩ | ⟨hh, hu⟩
  · rw [hu] at hne hall
    have h1 := key r hne hall
    unfold Lib.atoiAll
    dsimp only
    rw [if_pos (.inr rfl)]
    cases hm : Lib.parseMag r with
    | ok u => exact fin _ _ _
    | range => rfl
    | _ => rw [hm] at h1; exact Bool.noConfusion h1
  · rw [hu] at hne hall
    have h1 := key l hne hall
    cases l with
    | nil => exact absurd rfl hne
    | cons c r =>
      have hc := (isDig_iff c).1 (hall c (by simp))
      unfold Lib.atoiAll
      dsimp only
      rw [if_neg (by omega)]
      cases hm : Lib.parseMag (c :: r) with
      | ok u => exact fin _ _ _
      | range => rfl
      | _ => rw [hm] at h1; exact Bool.noConfusion h1
theorem bytes_below {w w' : World} {e : TypeId} (h : w' = w ∨ ∃ t, w' = Lib.bytesWorld w e t) : Below w.heap.size w w' := by
  rcases h with rfl | ⟨t, rfl⟩
  · exact Below.refl _ _
  · exact bytesWorld_below w e t

theorem setInfo : (Tryz.prog.info? (Tryz.lays160_ren.t 116)).map (fun i => (i.zero, i.size)) = some (some (.agg (Array.replicate 256 (.bool false))), 256) := by kernel_rfl

set_option maxRecDepth 100000 in
set_option maxHeartbeats 8000000 in
theorem num_Parse (s : ByteArray) (lo hi : Int) (te : TypeId) (pe : Value) (w : World) (hs : s.size ≤ 1099511627776) (hg : w.cell? ⟨2, 0, none⟩ = some (.iface te pe)) :
    Calls Tryz.prog 39 #[.string s, .int .i64 lo, .int .i64 hi] w fun e w' => e = .returned (.tuple #[.int .i64 (nparse s lo hi).1, .int .i64 (nparse s lo hi).2]) ∧ Below w.heap.size w w' := by
  have hgl := World.block_lt_of_cell? w _ hg
  obtain ⟨f, hf⟩ : ∃ f : ByteArray, (⟨(Lib.trimPrefix s.data.toList [45]).toArray⟩ : ByteArray) = f := ⟨_, rfl⟩
  have hfd : f.data.toList = unsign s.data.toList := by rw [← hf]; rfl
  have hfs : f.size ≤ s.size := by
    rw [Lib.size_eq, Lib.size_eq, hfd]
    rcases unsign_cases s.data.toList with ⟨r, h1, h2⟩ | ⟨_, h2⟩
    · rw [h2, h1]; simp
    · rw [h2]; exact Nat.le_refl _
  have HT := Lib.hid (fun W => Any.strings_Trim_laid Tryz.lays160 setInfo f digitsB W (by omega) (by decide) (ascii_of_all (by decide)))
  have HF := Lib.hid hf
  clear hf
  by_cases hfe : unsign s.data.toList = []
  · have e0 : f.toList = [] := by rw [Lib.toList_data, hfd]; exact hfe
    have e1 : f.toList.isEmpty = true := by rw [e0]; rfl
    have HP : Hid (nparse s lo hi = (0, 3)) := Lib.hid (by rw [nparse, if_pos (.inl hfe)])
    clear e0 hfe hfd
    go_enter Tryz.func39, Tryz.ntmps39
    go_wp2_with (first | (go_at_call 53; refine (Tryz.strings_TrimPrefix _ _ _).mono ?_; rintro e w' ⟨rfl, rfl⟩; rw [show (⟨(Lib.trimPrefix s.data.toList (⟨#[45]⟩ : ByteArray).data.toList).toArray⟩ : ByteArray) = f from HF.out]) | (go_at_call 54; refine (HT.out _).mono ?_; rintro e w1 ⟨rfl, hb1⟩))
    go_ret2
    rw [HP.out]
    exact ⟨rfl, Below.refl _ _⟩
  · have e1 : f.toList.isEmpty = false := by
      rw [Lib.toList_data, hfd]; cases h : unsign s.data.toList with
      | nil => exact absurd h hfe
      | cons _ _ => rfl
    obtain ⟨tr, htr⟩ : ∃ tr : ByteArray, (⟨(Lib.trimS f.data.toList digitsB.data.toList).toArray⟩ : ByteArray) = tr := ⟨_, rfl⟩
    have htd : tr.data.toList = Lib.trimS (unsign s.data.toList) digitsB.data.toList := by rw [← htr, hfd]
    rw [htr] at HT
    by_cases hall : ∀ x ∈ unsign s.data.toList, isDig x = true
    · have t0 : tr.data.toList = [] := by rw [htd]; exact (trims_empty _ _).2 hall
      have t1 : tr.toList.isEmpty = true := by rw [Lib.toList_data, t0]; rfl
      have hfl : 0 < f.size := by
        rw [Lib.size_eq, hfd]; cases h : unsign s.data.toList with
        | nil => exact absurd h hfe
        | cons _ _ => simp
      have hhd : (unsign s.data.toList).head? = some f[0] := by
        rw [← hfd, List.head?_eq_getElem?, List.getElem?_eq_getElem (by rw [← Lib.size_eq]; exact hfl)]; rfl
      clear t0 htd htr hfd
      by_cases h48 : f[0] = 48
      · have e2 : (((f[0].toNat : Nat) : Int) == 48) = true := by rw [h48]; rfl
        by_cases hz : s.data.toList = [48]
        · have e3 : (s.toList == [48]) = true := by rw [Lib.toList_data, hz]; rfl
          have e4 : (s.toList != [48]) = false := by rw [bne, e3]; rfl
          have hbad : ¬ (unsign s.data.toList = [] ∨ ¬ (∀ x ∈ unsign s.data.toList, isDig x = true) ∨ ((unsign s.data.toList).head? = some 48 ∧ s.data.toList ≠ [48])) := by
            rintro (h | h | ⟨_, h⟩)
            · exact hfe h
            · exact h hall
            · exact h hz
          clear hhd h48 hz
          rcases hat : Lib.atoiAll s.data.toList with v | _ | _
          · have HA := Lib.hid (fun W => Tryz.strconv_Atoi_ok s (by omega) v hat W)
            by_cases h1 : v < lo
            · have hv1 : ((v : Int) < lo) = True := eq_true h1
              have HP : Hid (nparse s lo hi = (0, 4)) := Lib.hid (by rw [nparse, if_neg hbad, hat]; dsimp only; rw [if_pos (.inl h1)])
              clear hat hbad hv1
              go_enter Tryz.func39, Tryz.ntmps39
              go_wp2_with (first | (go_at_call 53; refine (Tryz.strings_TrimPrefix _ _ _).mono ?_; rintro e w' ⟨rfl, rfl⟩; rw [show (⟨(Lib.trimPrefix s.data.toList (⟨#[45]⟩ : ByteArray).data.toList).toArray⟩ : ByteArray) = f from HF.out]) | (go_at_call 54; refine (HT.out _).mono ?_; rintro e w1 ⟨rfl, hb1⟩) | (go_at_call 55; refine (HA.out _).mono ?_; rintro e w2 ⟨rfl, hw2⟩; have hb2 : Below w1.heap.size w1 w2 := bytes_below hw2; clear hw2))
              go_ret2
              rw [HP.out]
              exact ⟨rfl, hb1.trans (hb2.mono hb1.size)⟩
            · by_cases h2 : hi < v
              · have h2' : v > hi := h2
                have HP : Hid (nparse s lo hi = (0, 4)) := Lib.hid (by rw [nparse, if_neg hbad, hat]; dsimp only; rw [if_pos (.inr h2)])
                clear hat hbad
                go_enter Tryz.func39, Tryz.ntmps39
                go_wp2_with (first | (go_at_call 53; refine (Tryz.strings_TrimPrefix _ _ _).mono ?_; rintro e w' ⟨rfl, rfl⟩; rw [show (⟨(Lib.trimPrefix s.data.toList (⟨#[45]⟩ : ByteArray).data.toList).toArray⟩ : ByteArray) = f from HF.out]) | (go_at_call 54; refine (HT.out _).mono ?_; rintro e w1 ⟨rfl, hb1⟩) | (go_at_call 55; refine (HA.out _).mono ?_; rintro e w2 ⟨rfl, hw2⟩; have hb2 : Below w1.heap.size w1 w2 := bytes_below hw2; clear hw2))
                go_ret2
                rw [HP.out]
                exact ⟨rfl, hb1.trans (hb2.mono hb1.size)⟩
              · have h2' : ¬ v > hi := h2
                have HP : Hid (nparse s lo hi = (v, 0)) := Lib.hid (by rw [nparse, if_neg hbad, hat]; dsimp only; rw [if_neg (by rintro (h | h) <;> contradiction)])
                clear hat hbad
                go_enter Tryz.func39, Tryz.ntmps39
                go_wp2_with (first | (go_at_call 53; refine (Tryz.strings_TrimPrefix _ _ _).mono ?_; rintro e w' ⟨rfl, rfl⟩; rw [show (⟨(Lib.trimPrefix s.data.toList (⟨#[45]⟩ : ByteArray).data.toList).toArray⟩ : ByteArray) = f from HF.out]) | (go_at_call 54; refine (HT.out _).mono ?_; rintro e w1 ⟨rfl, hb1⟩) | (go_at_call 55; refine (HA.out _).mono ?_; rintro e w2 ⟨rfl, hw2⟩; have hb2 : Below w1.heap.size w1 w2 := bytes_below hw2; clear hw2))
                go_ret2
                rw [HP.out]
                exact ⟨rfl, hb1.trans (hb2.mono hb1.size)⟩
          · have hgo := numEnd_good s hfe hall
            rw [hat] at hgo
            exact Bool.noConfusion hgo
          · have HA := Lib.hid (fun W (hW : W.cell? ⟨2, 0, none⟩ = some (.iface te pe)) => Tryz.strconv_Atoi_range s (by omega) hat (.iface te pe) W hW (.inr ⟨te, pe, rfl⟩))
            have HP : Hid (nparse s lo hi = (0, 4)) := Lib.hid (by rw [nparse, if_neg hbad, hat])
            clear hat hbad
            go_enter Tryz.func39, Tryz.ntmps39
            go_wp2_with (first | (go_at_call 53; refine (Tryz.strings_TrimPrefix _ _ _).mono ?_; rintro e w' ⟨rfl, rfl⟩; rw [show (⟨(Lib.trimPrefix s.data.toList (⟨#[45]⟩ : ByteArray).data.toList).toArray⟩ : ByteArray) = f from HF.out]) | (go_at_call 54; refine (HT.out _).mono ?_; rintro e w1 ⟨rfl, hb1⟩) | (go_at_call 55; refine (HA.out _ (((bcell hb1).1 _ 0 hgl).trans hg)).mono ?_; rintro e w2 ⟨N2, rfl, _, _, hb2⟩))
            go_ret2
            rw [HP.out]
            exact ⟨rfl, hb1.trans (hb2.mono hb1.size)⟩
        · have e3 : (s.toList == [48]) = false := by rw [Lib.toList_data, beq_eq_false_iff_ne]; exact hz
          have e4 : (s.toList != [48]) = true := by rw [bne, e3]; rfl
          have HP : Hid (nparse s lo hi = (0, 3)) := Lib.hid (by rw [nparse, if_pos (.inr (.inr ⟨by rw [hhd, h48], hz⟩))])
          clear hhd h48 hz hall hfe
          go_enter Tryz.func39, Tryz.ntmps39
          go_wp2_with (first | (go_at_call 53; refine (Tryz.strings_TrimPrefix _ _ _).mono ?_; rintro e w' ⟨rfl, rfl⟩; rw [show (⟨(Lib.trimPrefix s.data.toList (⟨#[45]⟩ : ByteArray).data.toList).toArray⟩ : ByteArray) = f from HF.out]) | (go_at_call 54; refine (HT.out _).mono ?_; rintro e w1 ⟨rfl, hb1⟩))
          go_ret2
          rw [HP.out]
          exact ⟨rfl, hb1⟩
      · have e2 : (((f[0].toNat : Nat) : Int) == 48) = false := by
          rw [beq_eq_false_iff_ne]; intro e; exact h48 (UInt8.toNat_inj.1 (show f[0].toNat = (48 : UInt8).toNat by have : (48 : UInt8).toNat = 48 := rfl; omega))
        have hbad : ¬ (unsign s.data.toList = [] ∨ ¬ (∀ x ∈ unsign s.data.toList, isDig x = true) ∨ ((unsign s.data.toList).head? = some 48 ∧ s.data.toList ≠ [48])) := by
          rintro (h | h | ⟨h, _⟩)
          · exact hfe h
          · exact h hall
          · rw [hhd] at h; exact h48 (Option.some.inj h)
        clear hhd h48
        rcases hat : Lib.atoiAll s.data.toList with v | _ | _
        · have HA := Lib.hid (fun W => Tryz.strconv_Atoi_ok s (by omega) v hat W)
          by_cases h1 : v < lo
          · have hv1 : ((v : Int) < lo) = True := eq_true h1
            have HP : Hid (nparse s lo hi = (0, 4)) := Lib.hid (by rw [nparse, if_neg hbad, hat]; dsimp only; rw [if_pos (.inl h1)])
            clear hat hbad hv1
            go_enter Tryz.func39, Tryz.ntmps39
            go_wp2_with (first | (go_at_call 53; refine (Tryz.strings_TrimPrefix _ _ _).mono ?_; rintro e w' ⟨rfl, rfl⟩; rw [show (⟨(Lib.trimPrefix s.data.toList (⟨#[45]⟩ : ByteArray).data.toList).toArray⟩ : ByteArray) = f from HF.out]) | (go_at_call 54; refine (HT.out _).mono ?_; rintro e w1 ⟨rfl, hb1⟩) | (go_at_call 55; refine (HA.out _).mono ?_; rintro e w2 ⟨rfl, hw2⟩; have hb2 : Below w1.heap.size w1 w2 := bytes_below hw2; clear hw2))
            go_ret2
            rw [HP.out]
            exact ⟨rfl, hb1.trans (hb2.mono hb1.size)⟩
          · by_cases h2 : hi < v
            · have h2' : v > hi := h2
              have HP : Hid (nparse s lo hi = (0, 4)) := Lib.hid (by rw [nparse, if_neg hbad, hat]; dsimp only; rw [if_pos (.inr h2)])
              clear hat hbad
              go_enter Tryz.func39, Tryz.ntmps39
              go_wp2_with (first | (go_at_call 53; refine (Tryz.strings_TrimPrefix _ _ _).mono ?_; rintro e w' ⟨rfl, rfl⟩; rw [show (⟨(Lib.trimPrefix s.data.toList (⟨#[45]⟩ : ByteArray).data.toList).toArray⟩ : ByteArray) = f from HF.out]) | (go_at_call 54; refine (HT.out _).mono ?_; rintro e w1 ⟨rfl, hb1⟩) | (go_at_call 55; refine (HA.out _).mono ?_; rintro e w2 ⟨rfl, hw2⟩; have hb2 : Below w1.heap.size w1 w2 := bytes_below hw2; clear hw2))
              go_ret2
              rw [HP.out]
              exact ⟨rfl, hb1.trans (hb2.mono hb1.size)⟩
            · have h2' : ¬ v > hi := h2
              have HP : Hid (nparse s lo hi = (v, 0)) := Lib.hid (by rw [nparse, if_neg hbad, hat]; dsimp only; rw [if_neg (by rintro (h | h) <;> contradiction)])
              clear hat hbad
              go_enter Tryz.func39, Tryz.ntmps39
              go_wp2_with (first | (go_at_call 53; refine (Tryz.strings_TrimPrefix _ _ _).mono ?_; rintro e w' ⟨rfl, rfl⟩; rw [show (⟨(Lib.trimPrefix s.data.toList (⟨#[45]⟩ : ByteArray).data.toList).toArray⟩ : ByteArray) = f from HF.out]) | (go_at_call 54; refine (HT.out _).mono ?_; rintro e w1 ⟨rfl, hb1⟩) | (go_at_call 55; refine (HA.out _).mono ?_; rintro e w2 ⟨rfl, hw2⟩; have hb2 : Below w1.heap.size w1 w2 := bytes_below hw2; clear hw2))
              go_ret2
              rw [HP.out]
              exact ⟨rfl, hb1.trans (hb2.mono hb1.size)⟩
        · have hgo := numEnd_good s hfe hall
          rw [hat] at hgo
          exact Bool.noConfusion hgo
        · have HA := Lib.hid (fun W (hW : W.cell? ⟨2, 0, none⟩ = some (.iface te pe)) => Tryz.strconv_Atoi_range s (by omega) hat (.iface te pe) W hW (.inr ⟨te, pe, rfl⟩))
          have HP : Hid (nparse s lo hi = (0, 4)) := Lib.hid (by rw [nparse, if_neg hbad, hat])
          clear hat hbad
          go_enter Tryz.func39, Tryz.ntmps39
          go_wp2_with (first | (go_at_call 53; refine (Tryz.strings_TrimPrefix _ _ _).mono ?_; rintro e w' ⟨rfl, rfl⟩; rw [show (⟨(Lib.trimPrefix s.data.toList (⟨#[45]⟩ : ByteArray).data.toList).toArray⟩ : ByteArray) = f from HF.out]) | (go_at_call 54; refine (HT.out _).mono ?_; rintro e w1 ⟨rfl, hb1⟩) | (go_at_call 55; refine (HA.out _ (((bcell hb1).1 _ 0 hgl).trans hg)).mono ?_; rintro e w2 ⟨N2, rfl, _, _, hb2⟩))
          go_ret2
          rw [HP.out]
          exact ⟨rfl, hb1.trans (hb2.mono hb1.size)⟩
    · have t1 : tr.toList.isEmpty = false := by
        rw [Lib.toList_data, htd]
        cases h : Lib.trimS (unsign s.data.toList) digitsB.data.toList with
        | nil => exact absurd ((trims_empty _ _).1 h) hall
        | cons _ _ => rfl
      have HP : Hid (nparse s lo hi = (0, 3)) := Lib.hid (by rw [nparse, if_pos (.inr (.inl hall))])
      clear htd htr hfd hfe hall
      go_enter Tryz.func39, Tryz.ntmps39
      go_wp2_with (first | (go_at_call 53; refine (Tryz.strings_TrimPrefix _ _ _).mono ?_; rintro e w' ⟨rfl, rfl⟩; rw [show (⟨(Lib.trimPrefix s.data.toList (⟨#[45]⟩ : ByteArray).data.toList).toArray⟩ : ByteArray) = f from HF.out]) | (go_at_call 54; refine (HT.out _).mono ?_; rintro e w1 ⟨rfl, hb1⟩))
      go_ret2
      rw [HP.out]
      exact ⟨rfl, hb1⟩

end Go.Proofs.YtnmlmbgaljnjeaaGreatDoor
