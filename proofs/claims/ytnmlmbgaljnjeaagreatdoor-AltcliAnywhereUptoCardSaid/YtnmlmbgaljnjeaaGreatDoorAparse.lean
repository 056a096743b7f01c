/- args: Parse, Operands. Conditions: fewer than 2^20 words, each shorter than 2^20, together below 2^30. -/
import Derived.Test.YtnmlmbgaljnjeaaGreatDoorAword
set_option linter.unusedVariables false
set_option linter.unusedSimpArgs false
namespace Go.Proofs.YtnmlmbgaljnjeaaGreatDoor
open Go.RowKit

/-- how long words are together -/
def ltot (l : List ByteArray) : Nat := (l.map (fun s => s.size + 1)).sum
theorem ltot_cons (a : ByteArray) (l : List ByteArray) : ltot (a :: l) = a.size + 1 + ltot l := by simp [ltot]
theorem ltot_drop (l : List ByteArray) (k : Nat) : ltot (l.drop k) ≤ ltot l := by
  induction l generalizing k with
  | nil => simp
  | cons a l ih =>
    cases k with
    | zero => simp
    | succ k => rw [List.drop_succ_cons, ltot_cons]; have := ih k; omega
theorem len_tot (l : List ByteArray) : l.length ≤ ltot l := by
  induction l with
  | nil => simp [ltot]
  | cons a l ih => rw [ltot_cons, List.length_cons]; omega
theorem size_tot {l : List ByteArray} {s : ByteArray} (h : s ∈ l) : s.size ≤ ltot l := by
  induction l with
  | nil => cases h
  | cons a l ih =>
    rw [ltot_cons]
    cases h with
    | head => omega
    | tail _ h => have := ih h; omega

theorem ashort_le (S : List Spc) (l : List UInt8) (rest : List ByteArray) (x : List Itm × Nat) (h : ashort S rest l = some x) : x.2 ≤ rest.length ∧ x.1.length ≤ l.length := by
  induction l generalizing rest x with
  | nil => rw [ashort] at h; cases h; exact ⟨Nat.zero_le _, Nat.le_refl _⟩
  | cons c t ih =>
    rw [ashort] at h
    split at h
    · cases h
    · split at h
      · cases h
      · split at h
        · cases h; exact ⟨Nat.zero_le _, by simp⟩
        · split at h
          · cases h
          · rename_i y hy
            have h1 := aput_le hy
            split at h
            · cases h
            · rename_i z hz
              have h2 := ih _ _ hz
              rw [List.length_drop] at h2
              cases h
              exact ⟨by dsimp only; omega, by simp only [List.length_cons]; omega⟩
theorem along_le {S : List Spc} {w : ByteArray} {rest : List ByteArray} {x : List Itm × Nat} (h : along S w rest = some x) : x.2 ≤ rest.length ∧ x.1.length = 1 := by
  unfold along at h
  split at h
  · cases h
  · split at h
    · split at h
      · cases h; exact ⟨Nat.zero_le _, rfl⟩
      · cases h
    · cases hy : aput ‹Spc› rest with
      | none => rw [hy] at h; cases h
      | some y => rw [hy] at h; cases h; exact ⟨aput_le hy, rfl⟩
theorem aword_le {S : List Spc} {w : ByteArray} {rest : List ByteArray} {x : List Itm × Nat} (h : aword S w rest = some x) : x.2 ≤ rest.length ∧ x.1.length ≤ w.size + 1 := by
  unfold aword at h
  split at h
  · have := along_le h; omega
  · split at h
    · have := ashort_le S _ rest x h
      rw [List.length_drop, ← Lib.size_eq] at this
      omega
    · cases h; exact ⟨Nat.zero_le _, by simp⟩

/-- what words have come to so far, and what they come to -/
def pjoin (l : List Itm) : Except Nat (List Itm) → Except Nat (List Itm)
  | .error k => .error k
  | .ok l' => .ok (l ++ l')

/-- the place where the reader stands -/
theorem Rd.at2 {base rb : Nat} {S : List Spc} {ws : List ByteArray} {w : World} {at' : Nat} {out : List Itm} (h : Rd base rb S ws w at' out) :
    w.cell? ⟨rb, 2, none⟩ = some (.int .i64 (at' : Int)) ∧ w.frozen? ⟨rb, 2, none⟩ = false ∧ rb < w.heap.size := by
  obtain ⟨sv, wv, ov, m, hrb, _⟩ := h
  exact ⟨by simp [World.cell?, hrb], by simp [World.frozen?, hrb], (Array.getElem?_eq_some_iff.1 hrb).1⟩
theorem Rd.bump {base rb : Nat} {S : List Spc} {ws : List ByteArray} {w : World} {at' : Nat} {out : List Itm} (h : Rd base rb S ws w at' out) (k : Nat) :
    Rd base rb S ws (w.setCell ⟨rb, 2, none⟩ (.int .i64 (k : Int))) k out ∧ Mut base rb w (w.setCell ⟨rb, 2, none⟩ (.int .i64 (k : Int))) := by
  obtain ⟨sv, wv, ov, m, hrb, hS, hW, hbr, hO, hm, hV⟩ := h
  have hM : Mut base rb w (w.setCell ⟨rb, 2, none⟩ (.int .i64 (k : Int))) := mut_set hbr
  have hz := set_blk (j := 2) (v := .int .i64 (k : Int)) hrb
  simp only [List.setIfInBounds_toArray, List.set_cons_succ, List.set_cons_zero] at hz
  refine ⟨⟨sv, wv, ov, m, hz, hM.row hrb (by decide) (by decide) hS, hM.row hrb (by decide) (by decide) hW, hbr, hO.kept (grownBy_set w rb 2 _) (.inr (own_ne hO hrb (by decide))), hm, fun y hy => ⟨hM.row hrb (by decide) (by decide) (hV y hy).1, (hV y hy).2⟩⟩, hM⟩
/-- what the reader has put out -/
theorem Rd.out3 {base rb : Nat} {S : List Spc} {ws : List ByteArray} {w : World} {at' : Nat} {out : List Itm} (h : Rd base rb S ws w at' out) :
    ∃ ov, w.cell? ⟨rb, 3, none⟩ = some ov ∧ rb < w.heap.size ∧ ItmAt base w ov out := by
  obtain ⟨sv, wv, ov, m, hrb, hS, hW, hbr, hO, hm, hV⟩ := h
  exact ⟨ov, by simp [World.cell?, hrb], (Array.getElem?_eq_some_iff.1 hrb).1, m, hm, rowAt_own hO rfl rfl (fun _ => rfl), hV⟩

/-- operands -/
def opsOf (l : List ByteArray) : List Itm := l.map (fun x => (⟨#[]⟩, [x]))
theorem opsOf_snoc (l : List ByteArray) (x : ByteArray) : opsOf (l ++ [x]) = opsOf l ++ [(⟨#[]⟩, [x])] := by simp [opsOf]

theorem dash_iff (x : ByteArray) : (x.toList == [45, 45]) = decide (x = dashes) := by
  rw [Bool.eq_iff_iff, beq_iff_eq, decide_eq_true_iff, Lib.toList_data]
  constructor
  · intro h; apply ByteArray.ext; apply Array.toList_inj.1; exact h
  · rintro rfl; rfl

def ParsePost (S : List Spc) (ws : List ByteArray) (w : World) (e : Ending) (w' : World) : Prop :=
  (match aparse S 0 ws with
   | .error k => e = .returned (.tuple #[.slice none 0 0, .int .i64 (k : Int), .int .i64 19])
   | .ok l => ∃ v, e = .returned (.tuple #[v, .int .i64 (-1), .int .i64 0]) ∧ ItmAt w.heap.size w' v l) ∧ Below w.heap.size w w'

set_option maxRecDepth 100000 in
set_option maxHeartbeats 8000000 in
theorem args_Parse (S : List Spc) (ws : List ByteArray) (sv wv : Value) (w : World) (hS : Meek S) (hlen : ws.length ≤ 1048576) (hsz : ∀ s ∈ ws, s.size ≤ 1048576) (htot : ltot ws ≤ 1073741824)
    (hSv : SpcAt w.heap.size w sv S) (hWv : StrAt w.heap.size w wv ws) :
    Calls Tryz.prog 12 #[sv, wv] w (ParsePost S ws w) := by
  have hSv' := hSv
  obtain ⟨As, cs, rfl, _, _⟩ := hSv'
  have hb0 := (Below.refl w.heap.size w).alloc (Nat.le_refl _) (.cells #[.slice As S.length cs, wv, .int .i64 0, .slice none 0 0] 77)
  have hR0 : Rd w.heap.size w.heap.size S ws (w.alloc (.cells #[.slice As S.length cs, wv, .int .i64 0, .slice none 0 0] 77)) 0 [] :=
    ⟨_, wv, .slice none 0 0, [], heap_alloc_new w _, hSv.below hb0, hWv.below hb0, Nat.le_refl _, World.ownsRow_nil _ _ _ _, rfl, fun y hy => by cases hy⟩
  obtain ⟨A, c, rfl, hc, hA⟩ := hWv
  have HA := Lib.hid hA
  have HS := Lib.hid hS
  have HR0 := Lib.hid hR0
  have HB0 := Lib.hid hb0
  have HZ := Lib.hid hsz
  clear hA hS hR0 hb0 hSv hsz
  have htot0 := htot
  go_enter Tryz.func12, Tryz.ntmps12
  go_wp2
  go_loopg [] ws.length (fun g wr => ∃ (k : Nat) (o0 : List Itm), g + k = ws.length ∧ o0.length + ltot (ws.drop k) ≤ ltot ws ∧ Aside (Rd w.heap.size w.heap.size S ws wr k o0) ∧ Aside (Below w.heap.size w wr) ∧ Aside (aparse S 0 ws = pjoin o0 (aparse S k (ws.drop k))))
  case atStart => exact ⟨0, [], by omega, by simp, HR0.out, HB0.out, (by cases h : aparse S 0 ws <;> simp [pjoin, h] : aparse S 0 ws = pjoin [] (aparse S 0 (ws.drop 0)))⟩
  case round =>
    obtain ⟨k, o0, hg, ho0, HR, HB, HE⟩ := hrel
    obtain ⟨c2, f2, hrl⟩ := HR.out.at2
    have hbw : w.heap.size ≤ wr.heap.size := HB.out.size
    have ho1 : o0.length ≤ 1073741824 := by omega
    by_cases hlt : k < ws.length
    · obtain ⟨x, hx⟩ : ∃ x, ws[k]? = some x := ⟨ws[k], List.getElem?_eq_getElem hlt⟩
      have hdrop : ws.drop k = x :: ws.drop (k + 1) := by
        rw [List.drop_eq_getElem_cons hlt]; congr 1
        rw [List.getElem?_eq_getElem hlt] at hx; exact Option.some.inj hx
      have hxm : x ∈ ws := List.mem_iff_getElem?.2 ⟨k, hx⟩
      have hxs : x.size ≤ 1048576 := HZ.out x hxm
      obtain ⟨b, o, rfl, hb, hst, hcells⟩ := HA.out (by intro h; rw [h] at hx; simp at hx)
      have hb' := bcell HB.out
      have c0 : wr.cell? ⟨b, o + k, none⟩ = some (.string x) := by
        have := (hb'.1 b _ hb).trans (hcells _ x hx 0 _ rfl)
        simpa using this
      have q0 : (k : Int) < (ws.length : Int) := by omega
      have q1 : (0 : Int) ≤ (k : Int) := by omega
      have q2 : ((k : Int)).toNat = k := by omega
      have hE1 := HE.out
      rw [hdrop, aparse] at hE1
      rw [hdrop, ltot_cons] at ho0
      have HC := Lib.hid hcells
      have HX := Lib.hid hx
      clear hcells hb' hx hdrop
      by_cases hd : x = dashes
      · rw [if_pos hd] at hE1
        have HE2 := Lib.hid hE1
        clear hE1
        have ht : (x.toList == [45, 45]) = true := by rw [dash_iff]; simpa using hd
        have q3 : IntKind.i64.wrap ((k : Int) + 1) = (k : Int) + 1 := IntWalk.i64_in _ (by omega)
        have q4 : ((k : Int) + 1).toNat = k + 1 := by omega
        have q5 : (0 : Int) ≤ (k : Int) + 1 := by omega
        have q6 : (k : Int) + 1 ≤ (ws.length : Int) := by omega
        have HD := Lib.hid hd
        clear hd
        by_cases hck : c = k + 1
        · have hkl : k + 1 = ws.length := by omega
          have hnil : ws.drop (k + 1) = [] := List.drop_eq_nil_of_le (by omega)
          have HN := Lib.hid hnil
          obtain ⟨ov, c3, _, hO⟩ := HR.out.out3
          have HO := Lib.hid hO
          clear hnil hO
          go_wp2
          go_loopg [45] 0 (fun g i wq => i = .int .i64 0 ∧ wq = wr)
          case atStart => exact ⟨rfl, rfl⟩
          case round =>
            obtain ⟨rfl, rfl⟩ := hrel
            go_wp2
            go_ret3
            refine ⟨?_, HB.out⟩
            rw [HE2.out, HN.out]
            exact ⟨_, rfl, by rw [List.map_nil, List.append_nil]; exact HO.out⟩
        · have hdl : (ws.drop (k + 1)).length = ws.length - (k + 1) := List.length_drop
          go_wp2
          go_loopg [45] (ws.length - (k + 1)) (fun g i wq => ∃ j : Nat, g + j = ws.length - (k + 1) ∧ i = .int .i64 j ∧ Aside (Rd w.heap.size w.heap.size S ws wq k (o0 ++ opsOf ((ws.drop (k + 1)).take j))) ∧ Aside (Below w.heap.size w wq))
          case atStart => exact ⟨0, by omega, rfl, (by simpa [opsOf] using HR.out : Rd w.heap.size w.heap.size S ws _ k (o0 ++ opsOf ((ws.drop (k + 1)).take 0))), HB.out⟩
          case round =>
            obtain ⟨j, hgj, rfl, HRj, HBj⟩ := hrel
            have hbj : w.heap.size ≤ wr.heap.size := HBj.out.size
            by_cases hlj : j < ws.length - (k + 1)
            · obtain ⟨y, hy⟩ : ∃ y, ws[k + 1 + j]? = some y := ⟨_, List.getElem?_eq_getElem (by omega)⟩
              have hy' : (ws.drop (k + 1))[j]? = some y := by rw [List.getElem?_drop]; exact hy
              have hcy : wr.cell? ⟨b, o + (k + 1) + j, none⟩ = some (.string y) := by
                have := ((bcell HBj.out).1 b _ hb).trans (HC.out _ y hy 0 _ rfl)
                rw [show o + (k + 1) + j = o + (k + 1 + j) from by omega]
                simpa using this
              have q8 : (j : Int) < ((ws.length - (k + 1) : Nat) : Int) := by omega
              have q9 : (0 : Int) ≤ (j : Int) := by omega
              have q10 : ((j : Int)).toNat = j := by omega
              have q11 : IntKind.i64.wrap ((j : Int) + 1) = (j : Int) + 1 := IntWalk.i64_in _ (by omega)
              have hol : (o0 ++ opsOf ((ws.drop (k + 1)).take j)).length ≤ 4294967296 := by
                rw [List.length_append, opsOf, List.length_map, List.length_take]; omega
              have HOp := Lib.hid (args_operand w.heap.size w.heap.size S ws k _ y wr hbj hol HRj.out)
              have HY := Lib.hid hy'
              clear hy hy' hol hdl
              go_wp2_with (go_at_call 22; refine HOp.out.mono ?_; rintro e w5 ⟨rfl, hR5, hM5⟩)
              go_roundg (ws.length - (k + 1) - (j + 1))
              case measure => omega
              case rel =>
                refine ⟨j + 1, by omega, by go_num, ?_, HBj.out.trans hM5.1⟩
                rw [List.take_add_one, HY.out, Option.toList_some, opsOf_snoc, ← List.append_assoc]
                exact hR5
            · have hj : (ws.drop (k + 1)).take j = ws.drop (k + 1) := List.take_of_length_le (by omega)
              obtain ⟨ov, c3, _, hO⟩ := HRj.out.out3
              rw [hj] at hO
              have HO := Lib.hid hO
              have q8 : ¬ ((j : Int) < ((ws.length - (k + 1) : Nat) : Int)) := by omega
              clear hO hj
              go_wp2
              go_ret3
              refine ⟨?_, HBj.out⟩
              rw [HE2.out]
              exact ⟨_, rfl, HO.out⟩
      · rw [if_neg hd] at hE1
        have ht : (x.toList == [45, 45]) = false := by rw [dash_iff]; simpa using hd
        have HW := Lib.hid (args_word w.heap.size w.heap.size S ws k o0 x wr hbw hlt hlen HS.out (by omega) hxs HR.out)
        cases hw : aword S x (ws.drop (k + 1)) with
        | none =>
          simp only [hw] at HW hE1
          have HE2 := Lib.hid hE1
          clear hE1 hw hd
          go_wp2_with (go_at_call 23; refine HW.out.mono ?_; rintro e w5 ⟨rfl, hM5⟩)
          go_ret3
          refine ⟨?_, HB.out.trans hM5.1⟩
          rw [HE2.out]
          rfl
        | some y =>
          have hyl := aword_le hw
          rw [List.length_drop] at hyl
          simp only [hw] at HW hE1
          have HE2 := Lib.hid hE1
          clear hE1 hw hd
          have q7 : IntKind.i64.wrap (((k : Int) + (y.2 : Int)) + 1) = ((k : Int) + (y.2 : Int)) + 1 := IntWalk.i64_in _ (by omega)
          go_wp2_with (go_at_call 23; refine HW.out.mono ?_; rintro e w5 ⟨⟨rfl, hR5⟩, hM5⟩; obtain ⟨c52, f52, hl5⟩ := hR5.at2)
          go_roundg (ws.length - (k + y.2 + 1))
          case measure => omega
          case rel =>
            obtain ⟨hR6, hM6⟩ := hR5.bump (k + y.2 + 1)
            refine ⟨k + y.2 + 1, o0 ++ y.1, by omega, ?_, hR6, (HB.out.trans hM5.1).trans hM6.1, ?_⟩
            · rw [List.length_append]
              have := ltot_drop (ws.drop (k + 1)) y.2
              rw [List.drop_drop] at this
              rw [show k + y.2 + 1 = k + 1 + y.2 from by omega]
              omega
            · show _ = _
              rw [HE2.out, List.drop_drop, show k + 1 + y.2 = k + y.2 + 1 from by omega]
              cases aparse S (k + y.2 + 1) (ws.drop (k + y.2 + 1)) <;> simp [pjoin]
    · have hk : ws.drop k = [] := List.drop_eq_nil_of_le (by omega)
      have hE1 := HE.out
      rw [hk, aparse] at hE1
      obtain ⟨ov, c3, _, hO⟩ := HR.out.out3
      have HE2 := Lib.hid hE1
      have HO := Lib.hid hO
      clear hE1 hO hk
      go_wp2
      go_ret3
      refine ⟨?_, HB.out⟩
      rw [HE2.out]
      exact ⟨_, rfl, by rw [List.append_nil]; exact HO.out⟩

end Go.Proofs.YtnmlmbgaljnjeaaGreatDoor
