/- altcli: Specs, commands. Conditions: fewer than 2^30 items. -/
import Derived.Test.YtnmlmbgaljnjeaaGreatDoorAparse
import Derived.Laws.OwnMore
set_option linter.unusedVariables false
set_option linter.unusedSimpArgs false
namespace Go.Proofs.YtnmlmbgaljnjeaaGreatDoor
open Go.RowKit

/-- the options -/
def aspecs : List Spc := [⟨⟨#[97, 108, 116, 100, 105, 114]⟩, 0, 1⟩, ⟨⟨#[97, 100, 109, 105, 110, 100, 105, 114]⟩, 0, 1⟩, ⟨⟨#[115, 105, 109, 117, 108, 97, 116, 101]⟩, 110, 0⟩, ⟨⟨#[113, 117, 105, 101, 116]⟩, 113, 0⟩, ⟨⟨#[105, 110, 115, 116, 97, 108, 108]⟩, 0, 4⟩, ⟨⟨#[115, 108, 97, 118, 101]⟩, 0, 3⟩, ⟨⟨#[114, 101, 109, 111, 118, 101]⟩, 0, 2⟩, ⟨⟨#[114, 101, 109, 111, 118, 101, 45, 97, 108, 108]⟩, 0, 1⟩, ⟨⟨#[115, 101, 116]⟩, 0, 2⟩, ⟨⟨#[97, 117, 116, 111]⟩, 0, 1⟩, ⟨⟨#[100, 105, 115, 112, 108, 97, 121]⟩, 0, 1⟩, ⟨⟨#[113, 117, 101, 114, 121]⟩, 0, 1⟩, ⟨⟨#[108, 105, 115, 116]⟩, 0, 1⟩, ⟨⟨#[103, 101, 116, 45, 115, 101, 108, 101, 99, 116, 105, 111, 110, 115]⟩, 0, 0⟩, ⟨⟨#[115, 101, 116, 45, 115, 101, 108, 101, 99, 116, 105, 111, 110, 115]⟩, 0, 0⟩]
def slaveB : ByteArray := ⟨#[115, 108, 97, 118, 101]⟩
def isCmd (s : Spc) (x : Itm) : Bool := (x.1.toList == s.long.toList) && !(x.1.toList == slaveB.toList)
def acommands (l : List Itm) : List Itm := (aspecs.drop 4).flatMap (fun s => l.filter (isCmd s))

theorem aspecs_meek : Meek aspecs := ⟨by decide, by decide⟩

set_option maxRecDepth 100000 in
set_option maxHeartbeats 4000000 in
theorem cli_Specs (w : World) :
    Calls Tryz.prog 6 #[] w fun e w' => ∃ b, e = .returned (.slice (some ⟨b, 0, none⟩) 15 15) ∧ SpcAt w'.heap.size w' (.slice (some ⟨b, 0, none⟩) 15 15) aspecs ∧ b < w'.heap.size ∧ w.heap.size ≤ b ∧ Below w.heap.size w w' := by
  have ho := World.ownsRow_lit (base := w.heap.size) (e := 30) (size := 3) w (aspecs.flatMap encSpc).toArray 15 (Nat.le_refl _) (by unfold maxLen; omega) (by decide)
  have hr : SpcAt (w.alloc (.cells (aspecs.flatMap encSpc).toArray 30)).heap.size _ _ aspecs := rowAt_own ho (by rfl) rfl (fun _ => rfl)
  have HR := Lib.hid hr
  clear hr ho
  go_enter Tryz.func6, Tryz.ntmps6
  go_wp2
  go_ret
  exact ⟨_, rfl, HR.out, by simp, Nat.le_refl _, (Below.refl _ _).alloc (Nat.le_refl _) _⟩

/-- the commands among items, with their values -/
def mcmd (s : Spc) (m : List (Itm × Value)) : List (Itm × Value) := m.filter (fun y => isCmd s y.1)
theorem mcmd_map (s : Spc) (m : List (Itm × Value)) : (mcmd s m).map (·.1) = (m.map (·.1)).filter (isCmd s) := by
  unfold mcmd
  rw [List.filter_map]; rfl
theorem mcmds_map (S : List Spc) (m : List (Itm × Value)) : (S.flatMap (fun s => mcmd s m)).map (·.1) = S.flatMap (fun s => (m.map (·.1)).filter (isCmd s)) := by
  rw [List.map_flatMap]
  exact congrArg (fun f => S.flatMap f) (funext fun s => mcmd_map s m)
theorem mcmd_snoc (s : Spc) (m : List (Itm × Value)) (y : Itm × Value) : mcmd s (m ++ [y]) = mcmd s m ++ (if isCmd s y.1 then [y] else []) := by
  unfold mcmd
  rw [List.filter_append, List.filter_cons, List.filter_nil]
theorem mcmd_len (s : Spc) (m : List (Itm × Value)) : (mcmd s m).length ≤ m.length := List.length_filter_le _ _
theorem mcmds_len (S : List Spc) (m : List (Itm × Value)) : (S.flatMap (fun s => mcmd s m)).length ≤ S.length * m.length := by
  induction S with
  | nil => simp
  | cons a S ih => rw [List.flatMap_cons, List.length_append, List.length_cons, Nat.succ_mul]; have := mcmd_len a m; omega
theorem take_snoc_get {α : Type} {l : List α} {k : Nat} {y : α} (h : l[k]? = some y) : l.take (k + 1) = l.take k ++ [y] := by
  rw [List.take_add_one, h]; rfl

set_option maxRecDepth 100000 in
set_option maxHeartbeats 8000000 in
theorem cli_commands (lo : Nat) (v : Value) (l : List Itm) (w : World) (hl : l.length ≤ 1073741824) (hv : ItmAt lo w v l) :
    Calls Tryz.prog 13 #[v] w fun e w' => ∃ v', e = .returned v' ∧ ItmAt lo w' v' (acommands l) ∧ Below w.heap.size w w' := by
  obtain ⟨m, rfl, hm, hvals⟩ := hv
  obtain ⟨A, c, rfl, hc, hA⟩ := hm
  rw [List.length_map] at hl
  obtain ⟨i0, hi, hz0, hz1, hz2⟩ := info_parts rdInfo
  have HA := Lib.hid hA
  have HV := Lib.hid hvals
  clear hA hvals
  obtain ⟨S, hS⟩ : ∃ S, aspecs.drop 4 = S := ⟨_, rfl⟩
  have hSl : S.length = 11 := by rw [← hS]; rfl
  have HS := Lib.hid hS
  unfold acommands
  rw [hS]
  clear hS
  go_enter Tryz.func13, Tryz.ntmps13
  go_wp2_with (go_at_call 6; refine (cli_Specs _).mono ?_; rintro e w1 ⟨b1, rfl, hsp, hb1l, hb1w, hb1⟩)
  have HB1 := Lib.hid hb1
  have HSP := Lib.hid hsp
  clear hb1 hsp
  have hbw1 : w.heap.size ≤ w1.heap.size := HB1.out.size
  go_loopg [3, 11] 11 (fun g ov i wr => ∃ k : Nat, g + k = 11 ∧ i = .int .i64 k ∧ Aside (wr.ownsRow w1.heap.size 62 2 ov ((S.take k).flatMap (fun s => mcmd s m)).length (((S.take k).flatMap (fun s => mcmd s m)).flatMap encItm)) ∧ Aside (Below w1.heap.size w1 wr))
  case atStart => exact ⟨0, rfl, rfl, World.ownsRow_nil _ _ _ _, Below.refl _ _⟩
  case round =>
    obtain ⟨k, hg, rfl, HO, HB⟩ := hrel
    have hsz := HB.out.size
    by_cases hlt : k < 11
    · obtain ⟨s, hs⟩ : ∃ s, S[k]? = some s := ⟨_, List.getElem?_eq_getElem (by omega)⟩
      have hs' : aspecs[4 + k]? = some s := by rw [← HS.out, List.getElem?_drop] at hs; exact hs
      obtain ⟨_, _, hsv, _, hsr⟩ := HSP.out
      cases hsv
      obtain ⟨bb, oo, hbb, _, _, hcells⟩ := hsr (by decide)
      cases hbb
      have c0 : wr.cell? ⟨b1, 12 + k * 3, none⟩ = some (.string s.long) := by
        have := ((bcell HB.out).1 b1 _ hb1l).trans (hcells _ s hs' 0 _ rfl)
        rw [show 12 + k * 3 = 0 + (4 + k) * 3 + 0 from by omega]; exact this
      have c1 : wr.cell? ⟨b1, 12 + k * 3 + 1, none⟩ = some (.int .u8 (s.short.toNat : Int)) := by
        have := ((bcell HB.out).1 b1 _ hb1l).trans (hcells _ s hs' 1 _ rfl)
        rw [show 12 + k * 3 + 1 = 0 + (4 + k) * 3 + 1 from by omega]; exact this
      have c2 : wr.cell? ⟨b1, 12 + k * 3 + 2, none⟩ = some (.int .i64 s.needs) := by
        have := ((bcell HB.out).1 b1 _ hb1l).trans (hcells _ s hs' 2 _ rfl)
        rw [show 12 + k * 3 + 2 = 0 + (4 + k) * 3 + 2 from by omega]; exact this
      have q0 : (k : Int) < 11 := by omega
      have q1 : (0 : Int) ≤ (k : Int) := by omega
      have q2 : ((k : Int)).toNat = k := by omega
      have q3 : IntKind.i64.wrap ((k : Int) + 1) = (k : Int) + 1 := IntWalk.i64_in _ (by omega)
      have HT := Lib.hid (take_snoc_get hs)
      obtain ⟨pre, hpre⟩ : ∃ pre, (S.take k).flatMap (fun s => mcmd s m) = pre := ⟨_, rfl⟩
      have hprel : pre.length ≤ 11 * 1073741824 := by
        rw [← hpre]
        refine Nat.le_trans (mcmds_len _ _) ?_
        rw [List.length_take]
        exact Nat.mul_le_mul (by omega) (by omega)
      have HPr := Lib.hid hpre
      rw [hpre] at HO
      clear hcells hs hs' hsr hpre
      go_wp2
      obtain ⟨w2, hw2⟩ : ∃ w2, w2 = wr.alloc (.cells #[.string s.long, .int .u8 (s.short.toNat : Int), .int .i64 s.needs] 30) := ⟨_, rfl⟩
      have hbx : w2.heap[wr.heap.size]? = some (.cells #[.string s.long, .int .u8 (s.short.toNat : Int), .int .i64 s.needs] 30 (0, 0)) := by rw [hw2]; exact heap_alloc_new wr _
      have HBX := Lib.hid hbx
      have HO2 : Aside (w2.ownsRow w1.heap.size 62 2 u3 pre.length (pre.flatMap encItm)) := by rw [hw2]; exact HO.out.alloc _
      have HB2 : Aside (Below w1.heap.size w1 w2) := by rw [hw2]; exact HB.out.alloc HB.out.size _
      rw [← hw2]
      clear hbx hw2 HO HB
      obtain ⟨X, hX⟩ : ∃ X, wr.heap.size = X := ⟨_, rfl⟩
      rw [hX] at HBX ⊢
      clear hX hsz c0 c1 c2
      go_loopg [3, 17] m.length (fun g ov i wq => ∃ j : Nat, g + j = m.length ∧ i = .int .i64 j ∧ Aside (wq.ownsRow w1.heap.size 62 2 ov (pre ++ mcmd s (m.take j)).length ((pre ++ mcmd s (m.take j)).flatMap encItm)) ∧ Aside (Below w1.heap.size w1 wq) ∧
        Aside (wq.heap[X]? = some (.cells #[.string s.long, .int .u8 (s.short.toNat : Int), .int .i64 s.needs] 30 (0, 0))))
      case atStart => exact ⟨0, by omega, rfl, (by rw [List.take_zero]; simpa [mcmd] using HO2.out : w2.ownsRow w1.heap.size 62 2 u3 (pre ++ mcmd s (m.take 0)).length ((pre ++ mcmd s (m.take 0)).flatMap encItm)), HB2.out, HBX.out⟩
      case round =>
        obtain ⟨j, hgj, rfl, HO, HB, HX⟩ := hrel
        have hsz := HB.out.size
        by_cases hlj : j < m.length
        · obtain ⟨y, hy⟩ : ∃ y, m[j]? = some y := ⟨m[j], List.getElem?_eq_getElem hlj⟩
          obtain ⟨b, o, rfl, hb, hst, hcells⟩ := HA.out (by intro h; rw [h] at hy; simp at hy)
          have hb' := bcell (HB1.out.trans (HB.out.mono hbw1))
          have c0 : wr.cell? ⟨b, o + j * 2, none⟩ = some (.string y.1.1) := (hb'.1 b _ hb).trans (hcells _ y hy 0 _ rfl)
          have c1 : wr.cell? ⟨b, o + j * 2 + 1, none⟩ = some y.2 := (hb'.1 b _ hb).trans (hcells _ y hy 1 _ rfl)
          have cX : wr.cell? ⟨X, 0, none⟩ = some (.string s.long) := by simp [World.cell?, HX.out]
          have hXl : X < wr.heap.size := (Array.getElem?_eq_some_iff.1 HX.out).1
          have htk := take_snoc_get hy
          have hstep := mcmd_snoc s (m.take j) y
          rw [← htk] at hstep
          have hval := (HV.out y (List.mem_iff_getElem?.2 ⟨j, hy⟩)).1
          obtain ⟨⟨yn, yl⟩, yv⟩ := y
          dsimp only at c0 c1 hstep hval
          obtain ⟨yA, yc, rfl, _, _⟩ := hval
          have r0 : (j : Int) < (m.length : Int) := by omega
          have r1 : (0 : Int) ≤ (j : Int) := by omega
          have r2 : ((j : Int)).toNat = j := by omega
          have r3 : IntKind.i64.wrap ((j : Int) + 1) = (j : Int) + 1 := IntWalk.i64_in _ (by omega)
          have hml : (mcmd s (m.take j)).length ≤ j := by
            refine Nat.le_trans (mcmd_len _ _) ?_
            rw [List.length_take]; omega
          clear hcells hb' hy htk
          cases e1 : (yn.toList == s.long.toList)
          · have hno : isCmd s (yn, yl) = false := by unfold isCmd; rw [e1]; rfl
            have hstep1 : mcmd s (m.take (j + 1)) = mcmd s (m.take j) := by rw [hstep, if_neg (by rw [hno]; decide), List.append_nil]
            have HSt := Lib.hid hstep1
            clear hstep1
            clear hstep hno
            go_wp2
            go_roundg (m.length - (j + 1))
            case measure => omega
            case rel =>
              refine ⟨j + 1, by omega, by go_num, ?_, HB.out.alloc hsz _, (Below.heap_alloc _ _ _ hXl).trans HX.out⟩
              rw [HSt.out]
              exact HO.out.alloc _
          · cases e2 : (yn.toList == [115, 108, 97, 118, 101])
            · have hno : isCmd s (yn, yl) = true := by
                unfold isCmd
                rw [e1, show (yn.toList == slaveB.toList) = (yn.toList == [115, 108, 97, 118, 101]) from by rw [Lib.toList_data slaveB]; rfl, e2]; rfl
              have e3 : (yn.toList != [115, 108, 97, 118, 101]) = true := by rw [bne, e2]; rfl
              have hstep1 : pre ++ mcmd s (m.take (j + 1)) = (pre ++ mcmd s (m.take j)) ++ [((yn, yl), .slice yA yl.length yc)] := by rw [hstep, if_pos hno, List.append_assoc]
              obtain ⟨cur, hcur⟩ : ∃ cur, pre ++ mcmd s (m.take j) = cur := ⟨_, rfl⟩
              have hcl : cur.length ≤ 13 * 1073741824 := by rw [← hcur, List.length_append]; omega
              rw [hcur] at hstep1 HO
              have HSt := Lib.hid hstep1
              clear hstep hno hstep1 hcur
              have hbase : w1.heap.size ≤ wr.heap.size + 2 := by omega
              go_wp2_with (at_builtin; refine wpList_append_lies _ rfl _ _ _ rfl w1.heap.size 62 i0 _ 2 40 Tryz.underlying55 hi hz0 hz1 hz2 rfl (by omega) u3 cur.length (cur.flatMap encItm) rfl ((HO.out.alloc _).alloc _) ⟨wr.heap.size + 1, 0, none⟩ 1 1 [.string yn, .slice yA yl.length yc] rfl rfl (World.news_of_block (cs := #[.string yn, .slice yA yl.length yc]) (t := 62) (fr := (0, 0)) (heap_alloc_new' _ _ (by simp))) (by simp [Value.oneCell']) (by omega) (by unfold maxLen; omega) (by omega) (by simpa using hbase) (wr.heap.size + 2) (by simp) ?_; intro g6 cap6 w6 hown6 hgrow6 hat6 hlt6)
              go_roundg (m.length - (j + 1))
              case measure => omega
              case rel =>
                refine ⟨j + 1, by omega, by go_num, ?_, ?_, ?_⟩
                · rw [HSt.out, List.length_append, List.flatMap_append]
                  exact hown6
                · refine ((HB.out.alloc hsz _).alloc (by simp; omega) _).grown hgrow6 (by simp; omega) (fun kk e => ?_)
                  exact (HO.out.lt kk e).1
                · have hne : some X ≠ u3.ownBlock := (own_ne HO.out HX.out (by decide)).symm
                  rw [hgrow6.block X (by simp; omega) hne, Below.heap_alloc _ _ _ (by simp; omega), Below.heap_alloc _ _ _ hXl]
                  exact HX.out
            · have hno : isCmd s (yn, yl) = false := by
                unfold isCmd
                rw [e1, show (yn.toList == slaveB.toList) = (yn.toList == [115, 108, 97, 118, 101]) from by rw [Lib.toList_data slaveB]; rfl, e2]; rfl
              have e3 : (yn.toList != [115, 108, 97, 118, 101]) = false := by rw [bne, e2]; rfl
              have hstep1 : mcmd s (m.take (j + 1)) = mcmd s (m.take j) := by rw [hstep, if_neg (by rw [hno]; decide), List.append_nil]
              have HSt := Lib.hid hstep1
              clear hstep1
              clear hstep hno
              go_wp2
              go_roundg (m.length - (j + 1))
              case measure => omega
              case rel =>
                refine ⟨j + 1, by omega, by go_num, ?_, HB.out.alloc hsz _, (Below.heap_alloc _ _ _ hXl).trans HX.out⟩
                rw [HSt.out]
                exact HO.out.alloc _
        · have hj : m.take j = m := List.take_of_length_le (by omega)
          have r0 : ¬ (j : Int) < (m.length : Int) := by omega
          have HJ := Lib.hid hj
          clear hj
          go_wp2
          go_roundg (11 - (k + 1))
          case measure => omega
          case rel =>
            have hO := HO.out
            rw [HJ.out, ← HPr.out] at hO
            refine ⟨k + 1, by omega, by go_num, ?_, HB.out⟩
            rw [HT.out, List.flatMap_append, List.flatMap_singleton]
            exact hO
    · have hk : k = 11 := by omega
      have ht : S.take k = S := List.take_of_length_le (by omega)
      have q0 : ¬ (k : Int) < 11 := by omega
      have HT := Lib.hid ht
      clear ht
      go_wp2
      go_ret
      have hO := HO.out
      rw [HT.out] at hO
      refine ⟨_, rfl, ⟨S.flatMap (fun s => mcmd s m), mcmds_map S m, rowAt_own hO rfl rfl (fun _ => rfl), ?_⟩, HB1.out.trans (HB.out.mono hbw1)⟩
      intro y hy
      obtain ⟨s, _, hy⟩ := List.mem_flatMap.1 hy
      have hb := (HB1.out.trans (HB.out.mono hbw1))
      exact ⟨(HV.out y (List.mem_filter.1 hy).1).1.below hb, (HV.out y (List.mem_filter.1 hy).1).2⟩

end Go.Proofs.YtnmlmbgaljnjeaaGreatDoor
