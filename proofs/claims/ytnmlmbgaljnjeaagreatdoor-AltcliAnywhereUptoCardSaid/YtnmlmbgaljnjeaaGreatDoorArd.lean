/- args: the reader: put, operand. Conditions: fewer than 2^32 words. -/
import Derived.Test.YtnmlmbgaljnjeaaGreatDoorAfind
import Derived.Deep.RegionHeldLaw
import Derived.Deep.AppendLies
set_option linter.unusedVariables false
set_option linter.unusedSimpArgs false
namespace Go.Proofs.YtnmlmbgaljnjeaaGreatDoor
open Go.RowKit

/-- a cut of a slice -/
theorem RowAt.sub {α : Type} {enc : α → List Value} {sz T lo : Nat} {w : World} {b o n c : Nat} {l : List α} (h : RowAt enc sz T lo w (.slice (some ⟨b, o, none⟩) n c) l) (i k c' : Nat) (hk : k ≤ (l.drop i).length) (hc : k ≤ c') :
    RowAt enc sz T lo w (.slice (some ⟨b, o + i * sz, none⟩) k c') ((l.drop i).take k) := by
  obtain ⟨A, c0, hv, _, hr⟩ := h
  cases hv
  have hlen : ((l.drop i).take k).length = k := by rw [List.length_take]; omega
  refine ⟨_, c', by rw [hlen], by omega, fun hne => ?_⟩
  have hl : l ≠ [] := by rintro rfl; simp at hne
  obtain ⟨b', o', hA, hb, hst, hcells⟩ := hr hl
  cases hA
  refine ⟨b, _, rfl, hb, hst, fun j x hx t u hu => ?_⟩
  have hx' : l[i + j]? = some x := by
    rw [List.getElem?_take] at hx
    split at hx
    · rwa [List.getElem?_drop] at hx
    · cases hx
  have := hcells (i + j) x hx' t u hu
  rwa [Nat.add_mul, ← Nat.add_assoc] at this

theorem grownBy_of_below {w w' : World} (h : Below w.heap.size w w') : w.grownBy w' none := ⟨h.os, h.tape, h.output, h.size, fun k hk _ => h.block k hk⟩
theorem own_below {w w' : World} {base n : Nat} {e : TypeId} {size : Nat} {v : Value} {xs : List Value} (h : w.ownsRow base e size v n xs) (hb : Below w.heap.size w w') : w'.ownsRow base e size v n xs :=
  h.kept (grownBy_of_below hb) (by cases h : v.ownBlock with | none => exact .inl rfl | some k => exact .inr (by simp))

theorem own_ne {w : World} {base n k : Nat} {e t : TypeId} {size : Nat} {v : Value} {xs : List Value} {c : Array Value} {fz : Nat × Nat} (h : w.ownsRow base e size v n xs) (hk : w.heap[k]? = some (.cells c t fz)) (ht : t ≠ e) : v.ownBlock ≠ some k := by
  rcases h.2 with ⟨rfl, _⟩ | ⟨g, cap, cur, rfl, _, hg, _⟩
  · simp [Value.ownBlock]
  · intro hh
    have : g = k := by simpa [Value.ownBlock] using hh
    subst this
    rw [hg] at hk; cases hk; exact ht rfl

theorem clone_str (lo : Nat) (v : Value) (l : List ByteArray) (w : World) (hl : l.length ≤ 4294967296) (hv : StrAt lo w v l) :
    Calls Tryz.prog 59 #[v] w fun e w' => ∃ v', e = .returned v' ∧ w'.ownsRow w.heap.size 9 1 v' l.length (l.map Value.string) ∧ Below w.heap.size w w' := by
  obtain ⟨A, c, rfl, hc, hr⟩ := hv
  cases A with
  | none =>
    have hl0 : l = [] := by
      by_cases h : l = []
      · exact h
      · obtain ⟨b, o, h1, _⟩ := hr h; cases h1
    subst hl0
    refine (Tryz.slices_Clone_string_nil _ _ w).mono ?_
    rintro e w' ⟨rfl, rfl⟩
    exact ⟨_, rfl, World.ownsRow_nil _ _ _ _, Below.refl _ _⟩
  | some a =>
    by_cases h : l = []
    · subst h
      refine (Tryz.slices_Clone_string_zero a c w).mono ?_
      rintro e w' ⟨v', rfl, h1, _, h2⟩
      exact ⟨v', rfl, h1, h2⟩
    · obtain ⟨b, o, h1, hb, _, hcells⟩ := hr h
      cases h1
      refine (Tryz.slices_Clone_string b o l.length c l w (Nat.le_refl _) (by omega) (fun j hj => ?_)).mono ?_
      · have := hcells j l[j] (List.getElem?_eq_getElem hj) 0 _ rfl
        rw [Nat.mul_one, Nat.add_zero] at this
        rw [this, List.getD_eq_getElem?_getD, List.getElem?_eq_getElem hj]; rfl
      · rintro e w' ⟨v', rfl, h1, _, h2⟩
        rw [List.take_length] at h1
        exact ⟨v', rfl, h1, h2⟩

/-- what a reader holds -/
def Rd (base rb : Nat) (S : List Spc) (ws : List ByteArray) (w : World) (at' : Nat) (out : List Itm) : Prop :=
  ∃ (sv wv ov : Value) (m : List (Itm × Value)), w.heap[rb]? = some (.cells #[sv, wv, .int .i64 (at' : Int), ov] 77 (0, 0)) ∧ SpcAt base w sv S ∧ StrAt base w wv ws ∧ base ≤ rb ∧
    w.ownsRow base 62 2 ov m.length (m.flatMap encItm) ∧ m.map (·.1) = out ∧ Vals base w m
/-- what a reader's methods turn: its block, rows of items -/
def Mut (base rb : Nat) (w w' : World) : Prop :=
  Below base w w' ∧ ∀ i, i < w.heap.size → i ≠ rb → (¬ ∃ c fz, w.heap[i]? = some (.cells c 62 fz)) → w'.heap[i]? = w.heap[i]?
theorem Mut.refl (base rb : Nat) (w : World) : Mut base rb w w := ⟨Below.refl _ _, fun _ _ _ _ => rfl⟩
theorem Mut.trans {base rb : Nat} {a b c : World} (h : Mut base rb a b) (k : Mut base rb b c) : Mut base rb a c := by
  refine ⟨h.1.trans k.1, fun i hi hn ht => ?_⟩
  have e := h.2 i hi hn ht
  rw [k.2 i (Nat.lt_of_lt_of_le hi h.1.size) hn (by rw [e]; exact ht), e]
theorem mut_below {base rb : Nat} {w w' : World} (h : Below w.heap.size w w') (hb : base ≤ w.heap.size) : Mut base rb w w' := ⟨h.mono hb, fun i hi _ _ => h.block i hi⟩
theorem Mut.keeps {base rb : Nat} {w w' : World} (h : Mut base rb w w') : Keeps (fun i => base ≤ i ∧ (i = rb ∨ ∃ c fz, w.heap[i]? = some (.cells c 62 fz))) w w' := by
  refine ⟨h.1.size, fun i hi hs => ?_⟩
  by_cases hb : i < base
  · exact h.1.block i hb
  · exact h.2 i hi (fun e => hs ⟨by omega, .inl e⟩) (fun e => hs ⟨by omega, .inr e⟩)
/-- slices of other elements stay -/
theorem Mut.row {base rb T sz : Nat} {w w' : World} (h : Mut base rb w w') {c : Array Value} {fz : Nat × Nat} (hrb : w.heap[rb]? = some (.cells c 77 fz)) (hT : T ≠ 77) (hT2 : T ≠ 62)
    {α : Type} {enc : α → List Value} {v : Value} {l : List α} (hv : RowAt enc sz T base w v l) : RowAt enc sz T base w' v l := by
  refine hv.keeps h.keeps ?_
  rintro i ⟨hi, hor⟩ (h1 | ⟨c', fz', h1⟩)
  · omega
  · rcases hor with rfl | ⟨c2, fz2, h2⟩
    · rw [hrb] at h1; cases h1; exact hT rfl
    · rw [h2] at h1; cases h1; exact hT2 rfl
theorem Mut.boxed {base rb : Nat} {w w' : World} (h : Mut base rb w w') {k : Nat} {t : TypeId} {v : Value} (hv : Boxed w k t v) (hk : k ≠ rb) (ht : t ≠ 62) : Boxed w' k t v :=
  (h.2 k hv.lt hk (fun ⟨c, fz, e⟩ => by rw [show w.heap[k]? = _ from hv] at e; cases e; exact ht rfl)).trans hv
theorem mut_grown {base rb n : Nat} {w w' : World} {v : Value} {xs : List Value} (ho : w.ownsRow base 62 2 v n xs) (hg : w.grownBy w' v.ownBlock) (hb : base ≤ w.heap.size) : Mut base rb w w' := by
  refine ⟨(Below.refl base w).grown hg hb (fun k e => (ho.lt k e).1), fun i hi _ ht => hg.block i hi (fun e => ?_)⟩
  rcases ho.2 with ⟨rfl, _⟩ | ⟨g, cap, cur, rfl, _, hgg, _⟩
  · cases e
  · have : i = g := by simpa [Value.ownBlock] using e
    subst this
    exact ht ⟨_, _, hgg⟩
theorem mut_set {base rb j : Nat} {w : World} {v : Value} (hb : base ≤ rb) : Mut base rb w (w.setCell ⟨rb, j, none⟩ v) :=
  ⟨(Below.refl base w).setCell (p := ⟨rb, j, none⟩) hb _, fun i hi hn _ => Below.heap_setCell _ _ _ i (by simpa using hn)⟩
theorem grownBy_set (W : World) (b j : Nat) (v : Value) : W.grownBy (W.setCell ⟨b, j, none⟩ v) (some b) :=
  ⟨rfl, rfl, rfl, by simp [World.setCell], fun k _ hk => Below.heap_setCell _ _ _ _ (fun e => hk (congrArg some e))⟩
theorem set_blk {w : World} {rb j : Nat} {cur : Array Value} {t : TypeId} {v : Value} (h : w.heap[rb]? = some (.cells cur t (0, 0))) : (w.setCell ⟨rb, j, none⟩ v).heap[rb]? = some (.cells (cur.setIfInBounds j v) t (0, 0)) := by
  rw [setCell_eq_setRow w rb j cur t (0, 0) v h]
  exact setRow_heap _ _ _ _ _ _ h

theorem rdInfo : (Tryz.prog.info? 62).map (fun i => (i.zero, i.size, i.bytes)) = some (some (.agg #[.string ⟨#[]⟩, .slice none 0 0]), 2, 40) := by kernel_rfl

set_option maxRecDepth 100000 in
set_option maxHeartbeats 4000000 in
theorem args_put (base rb : Nat) (S : List Spc) (ws : List ByteArray) (at' : Nat) (out : List Itm) (s : Spc) (w : World) (hb : base ≤ w.heap.size) (hat : at' < ws.length) (hlen : ws.length ≤ 1048576) (hneed : s.needs ≤ 1048576) (hneed' : -1048576 ≤ s.needs)
    (hout : out.length ≤ 4294967296) (h : Rd base rb S ws w at' out) :
    Calls Tryz.prog 47 #[.pointer (some ⟨rb, 0, none⟩), spcV s] w fun e w' =>
      (match aput s (ws.drop (at' + 1)) with
       | none => e = .returned (.bool false)
       | some x => e = .returned (.bool true) ∧ Rd base rb S ws w' (at' + x.2) (out ++ [x.1])) ∧ Mut base rb w w' := by
  obtain ⟨sv, wv, ov, m, hrb, hS, hW, hbr, hO, hm, hV⟩ := h
  obtain ⟨i0, hi, hz0, hz1, hz2⟩ := info_parts rdInfo
  have hrl : rb < w.heap.size := (Array.getElem?_eq_some_iff.1 hrb).1
  have r1 : w.cell? ⟨rb, 1, none⟩ = some wv := by simp [World.cell?, hrb]
  have r2 : w.cell? ⟨rb, 2, none⟩ = some (.int .i64 (at' : Int)) := by simp [World.cell?, hrb]
  have r3 : w.cell? ⟨rb, 3, none⟩ = some ov := by simp [World.cell?, hrb]
  unfold aput
  unfold spcV
  have hWW := hW
  obtain ⟨A, c, rfl, hc, hA⟩ := hWW
  have hdl : (ws.drop (at' + 1)).length = ws.length - (at' + 1) := List.length_drop
  obtain ⟨N, hN⟩ : ∃ N : Nat, s.needs.toNat = N := ⟨_, rfl⟩
  have hmax : max s.needs 0 = (N : Int) := by omega
  have hNb : N ≤ 1048576 := by omega
  rw [hN, hdl]
  have q1 : IntKind.i64.wrap ((ws.length : Int) - (at' : Int)) = (ws.length : Int) - (at' : Int) := IntWalk.i64_in _ (by omega)
  have q2 : IntKind.i64.wrap ((ws.length : Int) - (at' : Int) - 1) = (ws.length : Int) - (at' : Int) - 1 := IntWalk.i64_in _ (by omega)
  have hb0 := (Below.refl w.heap.size w).alloc (Nat.le_refl _) (.cells #[.string s.long, .int .u8 (s.short.toNat : Int), .int .i64 s.needs] 30)
  by_cases hfit : N ≤ ws.length - (at' + 1)
  · rw [if_pos hfit]
    have hcmp : ¬ ((ws.length : Int) - (at' : Int) - 1 < (N : Int)) := by omega
    go_enter Tryz.func47, Tryz.ntmps47
    go_wp2
    go_quiet (fail)
    go_wp2
    obtain ⟨b, o, rfl, hbl, hst, _⟩ := hA (by rintro rfl; simp at hat)
    have hb1 := below_drewN hb0 nq
    obtain ⟨w2, hw2⟩ : ∃ w2, w2 = (w.alloc (.cells #[.string s.long, .int .u8 (s.short.toNat : Int), .int .i64 s.needs] 30)).drewN nq := ⟨_, rfl⟩
    rw [← hw2] at hb1 ⊢
    have hzw : w2.heap.size = w.heap.size + 1 := by rw [hw2]; simp
    have s0 : w2.cell? ⟨w.heap.size, 0, none⟩ = some (.string s.long) := by
      have e := heap_alloc_new w (.cells #[.string s.long, .int .u8 (s.short.toNat : Int), .int .i64 s.needs] 30)
      rw [hw2, World.cell?_drewN]
      unfold World.cell?
      rw [e]; rfl
    have s1 : w2.cell? ⟨rb, 1, none⟩ = some (.slice (some ⟨b, o, none⟩) ws.length c) := ((bcell hb1).1 _ _ hrl).trans r1
    have s2 : w2.cell? ⟨rb, 2, none⟩ = some (.int .i64 (at' : Int)) := ((bcell hb1).1 _ _ hrl).trans r2
    have s3 : w2.cell? ⟨rb, 3, none⟩ = some ov := ((bcell hb1).1 _ _ hrl).trans r3
    have s4 : w2.frozen? ⟨rb, 3, none⟩ = false := by rw [(bcell hb1).2 _ _ hrl]; simp [World.frozen?, hrb]
    have hW2 : StrAt base w2 (.slice (some ⟨b, o, none⟩) ws.length c) ws := hW.below hb1
    have hsub := hW2.sub (at' + 1) N (c - (at' + 1)) (by rw [hdl]; omega) (by omega)
    have hS := fun W (hW : Below w2.heap.size w2 W) => (⟨((bcell hW).1 _ _ (by omega)).trans s0, ((bcell hW).1 _ _ (by omega)).trans s1, ((bcell hW).1 _ _ (by omega)).trans s2, ((bcell hW).1 _ _ (by omega)).trans s3, ((bcell hW).2 _ _ (by omega)).trans s4⟩ :
      W.cell? ⟨w.heap.size, 0, none⟩ = some (.string s.long) ∧ W.cell? ⟨rb, 1, none⟩ = some (.slice (some ⟨b, o, none⟩) ws.length c) ∧ W.cell? ⟨rb, 2, none⟩ = some (.int .i64 (at' : Int)) ∧ W.cell? ⟨rb, 3, none⟩ = some ov ∧ W.frozen? ⟨rb, 3, none⟩ = false)
    have HS := Lib.hid hS
    have hlk : ((ws.drop (at' + 1)).take N).length = N := by rw [List.length_take, hdl]; omega
    obtain ⟨vals, hvals⟩ : ∃ vals, (ws.drop (at' + 1)).take N = vals := ⟨_, rfl⟩
    rw [hvals] at hlk hsub
    have hsub' : StrAt base w2 (.slice (if c = at' + 1 then some ⟨b, o, none⟩ else some ⟨b, o + (at' + 1), none⟩) N (c - (at' + 1))) vals := by
      split
      · have h0 : N = 0 := by omega
        have h1 : vals = [] := List.eq_nil_of_length_eq_zero (by omega)
        rw [h1, h0]
        exact rowAt_nil _ _ _ _ _ _ _
      · rw [Nat.mul_one] at hsub; exact hsub
    have hC := fun W (hW : Below w2.heap.size w2 W) => clone_str base _ _ W (by omega) (hsub'.below hW)
    simp only [hlk] at hC
    have hbd : Below w2.heap.size w2 w2.drew := ⟨rfl, rfl, rfl, Nat.le_refl _, fun _ _ => rfl⟩
    have HC := Lib.hid (hC w2.drew hbd)
    have hne1 : some rb ≠ ov.ownBlock := (own_ne hO hrb (by decide)).symm
    have hne2 : some w.heap.size ≠ ov.ownBlock := fun e => by have := (hO.lt _ e.symm).2; omega
    have hml : m.length ≤ 4294967296 := by rw [← hm, List.length_map] at hout; exact hout
    have HO := Lib.hid hO
    have q5 : IntKind.i64.wrap ((at' : Int) + 1) = (at' : Int) + 1 := IntWalk.i64_in _ (by omega)
    have q6 : IntKind.i64.wrap ((at' : Int) + 1 + (N : Int)) = (at' : Int) + 1 + (N : Int) := IntWalk.i64_in _ (by omega)
    have q7 : ((at' : Int) + 1).toNat = at' + 1 := by omega
    have q8 : ((at' : Int) + 1 + (N : Int)).toNat = at' + 1 + N := by omega
    have q9 : (0 : Int) ≤ (at' : Int) + 1 := by omega
    have q10 : (at' : Int) + 1 ≤ (at' : Int) + 1 + (N : Int) := by omega
    have q11 : at' + 1 + N ≤ c := by omega
    have q13 : (at' : Int) + 1 + (N : Int) ≤ (c : Int) := by omega
    have q14 : (0 : Int) ≤ (at' : Int) + 1 + (N : Int) := by omega
    have q15 : ¬ ((c : Int) < (at' : Int) + 1 + (N : Int)) := by omega
    have q12 : at' + 1 + N - (at' + 1) = N := by omega
    clear hS hC hA hsub hsub' hW2 hw2
    refine wp_region_held_drew (S := (fun W => W.cell? ⟨w.heap.size, 0, none⟩ = some (.string s.long) ∧ W.cell? ⟨rb, 1, none⟩ = some (.slice (some ⟨b, o, none⟩) ws.length c) ∧ W.cell? ⟨rb, 2, none⟩ = some (.int .i64 (at' : Int)))) (by kernel_rfl) ?_ (fun hHeld => ?_)
    · ((try dsimp only) <;> (first | (go_split_ands; exact ⟨by go_keep, by go_keep, by go_keep⟩) | exact ⟨(HS.out _ hb5').1, (HS.out _ hb5').2.1, (HS.out _ hb5').2.2.1⟩ | exact ⟨hK5.1, hK5.2.1, hK5.2.2.1⟩ | exact ⟨k6s, k61, k62⟩ | exact ⟨(World.cell?_setCell_other w6 ⟨rb, 3, none⟩ ⟨w.heap.size, 0, none⟩ _ (by simp)).trans k6s, (World.cell?_setCell_other w6 ⟨rb, 3, none⟩ ⟨rb, 1, none⟩ _ (by simp)).trans k61, (World.cell?_setCell_other w6 ⟨rb, 3, none⟩ ⟨rb, 2, none⟩ _ (by simp)).trans k62⟩))
    refine wpAnyH_take (i := 0) (v := ?_) rfl (by kernel_rfl) (by kernel_rfl) (by kernel_rfl) (fun _ _ _ h => h) (Or.inl ⟨by rfl, ?_⟩) (by assumption) ?_
    rotate_left
    · (intro w hSw; (try dsimp only at hSw); go_simp; first | done | with_reducible rfl)
    try simp only [Act.put, List.setIfInBounds_toArray, List.set_cons_zero, List.set_cons_succ]
    refine wpAnyH_take (i := 1) (v := ?_) rfl (by kernel_rfl) (by kernel_rfl) (by kernel_rfl) (fun _ _ _ h => h) (Or.inl ⟨by rfl, ?_⟩) (by assumption) ?_
    rotate_left
    · (intro w hSw; (try dsimp only at hSw); go_simp; first | done | with_reducible rfl)
    try simp only [Act.put, List.setIfInBounds_toArray, List.set_cons_zero, List.set_cons_succ]
    refine wpAnyH_take (i := 2) (v := ?_) rfl (by kernel_rfl) (by kernel_rfl) (by kernel_rfl) (fun _ _ _ h => h) (Or.inl ⟨by rfl, ?_⟩) (by assumption) ?_
    rotate_left
    · (intro w hSw; (try dsimp only at hSw); go_simp; first | done | with_reducible rfl)
    try simp only [Act.put, List.setIfInBounds_toArray, List.set_cons_zero, List.set_cons_succ]
    refine wpAnyH_take (i := 3) (v := ?_) rfl (by kernel_rfl) (by kernel_rfl) (by kernel_rfl) (fun _ _ _ h => h) (Or.inl ⟨by rfl, ?_⟩) (by assumption) ?_
    rotate_left
    · (intro w hSw; (try dsimp only at hSw); go_simp; first | done | with_reducible rfl)
    try simp only [Act.put, List.setIfInBounds_toArray, List.set_cons_zero, List.set_cons_succ]
    refine wpAnyH_take (i := 5) (v := ?_) rfl (by kernel_rfl) (by kernel_rfl) (by kernel_rfl) (fun _ _ _ h => h) (Or.inl ⟨by rfl, ?_⟩) (by assumption) ?_
    rotate_left
    · (intro w hSw; (try dsimp only at hSw); go_simp; first | done | with_reducible rfl)
    try simp only [Act.put, List.setIfInBounds_toArray, List.set_cons_zero, List.set_cons_succ]
    refine wpAnyH_take (i := 6) (v := ?_) rfl (by kernel_rfl) (by kernel_rfl) (by kernel_rfl) (fun _ _ _ h => h) (Or.inl ⟨by rfl, ?_⟩) (by assumption) ?_
    rotate_left
    · (intro w hSw; (try dsimp only at hSw); go_simp; first | done | with_reducible rfl)
    try simp only [Act.put, List.setIfInBounds_toArray, List.set_cons_zero, List.set_cons_succ]
    refine wpAnyH_take (i := 7) (v := ?_) rfl (by kernel_rfl) (by kernel_rfl) (by kernel_rfl) (fun _ _ _ h => h) (Or.inl ⟨by rfl, ?_⟩) (by assumption) ?_
    rotate_left
    · (intro w hSw; (try dsimp only at hSw); go_simp; first | done | with_reducible rfl)
    try simp only [Act.put, List.setIfInBounds_toArray, List.set_cons_zero, List.set_cons_succ]
    refine wpAnyH_take (i := 8) (v := ?_) rfl (by kernel_rfl) (by kernel_rfl) (by kernel_rfl) (fun _ _ _ h => h) (Or.inl ⟨by rfl, ?_⟩) (by assumption) ?_
    rotate_left
    · (intro w hSw; (try dsimp only at hSw); go_simp; first | done | with_reducible rfl)
    try simp only [Act.put, List.setIfInBounds_toArray, List.set_cons_zero, List.set_cons_succ]
    refine wpAnyH_take (i := 9) (v := ?_) rfl (by kernel_rfl) (by kernel_rfl) (by kernel_rfl) (fun _ _ _ h => h) (Or.inl ⟨by rfl, ?_⟩) (by assumption) ?_
    rotate_left
    · (intro w hSw; (try dsimp only at hSw); go_simp; first | done | with_reducible rfl)
    try simp only [Act.put, List.setIfInBounds_toArray, List.set_cons_zero, List.set_cons_succ]
    refine wpAnyH_take (i := 10) (v := ?_) rfl (by kernel_rfl) (by kernel_rfl) (by kernel_rfl) (fun _ _ _ h => h) (Or.inl ⟨by rfl, ?_⟩) (by assumption) ?_
    rotate_left
    · (intro w hSw; (try dsimp only at hSw); go_simp; first | done | with_reducible rfl)
    try simp only [Act.put, List.setIfInBounds_toArray, List.set_cons_zero, List.set_cons_succ]
    refine wpAnyH_take (i := 11) (v := ?_) rfl (by kernel_rfl) (by kernel_rfl) (by kernel_rfl) (fun _ _ _ h => h) (Or.inl ⟨by rfl, ?_⟩) (by assumption) ?_
    rotate_left
    · (intro w hSw; (try dsimp only at hSw); go_simp; first | done | with_reducible rfl)
    try simp only [Act.put, List.setIfInBounds_toArray, List.set_cons_zero, List.set_cons_succ]
    refine wpAnyH_take (i := 12) (v := ?_) rfl (by kernel_rfl) (by kernel_rfl) (by kernel_rfl) (fun _ _ _ h => h) (Or.inl ⟨by rfl, ?_⟩) (by assumption) ?_
    rotate_left
    · (intro w hSw; (try dsimp only at hSw); go_simp; first | done | with_reducible rfl)
    try simp only [Act.put, List.setIfInBounds_toArray, List.set_cons_zero, List.set_cons_succ]
    refine wpAnyH_take (i := 13) (v := ?_) rfl (by kernel_rfl) (by kernel_rfl) (by kernel_rfl) (fun _ _ _ h => h) (Or.inl ⟨by rfl, ?_⟩) (by assumption) ?_
    rotate_left
    · (intro w hSw; (try dsimp only at hSw); go_simp; first | done | with_reducible rfl)
    try simp only [Act.put, List.setIfInBounds_toArray, List.set_cons_zero, List.set_cons_succ]
    refine wpAnyH_take (i := 14) (v := ?_) rfl (by kernel_rfl) (by kernel_rfl) (by kernel_rfl) (fun _ _ _ h => h) (Or.inl ⟨by rfl, ?_⟩) (by assumption) ?_
    rotate_left
    · (intro w hSw; (try dsimp only at hSw); go_simp; first | done | with_reducible rfl)
    try simp only [Act.put, List.setIfInBounds_toArray, List.set_cons_zero, List.set_cons_succ]
    refine wpAnyH_take (i := 15) (v := ?_) rfl (by kernel_rfl) (by kernel_rfl) (by kernel_rfl) (fun _ _ _ h => h) (Or.inl ⟨by rfl, ?_⟩) (by assumption) ?_
    rotate_left
    · (intro w hSw; (try dsimp only at hSw); go_simp; first | done | with_reducible rfl)
    try simp only [Act.put, List.setIfInBounds_toArray, List.set_cons_zero, List.set_cons_succ]
    refine wpAnyH_take (i := 16) (v := ?_) rfl (by kernel_rfl) (by kernel_rfl) (by kernel_rfl) (fun _ _ _ h => h) (Or.inl ⟨by rfl, ?_⟩) (by assumption) ?_
    rotate_left
    · (intro w hSw; (try dsimp only at hSw); go_simp; first | done | with_reducible rfl)
    try simp only [Act.put, List.setIfInBounds_toArray, List.set_cons_zero, List.set_cons_succ]
    refine wpAnyH_take (i := 17) (v := ?_) rfl (by kernel_rfl) (by kernel_rfl) (by kernel_rfl) (fun _ _ _ h => h) (Or.inl ⟨by rfl, ?_⟩) (by assumption) ?_
    rotate_left
    · (intro w hSw; (try dsimp only at hSw); go_simp; first | done | with_reducible rfl)
    try simp only [Act.put, List.setIfInBounds_toArray, List.set_cons_zero, List.set_cons_succ]
    refine wpAnyH_take (i := 18) (v := ?_) rfl (by kernel_rfl) (by kernel_rfl) (by kernel_rfl) (fun _ _ _ h => h) (Or.inl ⟨by rfl, ?_⟩) (by assumption) ?_
    rotate_left
    · (intro w hSw; (try dsimp only at hSw); go_simp; first | done | with_reducible rfl)
    try simp only [Act.put, List.setIfInBounds_toArray, List.set_cons_zero, List.set_cons_succ]
    refine wpAnyH_take (i := 19) (v := ?_) rfl (by kernel_rfl) (by kernel_rfl) (by kernel_rfl) (fun _ _ _ h => h) (Or.inl ⟨by rfl, ?_⟩) (by assumption) ?_
    rotate_left
    · (intro w hSw; (try dsimp only at hSw); go_simp; first | done | with_reducible rfl)
    try simp only [Act.put, List.setIfInBounds_toArray, List.set_cons_zero, List.set_cons_succ]
    refine wpAnyH_take (i := 20) (v := ?_) rfl (by kernel_rfl) (by kernel_rfl) (by kernel_rfl) (fun _ _ _ h => h) (Or.inl ⟨by rfl, ?_⟩) (by assumption) ?_
    rotate_left
    · (intro w hSw; (try dsimp only at hSw); go_simp; first | done | with_reducible rfl)
    try simp only [Act.put, List.setIfInBounds_toArray, List.set_cons_zero, List.set_cons_succ]
    refine wpAnyH_take (i := 21) (v := ?_) rfl (by kernel_rfl) (by kernel_rfl) (by kernel_rfl) (fun _ _ _ h => h) (Or.inl ⟨by rfl, ?_⟩) (by assumption) ?_
    rotate_left
    · (intro w hSw; (try dsimp only at hSw); go_simp; first | done | with_reducible rfl)
    try simp only [Act.put, List.setIfInBounds_toArray, List.set_cons_zero, List.set_cons_succ]
    refine wpAnyH_take (i := 22) (v := ?_) rfl (by kernel_rfl) (by kernel_rfl) (by kernel_rfl) (fun _ _ _ h => h) (Or.inl ⟨by rfl, ?_⟩) (by assumption) ?_
    rotate_left
    · (intro w hSw; (try dsimp only at hSw); go_simp; first | done | with_reducible rfl)
    try simp only [Act.put, List.setIfInBounds_toArray, List.set_cons_zero, List.set_cons_succ]
    refine wpAnyH_take (i := 23) (v := ?_) rfl (by kernel_rfl) (by kernel_rfl) (by kernel_rfl) (fun _ _ _ h => h) (Or.inl ⟨by rfl, ?_⟩) (by assumption) ?_
    rotate_left
    · (intro w hSw; (try dsimp only at hSw); go_simp; first | done | with_reducible rfl)
    try simp only [Act.put, List.setIfInBounds_toArray, List.set_cons_zero, List.set_cons_succ]
    refine wpAnyH_ready (rs := [4, 24]) (by kernel_rfl) (by simp) ?_
    refine AllReadyH.cons rfl (fun K hK => ?_) ?_
    · go_simp
      refine hK.out _ _ ?_ (fun hHeld => ?_)
      · ((try dsimp only) <;> (first | (go_split_ands; exact ⟨by go_keep, by go_keep, by go_keep⟩) | exact ⟨(HS.out _ hb5').1, (HS.out _ hb5').2.1, (HS.out _ hb5').2.2.1⟩ | exact ⟨hK5.1, hK5.2.1, hK5.2.2.1⟩ | exact ⟨k6s, k61, k62⟩ | exact ⟨(World.cell?_setCell_other w6 ⟨rb, 3, none⟩ ⟨w.heap.size, 0, none⟩ _ (by simp)).trans k6s, (World.cell?_setCell_other w6 ⟨rb, 3, none⟩ ⟨rb, 1, none⟩ _ (by simp)).trans k61, (World.cell?_setCell_other w6 ⟨rb, 3, none⟩ ⟨rb, 2, none⟩ _ (by simp)).trans k62⟩))
      clear hK K
      refine wpAnyH_ready (rs := [24]) (by kernel_rfl) (by simp) ?_
      refine AllReadyH.cons rfl (fun K hK => ?_) ?_
      · (first | (go_simp; go_at_call 59; refine HC.out.mono ?_; rintro e w5 ⟨v5, rfl, hown5, hb5⟩; obtain ⟨A5, c5, rfl⟩ := own_slice hown5; have hb5' := hbd.trans hb5; have hsz5 := hb5'.size; have hO5 := own_below HO.out (hb1.trans (hb5'.mono (by omega))); have hb5a := hb5'.alloc hsz5 (.cells #[.string s.long, .slice A5 N c5] 62); have hK5 := HS.out _ hb5a; have k53 := (HS.out _ hb5').2.2.2.1; have k53a := hK5.2.2.2.1; dsimp only) | (refine step_append_lies _ (by rfl) _ _ _ (by rfl) base 62 i0 _ 2 40 Tryz.underlying55 hi hz0 hz1 hz2 rfl (by omega) ov m.length (m.flatMap encItm) (by rfl) (hO5.alloc _) ⟨w5.heap.size, 0, none⟩ 1 1 [.string s.long, .slice A5 N c5] (by rfl) (by rfl) (World.news_of_block (cs := #[.string s.long, .slice A5 N c5]) (t := 62) (fr := (0, 0)) (heap_alloc_new w5 _)) (by simp [Value.oneCell']) (by omega) (by unfold maxLen; omega) (by omega) (by simp; omega) (w5.heap.size + 1) (by simp) ?_; intro g6 cap6 w6 hown6 hgrow6 hat6 hlt6; have e6s := hgrow6.block w.heap.size (by simp; omega) hne2; have e6r := hgrow6.block rb (by simp; omega) hne1; have k6s := (World.cell?_of_block (w := w5.alloc (.cells #[.string s.long, .slice A5 N c5] 62)) (a := ⟨w.heap.size, 0, none⟩) e6s).trans hK5.1; have k61 := (World.cell?_of_block (w := w5.alloc (.cells #[.string s.long, .slice A5 N c5] 62)) (a := ⟨rb, 1, none⟩) e6r).trans hK5.2.1; have k62 := (World.cell?_of_block (w := w5.alloc (.cells #[.string s.long, .slice A5 N c5] 62)) (a := ⟨rb, 2, none⟩) e6r).trans hK5.2.2.1; have k63 := (World.cell?_of_block (w := w5.alloc (.cells #[.string s.long, .slice A5 N c5] 62)) (a := ⟨rb, 3, none⟩) e6r).trans hK5.2.2.2.1; have k64 := (World.frozen?_of_block (w := w5.alloc (.cells #[.string s.long, .slice A5 N c5] 62)) (a := ⟨rb, 3, none⟩) e6r).trans hK5.2.2.2.2))
        refine hK.out _ _ ?_ (fun hHeld => ?_)
        · ((try dsimp only) <;> (first | (go_split_ands; exact ⟨by go_keep, by go_keep, by go_keep⟩) | exact ⟨(HS.out _ hb5').1, (HS.out _ hb5').2.1, (HS.out _ hb5').2.2.1⟩ | exact ⟨hK5.1, hK5.2.1, hK5.2.2.1⟩ | exact ⟨k6s, k61, k62⟩ | exact ⟨(World.cell?_setCell_other w6 ⟨rb, 3, none⟩ ⟨w.heap.size, 0, none⟩ _ (by simp)).trans k6s, (World.cell?_setCell_other w6 ⟨rb, 3, none⟩ ⟨rb, 1, none⟩ _ (by simp)).trans k61, (World.cell?_setCell_other w6 ⟨rb, 3, none⟩ ⟨rb, 2, none⟩ _ (by simp)).trans k62⟩))
        clear hK K
        refine wpAnyH_take (i := 25) (v := ?_) rfl (by kernel_rfl) (by kernel_rfl) (by kernel_rfl) (fun _ _ _ h => h) (Or.inl ⟨by rfl, ?_⟩) (by assumption) ?_
        rotate_left
        · (intro w hSw; (try dsimp only at hSw); go_simp; first | done | with_reducible rfl)
        try simp only [Act.put, List.setIfInBounds_toArray, List.set_cons_zero, List.set_cons_succ]
        refine wpAnyH_ready (rs := [26]) (by kernel_rfl) (by simp) ?_
        refine AllReadyH.cons rfl (fun K hK => ?_) ?_
        · go_simp
          refine hK.out _ _ ?_ (fun hHeld => ?_)
          · ((try dsimp only) <;> (first | (go_split_ands; exact ⟨by go_keep, by go_keep, by go_keep⟩) | exact ⟨(HS.out _ hb5').1, (HS.out _ hb5').2.1, (HS.out _ hb5').2.2.1⟩ | exact ⟨hK5.1, hK5.2.1, hK5.2.2.1⟩ | exact ⟨k6s, k61, k62⟩ | exact ⟨(World.cell?_setCell_other w6 ⟨rb, 3, none⟩ ⟨w.heap.size, 0, none⟩ _ (by simp)).trans k6s, (World.cell?_setCell_other w6 ⟨rb, 3, none⟩ ⟨rb, 1, none⟩ _ (by simp)).trans k61, (World.cell?_setCell_other w6 ⟨rb, 3, none⟩ ⟨rb, 2, none⟩ _ (by simp)).trans k62⟩))
          clear hK K
          refine wpAnyH_ready (rs := [27]) (by kernel_rfl) (by simp) ?_
          refine AllReadyH.cons rfl (fun K hK => ?_) ?_
          · (first | (go_simp; go_at_call 59; refine HC.out.mono ?_; rintro e w5 ⟨v5, rfl, hown5, hb5⟩; obtain ⟨A5, c5, rfl⟩ := own_slice hown5; have hb5' := hbd.trans hb5; have hsz5 := hb5'.size; have hO5 := own_below HO.out (hb1.trans (hb5'.mono (by omega))); have hb5a := hb5'.alloc hsz5 (.cells #[.string s.long, .slice A5 N c5] 62); have hK5 := HS.out _ hb5a; have k53 := (HS.out _ hb5').2.2.2.1; have k53a := hK5.2.2.2.1; dsimp only) | (refine step_append_lies _ (by rfl) _ _ _ (by rfl) base 62 i0 _ 2 40 Tryz.underlying55 hi hz0 hz1 hz2 rfl (by omega) ov m.length (m.flatMap encItm) (by rfl) (hO5.alloc _) ⟨w5.heap.size, 0, none⟩ 1 1 [.string s.long, .slice A5 N c5] (by rfl) (by rfl) (World.news_of_block (cs := #[.string s.long, .slice A5 N c5]) (t := 62) (fr := (0, 0)) (heap_alloc_new w5 _)) (by simp [Value.oneCell']) (by omega) (by unfold maxLen; omega) (by omega) (by simp; omega) (w5.heap.size + 1) (by simp) ?_; intro g6 cap6 w6 hown6 hgrow6 hat6 hlt6; have e6s := hgrow6.block w.heap.size (by simp; omega) hne2; have e6r := hgrow6.block rb (by simp; omega) hne1; have k6s := (World.cell?_of_block (w := w5.alloc (.cells #[.string s.long, .slice A5 N c5] 62)) (a := ⟨w.heap.size, 0, none⟩) e6s).trans hK5.1; have k61 := (World.cell?_of_block (w := w5.alloc (.cells #[.string s.long, .slice A5 N c5] 62)) (a := ⟨rb, 1, none⟩) e6r).trans hK5.2.1; have k62 := (World.cell?_of_block (w := w5.alloc (.cells #[.string s.long, .slice A5 N c5] 62)) (a := ⟨rb, 2, none⟩) e6r).trans hK5.2.2.1; have k63 := (World.cell?_of_block (w := w5.alloc (.cells #[.string s.long, .slice A5 N c5] 62)) (a := ⟨rb, 3, none⟩) e6r).trans hK5.2.2.2.1; have k64 := (World.frozen?_of_block (w := w5.alloc (.cells #[.string s.long, .slice A5 N c5] 62)) (a := ⟨rb, 3, none⟩) e6r).trans hK5.2.2.2.2))
            refine hK.out _ _ ?_ (fun hHeld => ?_)
            · ((try dsimp only) <;> (first | (go_split_ands; exact ⟨by go_keep, by go_keep, by go_keep⟩) | exact ⟨(HS.out _ hb5').1, (HS.out _ hb5').2.1, (HS.out _ hb5').2.2.1⟩ | exact ⟨hK5.1, hK5.2.1, hK5.2.2.1⟩ | exact ⟨k6s, k61, k62⟩ | exact ⟨(World.cell?_setCell_other w6 ⟨rb, 3, none⟩ ⟨w.heap.size, 0, none⟩ _ (by simp)).trans k6s, (World.cell?_setCell_other w6 ⟨rb, 3, none⟩ ⟨rb, 1, none⟩ _ (by simp)).trans k61, (World.cell?_setCell_other w6 ⟨rb, 3, none⟩ ⟨rb, 2, none⟩ _ (by simp)).trans k62⟩))
            clear hK K
            refine wpAnyH_take (i := 28) (v := ?_) rfl (by kernel_rfl) (by kernel_rfl) (by kernel_rfl) (fun _ _ _ h => h) (Or.inl ⟨by rfl, ?_⟩) (by assumption) ?_
            rotate_left
            · (intro w hSw; (try dsimp only at hSw); go_simp; first | done | with_reducible rfl)
            try simp only [Act.put, List.setIfInBounds_toArray, List.set_cons_zero, List.set_cons_succ]
            refine wpAnyH_take (i := 29) (v := ?_) rfl (by kernel_rfl) (by kernel_rfl) (by kernel_rfl) (fun _ _ _ h => h) (Or.inl ⟨by rfl, ?_⟩) (by assumption) ?_
            rotate_left
            · (intro w hSw; (try dsimp only at hSw); go_simp; first | done | with_reducible rfl)
            try simp only [Act.put, List.setIfInBounds_toArray, List.set_cons_zero, List.set_cons_succ]
            refine wpAnyH_ready (rs := [30]) (by kernel_rfl) (by simp) ?_
            refine AllReadyH.cons rfl (fun K hK => ?_) ?_
            · go_simp
              refine hK.out _ _ ?_ (fun hHeld => ?_)
              · ((try dsimp only) <;> (first | (go_split_ands; exact ⟨by go_keep, by go_keep, by go_keep⟩) | exact ⟨(HS.out _ hb5').1, (HS.out _ hb5').2.1, (HS.out _ hb5').2.2.1⟩ | exact ⟨hK5.1, hK5.2.1, hK5.2.2.1⟩ | exact ⟨k6s, k61, k62⟩ | exact ⟨(World.cell?_setCell_other w6 ⟨rb, 3, none⟩ ⟨w.heap.size, 0, none⟩ _ (by simp)).trans k6s, (World.cell?_setCell_other w6 ⟨rb, 3, none⟩ ⟨rb, 1, none⟩ _ (by simp)).trans k61, (World.cell?_setCell_other w6 ⟨rb, 3, none⟩ ⟨rb, 2, none⟩ _ (by simp)).trans k62⟩))
              clear hK K
              refine wpAnyH_done (by kernel_rfl) ?_ _
              have hz6 : w6.heap[rb]? = some (.cells #[sv, .slice (some ⟨b, o, none⟩) ws.length c, .int .i64 (at' : Int), ov] 77 (0, 0)) := by rw [e6r, Below.heap_alloc _ _ _ (by omega), hb5'.block _ (by omega), hb1.block _ hrl]; exact hrb
              have hz7 := set_blk (j := 3) (v := .slice (some ⟨g6, 0, none⟩) (m.length + 1) cap6) hz6
              have hM5 : Mut base rb w (w5.alloc (.cells #[.string s.long, .slice A5 N c5] 62)) := mut_below (hb1.trans (hb5a.mono (by omega))) hb
              have hz5 : w5.heap[rb]? = some (.cells #[sv, .slice (some ⟨b, o, none⟩) ws.length c, .int .i64 (at' : Int), ov] 77 (0, 0)) := by rw [hb5'.block _ (by omega), hb1.block _ hrl]; exact hrb
              have hM56 : Mut base rb w5 w6 := (mut_below (rb := rb) ((Below.refl _ w5).alloc (Nat.le_refl _) (.cells #[.string s.long, .slice A5 N c5] 62)) (by omega)).trans (mut_grown (hO5.alloc _) hgrow6 (by simp; omega))
              have hM57 := hM56.trans (mut_set (j := 3) (v := .slice (some ⟨g6, 0, none⟩) (m.length + 1) cap6) hbr)
              have hnew : StrAt base w5 (.slice A5 N c5) vals := rowAt_own hown5 hlk.symm (strs_flat vals).symm (fun _ => rfl)
              have hM6 := hM5.trans (mut_grown (hO5.alloc _) hgrow6 (by simp; omega))
              have hM7 := hM6.trans (mut_set (j := 3) (v := .slice (some ⟨g6, 0, none⟩) (m.length + 1) cap6) hbr)
              simp only [List.setIfInBounds_toArray, List.set_cons_succ, List.set_cons_zero] at hz7
              have hz8 := set_blk (j := 2) (v := .int .i64 ((at' : Int) + (N : Int))) hz7
              simp only [List.setIfInBounds_toArray, List.set_cons_succ, List.set_cons_zero] at hz8
              have hM8 := hM7.trans (mut_set (j := 2) (v := .int .i64 ((at' : Int) + (N : Int))) hbr)
              have hM58 := hM57.trans (mut_set (j := 2) (v := .int .i64 ((at' : Int) + (N : Int))) hbr)
              have hne6 : (Value.slice (some ⟨g6, 0, none⟩) (m.length + 1) cap6).ownBlock ≠ some rb := own_ne hown6 (e6r.trans (by rw [Below.heap_alloc _ _ _ (by omega)]; exact hz5)) (by decide)
              have hown8 := (hown6.kept (grownBy_set w6 rb 3 (.slice (some ⟨g6, 0, none⟩) (m.length + 1) cap6)) (.inr hne6)).kept (grownBy_set _ rb 2 (.int .i64 ((at' : Int) + (N : Int)))) (.inr hne6)
              have hfin : Rd base rb S ws ((w6.setCell ⟨rb, 3, none⟩ (.slice (some ⟨g6, 0, none⟩) (m.length + 1) cap6)).setCell ⟨rb, 2, none⟩ (.int .i64 ((at' : Int) + (N : Int)))) (at' + N) (out ++ [(s.long, vals)]) ∧ Mut base rb w ((w6.setCell ⟨rb, 3, none⟩ (.slice (some ⟨g6, 0, none⟩) (m.length + 1) cap6)).setCell ⟨rb, 2, none⟩ (.int .i64 ((at' : Int) + (N : Int)))) := by
                refine ⟨⟨sv, .slice (some ⟨b, o, none⟩) ws.length c, .slice (some ⟨g6, 0, none⟩) (m.length + 1) cap6, m ++ [((s.long, vals), .slice A5 N c5)], ?_, hM8.row hrb (by decide) (by decide) hS, hM8.row hrb (by decide) (by decide) hW, hbr, ?_, ?_, ?_⟩, hM8⟩
                · rw [show ((at' + N : Nat) : Int) = (at' : Int) + (N : Int) from by omega]; exact hz8
                · rw [List.length_append, List.flatMap_append]; exact hown8
                · rw [List.map_append, hm]; rfl
                · intro y hy
                  rcases List.mem_append.1 hy with hy | hy
                  · exact ⟨hM8.row hrb (by decide) (by decide) (hV y hy).1, (hV y hy).2⟩
                  · rw [List.mem_singleton] at hy
                    subst hy
                    exact ⟨hM58.row hz5 (by decide) (by decide) hnew, own_tight hown5⟩
              have k72 : (w6.setCell ⟨rb, 3, none⟩ (.slice (some ⟨g6, 0, none⟩) (m.length + 1) cap6)).cell? ⟨rb, 2, none⟩ = some (.int .i64 (at' : Int)) := by simp [World.cell?, hz7]
              have k72f : (w6.setCell ⟨rb, 3, none⟩ (.slice (some ⟨g6, 0, none⟩) (m.length + 1) cap6)).frozen? ⟨rb, 2, none⟩ = false := by simp [World.frozen?, hz7]
              have q20 : IntKind.i64.wrap ((at' : Int) + (N : Int)) = (at' : Int) + (N : Int) := IntWalk.i64_in _ (by omega)
              have HF := Lib.hid hfin
              clear hM5 hM6 hM7 hz6 hz7 hM56 hM57 hnew hfin hz8 hM8 hM58 hne6 hown8 hz5
              generalize w6.setCell ⟨rb, 3, none⟩ (.slice (some ⟨g6, 0, none⟩) (m.length + 1) cap6) = w7 at *
              go_wp2
              all_goals
                refine bodyPost_ret (v := .bool true) (results_tmp (t := 4) rfl _ _ _) rfl ?_
                exact ⟨⟨rfl, HF.out.1⟩, HF.out.2⟩
            exact AllReadyH.nil
          exact AllReadyH.nil
        exact AllReadyH.nil
      exact AllReadyH.nil
    refine AllReadyH.cons rfl (fun K hK => ?_) ?_
    · (first | (go_simp; go_at_call 59; refine HC.out.mono ?_; rintro e w5 ⟨v5, rfl, hown5, hb5⟩; obtain ⟨A5, c5, rfl⟩ := own_slice hown5; have hb5' := hbd.trans hb5; have hsz5 := hb5'.size; have hO5 := own_below HO.out (hb1.trans (hb5'.mono (by omega))); have hb5a := hb5'.alloc hsz5 (.cells #[.string s.long, .slice A5 N c5] 62); have hK5 := HS.out _ hb5a; have k53 := (HS.out _ hb5').2.2.2.1; have k53a := hK5.2.2.2.1; dsimp only) | (refine step_append_lies _ (by rfl) _ _ _ (by rfl) base 62 i0 _ 2 40 Tryz.underlying55 hi hz0 hz1 hz2 rfl (by omega) ov m.length (m.flatMap encItm) (by rfl) (hO5.alloc _) ⟨w5.heap.size, 0, none⟩ 1 1 [.string s.long, .slice A5 N c5] (by rfl) (by rfl) (World.news_of_block (cs := #[.string s.long, .slice A5 N c5]) (t := 62) (fr := (0, 0)) (heap_alloc_new w5 _)) (by simp [Value.oneCell']) (by omega) (by unfold maxLen; omega) (by omega) (by simp; omega) (w5.heap.size + 1) (by simp) ?_; intro g6 cap6 w6 hown6 hgrow6 hat6 hlt6; have e6s := hgrow6.block w.heap.size (by simp; omega) hne2; have e6r := hgrow6.block rb (by simp; omega) hne1; have k6s := (World.cell?_of_block (w := w5.alloc (.cells #[.string s.long, .slice A5 N c5] 62)) (a := ⟨w.heap.size, 0, none⟩) e6s).trans hK5.1; have k61 := (World.cell?_of_block (w := w5.alloc (.cells #[.string s.long, .slice A5 N c5] 62)) (a := ⟨rb, 1, none⟩) e6r).trans hK5.2.1; have k62 := (World.cell?_of_block (w := w5.alloc (.cells #[.string s.long, .slice A5 N c5] 62)) (a := ⟨rb, 2, none⟩) e6r).trans hK5.2.2.1; have k63 := (World.cell?_of_block (w := w5.alloc (.cells #[.string s.long, .slice A5 N c5] 62)) (a := ⟨rb, 3, none⟩) e6r).trans hK5.2.2.2.1; have k64 := (World.frozen?_of_block (w := w5.alloc (.cells #[.string s.long, .slice A5 N c5] 62)) (a := ⟨rb, 3, none⟩) e6r).trans hK5.2.2.2.2))
      refine hK.out _ _ ?_ (fun hHeld => ?_)
      · ((try dsimp only) <;> (first | (go_split_ands; exact ⟨by go_keep, by go_keep, by go_keep⟩) | exact ⟨(HS.out _ hb5').1, (HS.out _ hb5').2.1, (HS.out _ hb5').2.2.1⟩ | exact ⟨hK5.1, hK5.2.1, hK5.2.2.1⟩ | exact ⟨k6s, k61, k62⟩ | exact ⟨(World.cell?_setCell_other w6 ⟨rb, 3, none⟩ ⟨w.heap.size, 0, none⟩ _ (by simp)).trans k6s, (World.cell?_setCell_other w6 ⟨rb, 3, none⟩ ⟨rb, 1, none⟩ _ (by simp)).trans k61, (World.cell?_setCell_other w6 ⟨rb, 3, none⟩ ⟨rb, 2, none⟩ _ (by simp)).trans k62⟩))
      clear hK K
      refine wpAnyH_take (i := 25) (v := ?_) rfl (by kernel_rfl) (by kernel_rfl) (by kernel_rfl) (fun _ _ _ h => h) (Or.inl ⟨by rfl, ?_⟩) (by assumption) ?_
      rotate_left
      · (intro w hSw; (try dsimp only at hSw); go_simp; first | done | with_reducible rfl)
      try simp only [Act.put, List.setIfInBounds_toArray, List.set_cons_zero, List.set_cons_succ]
      refine wpAnyH_ready (rs := [4, 26]) (by kernel_rfl) (by simp) ?_
      refine AllReadyH.cons rfl (fun K hK => ?_) ?_
      · go_simp
        refine hK.out _ _ ?_ (fun hHeld => ?_)
        · ((try dsimp only) <;> (first | (go_split_ands; exact ⟨by go_keep, by go_keep, by go_keep⟩) | exact ⟨(HS.out _ hb5').1, (HS.out _ hb5').2.1, (HS.out _ hb5').2.2.1⟩ | exact ⟨hK5.1, hK5.2.1, hK5.2.2.1⟩ | exact ⟨k6s, k61, k62⟩ | exact ⟨(World.cell?_setCell_other w6 ⟨rb, 3, none⟩ ⟨w.heap.size, 0, none⟩ _ (by simp)).trans k6s, (World.cell?_setCell_other w6 ⟨rb, 3, none⟩ ⟨rb, 1, none⟩ _ (by simp)).trans k61, (World.cell?_setCell_other w6 ⟨rb, 3, none⟩ ⟨rb, 2, none⟩ _ (by simp)).trans k62⟩))
        clear hK K
        refine wpAnyH_ready (rs := [26]) (by kernel_rfl) (by simp) ?_
        refine AllReadyH.cons rfl (fun K hK => ?_) ?_
        · go_simp
          refine hK.out _ _ ?_ (fun hHeld => ?_)
          · ((try dsimp only) <;> (first | (go_split_ands; exact ⟨by go_keep, by go_keep, by go_keep⟩) | exact ⟨(HS.out _ hb5').1, (HS.out _ hb5').2.1, (HS.out _ hb5').2.2.1⟩ | exact ⟨hK5.1, hK5.2.1, hK5.2.2.1⟩ | exact ⟨k6s, k61, k62⟩ | exact ⟨(World.cell?_setCell_other w6 ⟨rb, 3, none⟩ ⟨w.heap.size, 0, none⟩ _ (by simp)).trans k6s, (World.cell?_setCell_other w6 ⟨rb, 3, none⟩ ⟨rb, 1, none⟩ _ (by simp)).trans k61, (World.cell?_setCell_other w6 ⟨rb, 3, none⟩ ⟨rb, 2, none⟩ _ (by simp)).trans k62⟩))
          clear hK K
          refine wpAnyH_ready (rs := [27]) (by kernel_rfl) (by simp) ?_
          refine AllReadyH.cons rfl (fun K hK => ?_) ?_
          · (first | (go_simp; go_at_call 59; refine HC.out.mono ?_; rintro e w5 ⟨v5, rfl, hown5, hb5⟩; obtain ⟨A5, c5, rfl⟩ := own_slice hown5; have hb5' := hbd.trans hb5; have hsz5 := hb5'.size; have hO5 := own_below HO.out (hb1.trans (hb5'.mono (by omega))); have hb5a := hb5'.alloc hsz5 (.cells #[.string s.long, .slice A5 N c5] 62); have hK5 := HS.out _ hb5a; have k53 := (HS.out _ hb5').2.2.2.1; have k53a := hK5.2.2.2.1; dsimp only) | (refine step_append_lies _ (by rfl) _ _ _ (by rfl) base 62 i0 _ 2 40 Tryz.underlying55 hi hz0 hz1 hz2 rfl (by omega) ov m.length (m.flatMap encItm) (by rfl) (hO5.alloc _) ⟨w5.heap.size, 0, none⟩ 1 1 [.string s.long, .slice A5 N c5] (by rfl) (by rfl) (World.news_of_block (cs := #[.string s.long, .slice A5 N c5]) (t := 62) (fr := (0, 0)) (heap_alloc_new w5 _)) (by simp [Value.oneCell']) (by omega) (by unfold maxLen; omega) (by omega) (by simp; omega) (w5.heap.size + 1) (by simp) ?_; intro g6 cap6 w6 hown6 hgrow6 hat6 hlt6; have e6s := hgrow6.block w.heap.size (by simp; omega) hne2; have e6r := hgrow6.block rb (by simp; omega) hne1; have k6s := (World.cell?_of_block (w := w5.alloc (.cells #[.string s.long, .slice A5 N c5] 62)) (a := ⟨w.heap.size, 0, none⟩) e6s).trans hK5.1; have k61 := (World.cell?_of_block (w := w5.alloc (.cells #[.string s.long, .slice A5 N c5] 62)) (a := ⟨rb, 1, none⟩) e6r).trans hK5.2.1; have k62 := (World.cell?_of_block (w := w5.alloc (.cells #[.string s.long, .slice A5 N c5] 62)) (a := ⟨rb, 2, none⟩) e6r).trans hK5.2.2.1; have k63 := (World.cell?_of_block (w := w5.alloc (.cells #[.string s.long, .slice A5 N c5] 62)) (a := ⟨rb, 3, none⟩) e6r).trans hK5.2.2.2.1; have k64 := (World.frozen?_of_block (w := w5.alloc (.cells #[.string s.long, .slice A5 N c5] 62)) (a := ⟨rb, 3, none⟩) e6r).trans hK5.2.2.2.2))
            refine hK.out _ _ ?_ (fun hHeld => ?_)
            · ((try dsimp only) <;> (first | (go_split_ands; exact ⟨by go_keep, by go_keep, by go_keep⟩) | exact ⟨(HS.out _ hb5').1, (HS.out _ hb5').2.1, (HS.out _ hb5').2.2.1⟩ | exact ⟨hK5.1, hK5.2.1, hK5.2.2.1⟩ | exact ⟨k6s, k61, k62⟩ | exact ⟨(World.cell?_setCell_other w6 ⟨rb, 3, none⟩ ⟨w.heap.size, 0, none⟩ _ (by simp)).trans k6s, (World.cell?_setCell_other w6 ⟨rb, 3, none⟩ ⟨rb, 1, none⟩ _ (by simp)).trans k61, (World.cell?_setCell_other w6 ⟨rb, 3, none⟩ ⟨rb, 2, none⟩ _ (by simp)).trans k62⟩))
            clear hK K
            refine wpAnyH_take (i := 28) (v := ?_) rfl (by kernel_rfl) (by kernel_rfl) (by kernel_rfl) (fun _ _ _ h => h) (Or.inl ⟨by rfl, ?_⟩) (by assumption) ?_
            rotate_left
            · (intro w hSw; (try dsimp only at hSw); go_simp; first | done | with_reducible rfl)
            try simp only [Act.put, List.setIfInBounds_toArray, List.set_cons_zero, List.set_cons_succ]
            refine wpAnyH_take (i := 29) (v := ?_) rfl (by kernel_rfl) (by kernel_rfl) (by kernel_rfl) (fun _ _ _ h => h) (Or.inl ⟨by rfl, ?_⟩) (by assumption) ?_
            rotate_left
            · (intro w hSw; (try dsimp only at hSw); go_simp; first | done | with_reducible rfl)
            try simp only [Act.put, List.setIfInBounds_toArray, List.set_cons_zero, List.set_cons_succ]
            refine wpAnyH_ready (rs := [30]) (by kernel_rfl) (by simp) ?_
            refine AllReadyH.cons rfl (fun K hK => ?_) ?_
            · go_simp
              refine hK.out _ _ ?_ (fun hHeld => ?_)
              · ((try dsimp only) <;> (first | (go_split_ands; exact ⟨by go_keep, by go_keep, by go_keep⟩) | exact ⟨(HS.out _ hb5').1, (HS.out _ hb5').2.1, (HS.out _ hb5').2.2.1⟩ | exact ⟨hK5.1, hK5.2.1, hK5.2.2.1⟩ | exact ⟨k6s, k61, k62⟩ | exact ⟨(World.cell?_setCell_other w6 ⟨rb, 3, none⟩ ⟨w.heap.size, 0, none⟩ _ (by simp)).trans k6s, (World.cell?_setCell_other w6 ⟨rb, 3, none⟩ ⟨rb, 1, none⟩ _ (by simp)).trans k61, (World.cell?_setCell_other w6 ⟨rb, 3, none⟩ ⟨rb, 2, none⟩ _ (by simp)).trans k62⟩))
              clear hK K
              refine wpAnyH_done (by kernel_rfl) ?_ _
              have hz6 : w6.heap[rb]? = some (.cells #[sv, .slice (some ⟨b, o, none⟩) ws.length c, .int .i64 (at' : Int), ov] 77 (0, 0)) := by rw [e6r, Below.heap_alloc _ _ _ (by omega), hb5'.block _ (by omega), hb1.block _ hrl]; exact hrb
              have hz7 := set_blk (j := 3) (v := .slice (some ⟨g6, 0, none⟩) (m.length + 1) cap6) hz6
              have hM5 : Mut base rb w (w5.alloc (.cells #[.string s.long, .slice A5 N c5] 62)) := mut_below (hb1.trans (hb5a.mono (by omega))) hb
              have hz5 : w5.heap[rb]? = some (.cells #[sv, .slice (some ⟨b, o, none⟩) ws.length c, .int .i64 (at' : Int), ov] 77 (0, 0)) := by rw [hb5'.block _ (by omega), hb1.block _ hrl]; exact hrb
              have hM56 : Mut base rb w5 w6 := (mut_below (rb := rb) ((Below.refl _ w5).alloc (Nat.le_refl _) (.cells #[.string s.long, .slice A5 N c5] 62)) (by omega)).trans (mut_grown (hO5.alloc _) hgrow6 (by simp; omega))
              have hM57 := hM56.trans (mut_set (j := 3) (v := .slice (some ⟨g6, 0, none⟩) (m.length + 1) cap6) hbr)
              have hnew : StrAt base w5 (.slice A5 N c5) vals := rowAt_own hown5 hlk.symm (strs_flat vals).symm (fun _ => rfl)
              have hM6 := hM5.trans (mut_grown (hO5.alloc _) hgrow6 (by simp; omega))
              have hM7 := hM6.trans (mut_set (j := 3) (v := .slice (some ⟨g6, 0, none⟩) (m.length + 1) cap6) hbr)
              simp only [List.setIfInBounds_toArray, List.set_cons_succ, List.set_cons_zero] at hz7
              have hz8 := set_blk (j := 2) (v := .int .i64 ((at' : Int) + (N : Int))) hz7
              simp only [List.setIfInBounds_toArray, List.set_cons_succ, List.set_cons_zero] at hz8
              have hM8 := hM7.trans (mut_set (j := 2) (v := .int .i64 ((at' : Int) + (N : Int))) hbr)
              have hM58 := hM57.trans (mut_set (j := 2) (v := .int .i64 ((at' : Int) + (N : Int))) hbr)
              have hne6 : (Value.slice (some ⟨g6, 0, none⟩) (m.length + 1) cap6).ownBlock ≠ some rb := own_ne hown6 (e6r.trans (by rw [Below.heap_alloc _ _ _ (by omega)]; exact hz5)) (by decide)
              have hown8 := (hown6.kept (grownBy_set w6 rb 3 (.slice (some ⟨g6, 0, none⟩) (m.length + 1) cap6)) (.inr hne6)).kept (grownBy_set _ rb 2 (.int .i64 ((at' : Int) + (N : Int)))) (.inr hne6)
              have hfin : Rd base rb S ws ((w6.setCell ⟨rb, 3, none⟩ (.slice (some ⟨g6, 0, none⟩) (m.length + 1) cap6)).setCell ⟨rb, 2, none⟩ (.int .i64 ((at' : Int) + (N : Int)))) (at' + N) (out ++ [(s.long, vals)]) ∧ Mut base rb w ((w6.setCell ⟨rb, 3, none⟩ (.slice (some ⟨g6, 0, none⟩) (m.length + 1) cap6)).setCell ⟨rb, 2, none⟩ (.int .i64 ((at' : Int) + (N : Int)))) := by
                refine ⟨⟨sv, .slice (some ⟨b, o, none⟩) ws.length c, .slice (some ⟨g6, 0, none⟩) (m.length + 1) cap6, m ++ [((s.long, vals), .slice A5 N c5)], ?_, hM8.row hrb (by decide) (by decide) hS, hM8.row hrb (by decide) (by decide) hW, hbr, ?_, ?_, ?_⟩, hM8⟩
                · rw [show ((at' + N : Nat) : Int) = (at' : Int) + (N : Int) from by omega]; exact hz8
                · rw [List.length_append, List.flatMap_append]; exact hown8
                · rw [List.map_append, hm]; rfl
                · intro y hy
                  rcases List.mem_append.1 hy with hy | hy
                  · exact ⟨hM8.row hrb (by decide) (by decide) (hV y hy).1, (hV y hy).2⟩
                  · rw [List.mem_singleton] at hy
                    subst hy
                    exact ⟨hM58.row hz5 (by decide) (by decide) hnew, own_tight hown5⟩
              have k72 : (w6.setCell ⟨rb, 3, none⟩ (.slice (some ⟨g6, 0, none⟩) (m.length + 1) cap6)).cell? ⟨rb, 2, none⟩ = some (.int .i64 (at' : Int)) := by simp [World.cell?, hz7]
              have k72f : (w6.setCell ⟨rb, 3, none⟩ (.slice (some ⟨g6, 0, none⟩) (m.length + 1) cap6)).frozen? ⟨rb, 2, none⟩ = false := by simp [World.frozen?, hz7]
              have q20 : IntKind.i64.wrap ((at' : Int) + (N : Int)) = (at' : Int) + (N : Int) := IntWalk.i64_in _ (by omega)
              have HF := Lib.hid hfin
              clear hM5 hM6 hM7 hz6 hz7 hM56 hM57 hnew hfin hz8 hM8 hM58 hne6 hown8 hz5
              generalize w6.setCell ⟨rb, 3, none⟩ (.slice (some ⟨g6, 0, none⟩) (m.length + 1) cap6) = w7 at *
              go_wp2
              all_goals
                refine bodyPost_ret (v := .bool true) (results_tmp (t := 4) rfl _ _ _) rfl ?_
                exact ⟨⟨rfl, HF.out.1⟩, HF.out.2⟩
            exact AllReadyH.nil
          exact AllReadyH.nil
        exact AllReadyH.nil
      refine AllReadyH.cons rfl (fun K hK => ?_) ?_
      · go_simp
        refine hK.out _ _ ?_ (fun hHeld => ?_)
        · ((try dsimp only) <;> (first | (go_split_ands; exact ⟨by go_keep, by go_keep, by go_keep⟩) | exact ⟨(HS.out _ hb5').1, (HS.out _ hb5').2.1, (HS.out _ hb5').2.2.1⟩ | exact ⟨hK5.1, hK5.2.1, hK5.2.2.1⟩ | exact ⟨k6s, k61, k62⟩ | exact ⟨(World.cell?_setCell_other w6 ⟨rb, 3, none⟩ ⟨w.heap.size, 0, none⟩ _ (by simp)).trans k6s, (World.cell?_setCell_other w6 ⟨rb, 3, none⟩ ⟨rb, 1, none⟩ _ (by simp)).trans k61, (World.cell?_setCell_other w6 ⟨rb, 3, none⟩ ⟨rb, 2, none⟩ _ (by simp)).trans k62⟩))
        clear hK K
        refine wpAnyH_ready (rs := [4]) (by kernel_rfl) (by simp) ?_
        refine AllReadyH.cons rfl (fun K hK => ?_) ?_
        · go_simp
          refine hK.out _ _ ?_ (fun hHeld => ?_)
          · ((try dsimp only) <;> (first | (go_split_ands; exact ⟨by go_keep, by go_keep, by go_keep⟩) | exact ⟨(HS.out _ hb5').1, (HS.out _ hb5').2.1, (HS.out _ hb5').2.2.1⟩ | exact ⟨hK5.1, hK5.2.1, hK5.2.2.1⟩ | exact ⟨k6s, k61, k62⟩ | exact ⟨(World.cell?_setCell_other w6 ⟨rb, 3, none⟩ ⟨w.heap.size, 0, none⟩ _ (by simp)).trans k6s, (World.cell?_setCell_other w6 ⟨rb, 3, none⟩ ⟨rb, 1, none⟩ _ (by simp)).trans k61, (World.cell?_setCell_other w6 ⟨rb, 3, none⟩ ⟨rb, 2, none⟩ _ (by simp)).trans k62⟩))
          clear hK K
          refine wpAnyH_ready (rs := [27]) (by kernel_rfl) (by simp) ?_
          refine AllReadyH.cons rfl (fun K hK => ?_) ?_
          · (first | (go_simp; go_at_call 59; refine HC.out.mono ?_; rintro e w5 ⟨v5, rfl, hown5, hb5⟩; obtain ⟨A5, c5, rfl⟩ := own_slice hown5; have hb5' := hbd.trans hb5; have hsz5 := hb5'.size; have hO5 := own_below HO.out (hb1.trans (hb5'.mono (by omega))); have hb5a := hb5'.alloc hsz5 (.cells #[.string s.long, .slice A5 N c5] 62); have hK5 := HS.out _ hb5a; have k53 := (HS.out _ hb5').2.2.2.1; have k53a := hK5.2.2.2.1; dsimp only) | (refine step_append_lies _ (by rfl) _ _ _ (by rfl) base 62 i0 _ 2 40 Tryz.underlying55 hi hz0 hz1 hz2 rfl (by omega) ov m.length (m.flatMap encItm) (by rfl) (hO5.alloc _) ⟨w5.heap.size, 0, none⟩ 1 1 [.string s.long, .slice A5 N c5] (by rfl) (by rfl) (World.news_of_block (cs := #[.string s.long, .slice A5 N c5]) (t := 62) (fr := (0, 0)) (heap_alloc_new w5 _)) (by simp [Value.oneCell']) (by omega) (by unfold maxLen; omega) (by omega) (by simp; omega) (w5.heap.size + 1) (by simp) ?_; intro g6 cap6 w6 hown6 hgrow6 hat6 hlt6; have e6s := hgrow6.block w.heap.size (by simp; omega) hne2; have e6r := hgrow6.block rb (by simp; omega) hne1; have k6s := (World.cell?_of_block (w := w5.alloc (.cells #[.string s.long, .slice A5 N c5] 62)) (a := ⟨w.heap.size, 0, none⟩) e6s).trans hK5.1; have k61 := (World.cell?_of_block (w := w5.alloc (.cells #[.string s.long, .slice A5 N c5] 62)) (a := ⟨rb, 1, none⟩) e6r).trans hK5.2.1; have k62 := (World.cell?_of_block (w := w5.alloc (.cells #[.string s.long, .slice A5 N c5] 62)) (a := ⟨rb, 2, none⟩) e6r).trans hK5.2.2.1; have k63 := (World.cell?_of_block (w := w5.alloc (.cells #[.string s.long, .slice A5 N c5] 62)) (a := ⟨rb, 3, none⟩) e6r).trans hK5.2.2.2.1; have k64 := (World.frozen?_of_block (w := w5.alloc (.cells #[.string s.long, .slice A5 N c5] 62)) (a := ⟨rb, 3, none⟩) e6r).trans hK5.2.2.2.2))
            refine hK.out _ _ ?_ (fun hHeld => ?_)
            · ((try dsimp only) <;> (first | (go_split_ands; exact ⟨by go_keep, by go_keep, by go_keep⟩) | exact ⟨(HS.out _ hb5').1, (HS.out _ hb5').2.1, (HS.out _ hb5').2.2.1⟩ | exact ⟨hK5.1, hK5.2.1, hK5.2.2.1⟩ | exact ⟨k6s, k61, k62⟩ | exact ⟨(World.cell?_setCell_other w6 ⟨rb, 3, none⟩ ⟨w.heap.size, 0, none⟩ _ (by simp)).trans k6s, (World.cell?_setCell_other w6 ⟨rb, 3, none⟩ ⟨rb, 1, none⟩ _ (by simp)).trans k61, (World.cell?_setCell_other w6 ⟨rb, 3, none⟩ ⟨rb, 2, none⟩ _ (by simp)).trans k62⟩))
            clear hK K
            refine wpAnyH_take (i := 28) (v := ?_) rfl (by kernel_rfl) (by kernel_rfl) (by kernel_rfl) (fun _ _ _ h => h) (Or.inl ⟨by rfl, ?_⟩) (by assumption) ?_
            rotate_left
            · (intro w hSw; (try dsimp only at hSw); go_simp; first | done | with_reducible rfl)
            try simp only [Act.put, List.setIfInBounds_toArray, List.set_cons_zero, List.set_cons_succ]
            refine wpAnyH_take (i := 29) (v := ?_) rfl (by kernel_rfl) (by kernel_rfl) (by kernel_rfl) (fun _ _ _ h => h) (Or.inl ⟨by rfl, ?_⟩) (by assumption) ?_
            rotate_left
            · (intro w hSw; (try dsimp only at hSw); go_simp; first | done | with_reducible rfl)
            try simp only [Act.put, List.setIfInBounds_toArray, List.set_cons_zero, List.set_cons_succ]
            refine wpAnyH_ready (rs := [30]) (by kernel_rfl) (by simp) ?_
            refine AllReadyH.cons rfl (fun K hK => ?_) ?_
            · go_simp
              refine hK.out _ _ ?_ (fun hHeld => ?_)
              · ((try dsimp only) <;> (first | (go_split_ands; exact ⟨by go_keep, by go_keep, by go_keep⟩) | exact ⟨(HS.out _ hb5').1, (HS.out _ hb5').2.1, (HS.out _ hb5').2.2.1⟩ | exact ⟨hK5.1, hK5.2.1, hK5.2.2.1⟩ | exact ⟨k6s, k61, k62⟩ | exact ⟨(World.cell?_setCell_other w6 ⟨rb, 3, none⟩ ⟨w.heap.size, 0, none⟩ _ (by simp)).trans k6s, (World.cell?_setCell_other w6 ⟨rb, 3, none⟩ ⟨rb, 1, none⟩ _ (by simp)).trans k61, (World.cell?_setCell_other w6 ⟨rb, 3, none⟩ ⟨rb, 2, none⟩ _ (by simp)).trans k62⟩))
              clear hK K
              refine wpAnyH_done (by kernel_rfl) ?_ _
              have hz6 : w6.heap[rb]? = some (.cells #[sv, .slice (some ⟨b, o, none⟩) ws.length c, .int .i64 (at' : Int), ov] 77 (0, 0)) := by rw [e6r, Below.heap_alloc _ _ _ (by omega), hb5'.block _ (by omega), hb1.block _ hrl]; exact hrb
              have hz7 := set_blk (j := 3) (v := .slice (some ⟨g6, 0, none⟩) (m.length + 1) cap6) hz6
              have hM5 : Mut base rb w (w5.alloc (.cells #[.string s.long, .slice A5 N c5] 62)) := mut_below (hb1.trans (hb5a.mono (by omega))) hb
              have hz5 : w5.heap[rb]? = some (.cells #[sv, .slice (some ⟨b, o, none⟩) ws.length c, .int .i64 (at' : Int), ov] 77 (0, 0)) := by rw [hb5'.block _ (by omega), hb1.block _ hrl]; exact hrb
              have hM56 : Mut base rb w5 w6 := (mut_below (rb := rb) ((Below.refl _ w5).alloc (Nat.le_refl _) (.cells #[.string s.long, .slice A5 N c5] 62)) (by omega)).trans (mut_grown (hO5.alloc _) hgrow6 (by simp; omega))
              have hM57 := hM56.trans (mut_set (j := 3) (v := .slice (some ⟨g6, 0, none⟩) (m.length + 1) cap6) hbr)
              have hnew : StrAt base w5 (.slice A5 N c5) vals := rowAt_own hown5 hlk.symm (strs_flat vals).symm (fun _ => rfl)
              have hM6 := hM5.trans (mut_grown (hO5.alloc _) hgrow6 (by simp; omega))
              have hM7 := hM6.trans (mut_set (j := 3) (v := .slice (some ⟨g6, 0, none⟩) (m.length + 1) cap6) hbr)
              simp only [List.setIfInBounds_toArray, List.set_cons_succ, List.set_cons_zero] at hz7
              have hz8 := set_blk (j := 2) (v := .int .i64 ((at' : Int) + (N : Int))) hz7
              simp only [List.setIfInBounds_toArray, List.set_cons_succ, List.set_cons_zero] at hz8
              have hM8 := hM7.trans (mut_set (j := 2) (v := .int .i64 ((at' : Int) + (N : Int))) hbr)
              have hM58 := hM57.trans (mut_set (j := 2) (v := .int .i64 ((at' : Int) + (N : Int))) hbr)
              have hne6 : (Value.slice (some ⟨g6, 0, none⟩) (m.length + 1) cap6).ownBlock ≠ some rb := own_ne hown6 (e6r.trans (by rw [Below.heap_alloc _ _ _ (by omega)]; exact hz5)) (by decide)
              have hown8 := (hown6.kept (grownBy_set w6 rb 3 (.slice (some ⟨g6, 0, none⟩) (m.length + 1) cap6)) (.inr hne6)).kept (grownBy_set _ rb 2 (.int .i64 ((at' : Int) + (N : Int)))) (.inr hne6)
              have hfin : Rd base rb S ws ((w6.setCell ⟨rb, 3, none⟩ (.slice (some ⟨g6, 0, none⟩) (m.length + 1) cap6)).setCell ⟨rb, 2, none⟩ (.int .i64 ((at' : Int) + (N : Int)))) (at' + N) (out ++ [(s.long, vals)]) ∧ Mut base rb w ((w6.setCell ⟨rb, 3, none⟩ (.slice (some ⟨g6, 0, none⟩) (m.length + 1) cap6)).setCell ⟨rb, 2, none⟩ (.int .i64 ((at' : Int) + (N : Int)))) := by
                refine ⟨⟨sv, .slice (some ⟨b, o, none⟩) ws.length c, .slice (some ⟨g6, 0, none⟩) (m.length + 1) cap6, m ++ [((s.long, vals), .slice A5 N c5)], ?_, hM8.row hrb (by decide) (by decide) hS, hM8.row hrb (by decide) (by decide) hW, hbr, ?_, ?_, ?_⟩, hM8⟩
                · rw [show ((at' + N : Nat) : Int) = (at' : Int) + (N : Int) from by omega]; exact hz8
                · rw [List.length_append, List.flatMap_append]; exact hown8
                · rw [List.map_append, hm]; rfl
                · intro y hy
                  rcases List.mem_append.1 hy with hy | hy
                  · exact ⟨hM8.row hrb (by decide) (by decide) (hV y hy).1, (hV y hy).2⟩
                  · rw [List.mem_singleton] at hy
                    subst hy
                    exact ⟨hM58.row hz5 (by decide) (by decide) hnew, own_tight hown5⟩
              have k72 : (w6.setCell ⟨rb, 3, none⟩ (.slice (some ⟨g6, 0, none⟩) (m.length + 1) cap6)).cell? ⟨rb, 2, none⟩ = some (.int .i64 (at' : Int)) := by simp [World.cell?, hz7]
              have k72f : (w6.setCell ⟨rb, 3, none⟩ (.slice (some ⟨g6, 0, none⟩) (m.length + 1) cap6)).frozen? ⟨rb, 2, none⟩ = false := by simp [World.frozen?, hz7]
              have q20 : IntKind.i64.wrap ((at' : Int) + (N : Int)) = (at' : Int) + (N : Int) := IntWalk.i64_in _ (by omega)
              have HF := Lib.hid hfin
              clear hM5 hM6 hM7 hz6 hz7 hM56 hM57 hnew hfin hz8 hM8 hM58 hne6 hown8 hz5
              generalize w6.setCell ⟨rb, 3, none⟩ (.slice (some ⟨g6, 0, none⟩) (m.length + 1) cap6) = w7 at *
              go_wp2
              all_goals
                refine bodyPost_ret (v := .bool true) (results_tmp (t := 4) rfl _ _ _) rfl ?_
                exact ⟨⟨rfl, HF.out.1⟩, HF.out.2⟩
            exact AllReadyH.nil
          exact AllReadyH.nil
        exact AllReadyH.nil
      exact AllReadyH.nil
    exact AllReadyH.nil
  · rw [if_neg hfit]
    have hcmp : (ws.length : Int) - (at' : Int) - 1 < (N : Int) := by omega
    go_enter Tryz.func47, Tryz.ntmps47
    go_wp2
    go_quiet (fail)
    go_wp2
    go_ret
    exact ⟨rfl, mut_below (below_drewN hb0 _) hb⟩

end Go.Proofs.YtnmlmbgaljnjeaaGreatDoor
