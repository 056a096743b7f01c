/- altcli's fill, as one contract; which items words are. Conditions: as ask's. -/
import Derived.Test.YtnmlmbgaljnjeaaGreatDoorFilli
set_option linter.unusedVariables false
set_option linter.unusedSimpArgs false
namespace Go.Proofs.YtnmlmbgaljnjeaaGreatDoor
open Go.RowKit

structure FillR where
  kind : Int
  ck : Int
  ask : Ask
  cn : ByteArray
  cp : ByteArray
  nm : ByteArray
  err : Int
def installB : ByteArray := ⟨#[105, 110, 115, 116, 97, 108, 108]⟩
def removeB : ByteArray := ⟨#[114, 101, 109, 111, 118, 101]⟩
def remove_allB : ByteArray := ⟨#[114, 101, 109, 111, 118, 101, 45, 97, 108, 108]⟩
def setB : ByteArray := ⟨#[115, 101, 116]⟩
def autoB : ByteArray := ⟨#[97, 117, 116, 111]⟩
def displayB : ByteArray := ⟨#[100, 105, 115, 112, 108, 97, 121]⟩
def queryB : ByteArray := ⟨#[113, 117, 101, 114, 121]⟩
def listB : ByteArray := ⟨#[108, 105, 115, 116]⟩
def get_selectionsB : ByteArray := ⟨#[103, 101, 116, 45, 115, 101, 108, 101, 99, 116, 105, 111, 110, 115]⟩
def set_selectionsB : ByteArray := ⟨#[115, 101, 116, 45, 115, 101, 108, 101, 99, 116, 105, 111, 110, 115]⟩
/-- what a command fills in -/
def afill (l : List Itm) (x : Itm) : FillR :=
  if x.1 = installB then ⟨1, 1, (aask l x.2).1, ⟨#[]⟩, ⟨#[]⟩, ⟨#[]⟩, (aask l x.2).2⟩
  else if x.1 = removeB then ⟨1, 2, ask0, x.2.getD 0 ⟨#[]⟩, x.2.getD 1 ⟨#[]⟩, ⟨#[]⟩, 0⟩
  else if x.1 = remove_allB then ⟨1, 3, ask0, x.2.getD 0 ⟨#[]⟩, ⟨#[]⟩, ⟨#[]⟩, 0⟩
  else if x.1 = setB then ⟨1, 4, ask0, x.2.getD 0 ⟨#[]⟩, x.2.getD 1 ⟨#[]⟩, ⟨#[]⟩, 0⟩
  else if x.1 = autoB then ⟨1, 5, ask0, x.2.getD 0 ⟨#[]⟩, ⟨#[]⟩, ⟨#[]⟩, 0⟩
  else if x.1 = displayB then ⟨2, 0, ask0, ⟨#[]⟩, ⟨#[]⟩, x.2.getD 0 ⟨#[]⟩, 0⟩
  else if x.1 = queryB then ⟨3, 0, ask0, ⟨#[]⟩, ⟨#[]⟩, x.2.getD 0 ⟨#[]⟩, 0⟩
  else if x.1 = listB then ⟨4, 0, ask0, ⟨#[]⟩, ⟨#[]⟩, x.2.getD 0 ⟨#[]⟩, 0⟩
  else if x.1 = get_selectionsB then ⟨5, 0, ask0, ⟨#[]⟩, ⟨#[]⟩, ⟨#[]⟩, 0⟩
  else ⟨6, 0, ask0, ⟨#[]⟩, ⟨#[]⟩, ⟨#[]⟩, 0⟩
/-- an item that a command is, with as many values as it has -/
def CmdItm (x : Itm) : Prop := (x.1 = installB ∧ x.2.length = 4) ∨ (x.1 = removeB ∧ x.2.length = 2) ∨ (x.1 = remove_allB ∧ x.2.length = 1) ∨ (x.1 = setB ∧ x.2.length = 2) ∨ (x.1 = autoB ∧ x.2.length = 1) ∨ (x.1 = displayB ∧ x.2.length = 1) ∨ (x.1 = queryB ∧ x.2.length = 1) ∨ (x.1 = listB ∧ x.2.length = 1) ∨ (x.1 = get_selectionsB ∧ x.2.length = 0) ∨ (x.1 = set_selectionsB ∧ x.2.length = 0)
theorem len2 {α : Type} {l : List α} (h : l.length = 2) : ∃ a b, l = [a, b] := by
  match l, h with
  | [a, b], _ => exact ⟨a, b, rfl⟩
theorem len1 {α : Type} {l : List α} (h : l.length = 1) : ∃ a, l = [a] := by
  match l, h with
  | [a], _ => exact ⟨a, rfl⟩

theorem cli_fill (lo cb : Nat) (lv xv : Value) (l : List Itm) (x : Itm) (te : TypeId) (pe : Value) (adm alt : ByteArray) (sim qui : Bool) (w : World)
    (hcb : w.heap[cb]? = some (.cells (cmdCells 0 adm alt 0 ⟨#[]⟩ ⟨#[]⟩ ⟨#[]⟩ 0 (.slice none 0 0) (.slice none 0 0) ⟨#[]⟩ ⟨#[]⟩ ⟨#[]⟩ sim qui) 39 (0, 0)))
    (hl : l.length ≤ 1073741824) (hv : ItmAt lo w lv l) (hvv : StrAt lo w xv x.2) (hlo : lo ≤ cb) (hx : CmdItm x) (hsz : ∀ s ∈ x.2, s.size ≤ 1099511627776)
    (h3 : ∀ x ∈ l, isSlave x = true → x.2.length = 3) (hg : w.cell? ⟨2, 0, none⟩ = some (.iface te pe)) :
    Calls Tryz.prog 17 #[.pointer (some ⟨cb, 0, none⟩), lv, .agg #[.string x.1, xv]] w fun e w' =>
      ∃ sv fv, e = .returned (.int .i64 (afill l x).err) ∧ w'.heap[cb]? = some (.cells (cmdCells (afill l x).kind adm alt (afill l x).ck (afill l x).ask.name (afill l x).ask.link (afill l x).ask.path (afill l x).ask.prio sv fv (afill l x).cn (afill l x).cp (afill l x).nm sim qui) 39 (0, 0)) ∧
        SlvAt 0 w' sv (afill l x).ask.slaves ∧ StrAt 0 w' fv (afill l x).ask.files ∧ w.grownBy w' (some cb) := by
  obtain ⟨xn, xs⟩ := x
  have hbc : ∀ b, Stays 9 lo w b → b ≠ cb := by
    rintro b (h | ⟨c1, z1, h⟩) rfl
    · omega
    · rw [hcb] at h; cases h
  obtain ⟨A, c, rfl, hc, hA⟩ := id hvv
  dsimp only at hvv hx hsz hA hc ⊢
  rcases hx with ⟨h, hn⟩ | ⟨h, hn⟩ | ⟨h, hn⟩ | ⟨h, hn⟩ | ⟨h, hn⟩ | ⟨h, hn⟩ | ⟨h, hn⟩ | ⟨h, hn⟩ | ⟨h, hn⟩ | ⟨h, hn⟩
  · dsimp only at h hn
    subst h
    obtain ⟨b, o, rfl, _, _, _⟩ := hA (by intro h; rw [h] at hn; simp at hn)
    rw [hn] at hvv ⊢
    refine (fill_install lo cb lv b o c l xs te pe adm alt sim qui w hcb hl hv hvv hlo hn hsz h3 hg).mono ?_
    rintro e w' ⟨sv, fv, h1, h2, h3, h4, h5⟩
    have hf : afill l (installB, xs) = ⟨1, 1, (aask l xs).1, ⟨#[]⟩, ⟨#[]⟩, ⟨#[]⟩, (aask l xs).2⟩ := by rw [afill, if_pos rfl]
    rw [hf]
    exact ⟨sv, fv, h1, h2, h3, h4, h5⟩
  · dsimp only at h hn
    subst h
    obtain ⟨s0, s1, rfl⟩ := len2 hn
    have hf : afill l (removeB, [s0, s1]) = ⟨1, 2, ask0, s0, s1, ⟨#[]⟩, 0⟩ := by unfold afill; dsimp only; rw [if_neg (by decide), if_pos rfl]; try rfl
    rw [hf]
    obtain ⟨b, o, rfl, hb, hst, hcl⟩ := hA (by simp)
    refine (fill_remove cb lv b o c s0 s1 adm alt sim qui w hcb hb (hbc b hst) (by simpa using hcl 0 s0 rfl 0 _ rfl) (by simpa using hcl 1 s1 rfl 0 _ rfl)).mono ?_
    rintro e w' ⟨h1, h2, h3⟩
    exact ⟨_, _, h1, h2, rowAt_nil _ _ _ _ _ _ _, rowAt_nil _ _ _ _ _ _ _, h3⟩
  · dsimp only at h hn
    subst h
    obtain ⟨s0, rfl⟩ := len1 hn
    have hf : afill l (remove_allB, [s0]) = ⟨1, 3, ask0, s0, ⟨#[]⟩, ⟨#[]⟩, 0⟩ := by unfold afill; dsimp only; rw [if_neg (by decide), if_neg (by decide), if_pos rfl]; try rfl
    rw [hf]
    obtain ⟨b, o, rfl, hb, hst, hcl⟩ := hA (by simp)
    refine (fill_remove_all cb lv b o c s0 adm alt sim qui w hcb hb (hbc b hst) (by simpa using hcl 0 s0 rfl 0 _ rfl)).mono ?_
    rintro e w' ⟨h1, h2, h3⟩
    exact ⟨_, _, h1, h2, rowAt_nil _ _ _ _ _ _ _, rowAt_nil _ _ _ _ _ _ _, h3⟩
  · dsimp only at h hn
    subst h
    obtain ⟨s0, s1, rfl⟩ := len2 hn
    have hf : afill l (setB, [s0, s1]) = ⟨1, 4, ask0, s0, s1, ⟨#[]⟩, 0⟩ := by unfold afill; dsimp only; rw [if_neg (by decide), if_neg (by decide), if_neg (by decide), if_pos rfl]; try rfl
    rw [hf]
    obtain ⟨b, o, rfl, hb, hst, hcl⟩ := hA (by simp)
    refine (fill_set cb lv b o c s0 s1 adm alt sim qui w hcb hb (hbc b hst) (by simpa using hcl 0 s0 rfl 0 _ rfl) (by simpa using hcl 1 s1 rfl 0 _ rfl)).mono ?_
    rintro e w' ⟨h1, h2, h3⟩
    exact ⟨_, _, h1, h2, rowAt_nil _ _ _ _ _ _ _, rowAt_nil _ _ _ _ _ _ _, h3⟩
  · dsimp only at h hn
    subst h
    obtain ⟨s0, rfl⟩ := len1 hn
    have hf : afill l (autoB, [s0]) = ⟨1, 5, ask0, s0, ⟨#[]⟩, ⟨#[]⟩, 0⟩ := by unfold afill; dsimp only; rw [if_neg (by decide), if_neg (by decide), if_neg (by decide), if_neg (by decide), if_pos rfl]; try rfl
    rw [hf]
    obtain ⟨b, o, rfl, hb, hst, hcl⟩ := hA (by simp)
    refine (fill_auto cb lv b o c s0 adm alt sim qui w hcb hb (hbc b hst) (by simpa using hcl 0 s0 rfl 0 _ rfl)).mono ?_
    rintro e w' ⟨h1, h2, h3⟩
    exact ⟨_, _, h1, h2, rowAt_nil _ _ _ _ _ _ _, rowAt_nil _ _ _ _ _ _ _, h3⟩
  · dsimp only at h hn
    subst h
    obtain ⟨s0, rfl⟩ := len1 hn
    have hf : afill l (displayB, [s0]) = ⟨2, 0, ask0, ⟨#[]⟩, ⟨#[]⟩, s0, 0⟩ := by unfold afill; dsimp only; rw [if_neg (by decide), if_neg (by decide), if_neg (by decide), if_neg (by decide), if_neg (by decide), if_pos rfl]; try rfl
    rw [hf]
    obtain ⟨b, o, rfl, hb, hst, hcl⟩ := hA (by simp)
    refine (fill_display cb lv b o c s0 adm alt sim qui w hcb hb (hbc b hst) (by simpa using hcl 0 s0 rfl 0 _ rfl)).mono ?_
    rintro e w' ⟨h1, h2, h3⟩
    exact ⟨_, _, h1, h2, rowAt_nil _ _ _ _ _ _ _, rowAt_nil _ _ _ _ _ _ _, h3⟩
  · dsimp only at h hn
    subst h
    obtain ⟨s0, rfl⟩ := len1 hn
    have hf : afill l (queryB, [s0]) = ⟨3, 0, ask0, ⟨#[]⟩, ⟨#[]⟩, s0, 0⟩ := by unfold afill; dsimp only; rw [if_neg (by decide), if_neg (by decide), if_neg (by decide), if_neg (by decide), if_neg (by decide), if_neg (by decide), if_pos rfl]; try rfl
    rw [hf]
    obtain ⟨b, o, rfl, hb, hst, hcl⟩ := hA (by simp)
    refine (fill_query cb lv b o c s0 adm alt sim qui w hcb hb (hbc b hst) (by simpa using hcl 0 s0 rfl 0 _ rfl)).mono ?_
    rintro e w' ⟨h1, h2, h3⟩
    exact ⟨_, _, h1, h2, rowAt_nil _ _ _ _ _ _ _, rowAt_nil _ _ _ _ _ _ _, h3⟩
  · dsimp only at h hn
    subst h
    obtain ⟨s0, rfl⟩ := len1 hn
    have hf : afill l (listB, [s0]) = ⟨4, 0, ask0, ⟨#[]⟩, ⟨#[]⟩, s0, 0⟩ := by unfold afill; dsimp only; rw [if_neg (by decide), if_neg (by decide), if_neg (by decide), if_neg (by decide), if_neg (by decide), if_neg (by decide), if_neg (by decide), if_pos rfl]; try rfl
    rw [hf]
    obtain ⟨b, o, rfl, hb, hst, hcl⟩ := hA (by simp)
    refine (fill_list cb lv b o c s0 adm alt sim qui w hcb hb (hbc b hst) (by simpa using hcl 0 s0 rfl 0 _ rfl)).mono ?_
    rintro e w' ⟨h1, h2, h3⟩
    exact ⟨_, _, h1, h2, rowAt_nil _ _ _ _ _ _ _, rowAt_nil _ _ _ _ _ _ _, h3⟩
  · dsimp only at h hn
    subst h
    obtain rfl : xs = [] := List.eq_nil_of_length_eq_zero hn
    have hf : afill l (get_selectionsB, []) = ⟨5, 0, ask0, ⟨#[]⟩, ⟨#[]⟩, ⟨#[]⟩, 0⟩ := by unfold afill; dsimp only; rw [if_neg (by decide), if_neg (by decide), if_neg (by decide), if_neg (by decide), if_neg (by decide), if_neg (by decide), if_neg (by decide), if_neg (by decide), if_pos rfl]; try rfl
    rw [hf]
    refine (fill_get_selections cb lv A c adm alt sim qui w hcb).mono ?_
    rintro e w' ⟨h1, h2, h3⟩
    exact ⟨_, _, h1, h2, rowAt_nil _ _ _ _ _ _ _, rowAt_nil _ _ _ _ _ _ _, h3⟩
  · dsimp only at h hn
    subst h
    obtain rfl : xs = [] := List.eq_nil_of_length_eq_zero hn
    have hf : afill l (set_selectionsB, []) = ⟨6, 0, ask0, ⟨#[]⟩, ⟨#[]⟩, ⟨#[]⟩, 0⟩ := by unfold afill; dsimp only; rw [if_neg (by decide), if_neg (by decide), if_neg (by decide), if_neg (by decide), if_neg (by decide), if_neg (by decide), if_neg (by decide), if_neg (by decide), if_neg (by decide)]; try rfl
    rw [hf]
    refine (fill_set_selections cb lv A c adm alt sim qui w hcb).mono ?_
    rintro e w' ⟨h1, h2, h3⟩
    exact ⟨_, _, h1, h2, rowAt_nil _ _ _ _ _ _ _, rowAt_nil _ _ _ _ _ _ _, h3⟩

end Go.Proofs.YtnmlmbgaljnjeaaGreatDoor
