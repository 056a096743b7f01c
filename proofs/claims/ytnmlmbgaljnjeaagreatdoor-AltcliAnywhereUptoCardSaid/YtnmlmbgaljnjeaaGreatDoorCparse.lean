/- altcli.Parse. Conditions: fewer than 2^20 words, each shorter than 2^20, together below 2^30; strconv.ErrRange holds an error. -/
import Derived.Test.YtnmlmbgaljnjeaaGreatDoorCwell
set_option linter.unusedVariables false
set_option linter.unusedSimpArgs false
namespace Go.Proofs.YtnmlmbgaljnjeaaGreatDoor
open Go.RowKit

structure Cm where
  kind : Int
  adm : ByteArray
  alt : ByteArray
  ck : Int
  ask : Ask
  cn : ByteArray
  cp : ByteArray
  nm : ByteArray
  sim : Bool
  qui : Bool
def admindirB : ByteArray := ⟨#[97, 100, 109, 105, 110, 100, 105, 114]⟩
def altdirB : ByteArray := ⟨#[97, 108, 116, 100, 105, 114]⟩
def simulateB : ByteArray := ⟨#[115, 105, 109, 117, 108, 97, 116, 101]⟩
def quietB : ByteArray := ⟨#[113, 117, 105, 101, 116]⟩
def varlibB : ByteArray := ⟨#[47, 118, 97, 114, 47, 108, 105, 98, 47, 97, 108, 116, 101, 114, 110, 97, 116, 105, 118, 101, 115]⟩
def etcaltB : ByteArray := ⟨#[47, 101, 116, 99, 47, 97, 108, 116, 101, 114, 110, 97, 116, 105, 118, 101, 115]⟩
/-- the command of items -/
def acmd (l : List Itm) (x : Itm) : Cm :=
  ⟨(afill l x).kind, alast l admindirB varlibB, alast l altdirB etcaltB, (afill l x).ck, (afill l x).ask, (afill l x).cn, (afill l x).cp, (afill l x).nm, ahas l simulateB, ahas l quietB⟩
/-- how items may be no command -/
def abad (l : List Itm) (x : Itm) : Prop := avalues l ⟨#[]⟩ ≠ [] ∨ (ahas l slaveB = true ∧ x.1 ≠ installB)
instance (l : List Itm) (x : Itm) : Decidable (abad l x) := by unfold abad; infer_instance
/-- what words say; or which is wrong, and an error's number -/
def acli (ws : List ByteArray) : Except (Nat × Int) Cm :=
  match aparse aspecs 0 ws with
  | .error k => .error (k, 19)
  | .ok l => match acommands l with
    | [x] => if abad l x then .error (ws.length, 19) else if (afill l x).err ≠ 0 then .error (ws.length, (afill l x).err) else .ok (acmd l x)
    | _ => .error (ws.length, 19)

def zeroCmd : Array Value := cmdCells 0 ⟨#[]⟩ ⟨#[]⟩ 0 ⟨#[]⟩ ⟨#[]⟩ ⟨#[]⟩ 0 (.slice none 0 0) (.slice none 0 0) ⟨#[]⟩ ⟨#[]⟩ ⟨#[]⟩ false false
/-- v is a command's value -/
def CmAt (w : World) (v : Value) (c : Cm) : Prop :=
  ∃ sv fv, v = .agg (cmdCells c.kind c.adm c.alt c.ck c.ask.name c.ask.link c.ask.path c.ask.prio sv fv c.cn c.cp c.nm c.sim c.qui) ∧ SlvAt w.heap.size w sv c.ask.slaves ∧ StrAt w.heap.size w fv c.ask.files
def CliPost (ws : List ByteArray) (w : World) (e : Ending) (w' : World) : Prop :=
  (match acli ws with
   | .error k => e = .returned (.tuple #[.agg zeroCmd, .int .i64 (k.1 : Int), .int .i64 k.2])
   | .ok c => ∃ v, e = .returned (.tuple #[v, .int .i64 (-1), .int .i64 0]) ∧ CmAt w' v c) ∧ Below w.heap.size w w'

theorem rowAt_top {α : Type} {enc : α → List Value} {sz T lo : Nat} {w : World} {v : Value} {l : List α} (h : RowAt enc sz T lo w v l) : RowAt enc sz T w.heap.size w v l := by
  obtain ⟨A, c, rfl, hc, hr⟩ := h
  refine ⟨A, c, rfl, hc, fun hl => ?_⟩
  obtain ⟨b, o, rfl, hb, hst, hcells⟩ := hr hl
  exact ⟨b, o, rfl, hb, .inl hb, hcells⟩
theorem rowAt_lift {α : Type} {enc : α → List Value} {sz T lo lo' : Nat} {w : World} {v : Value} {l : List α} (h : RowAt enc sz T lo w v l) (hl : lo ≤ lo') : RowAt enc sz T lo' w v l := by
  obtain ⟨A, c, rfl, hc, hr⟩ := h
  refine ⟨A, c, rfl, hc, fun hne => ?_⟩
  obtain ⟨b, o, rfl, hb, hst, hcells⟩ := hr hne
  exact ⟨b, o, rfl, hb, hst.imp (fun h => Nat.lt_of_lt_of_le h hl) id, hcells⟩

set_option maxRecDepth 100000 in
set_option maxHeartbeats 8000000 in
theorem cli_Parse_err (ws : List ByteArray) (wv : Value) (k : Nat) (w : World) (hlen : ws.length ≤ 1048576) (hsz : ∀ s ∈ ws, s.size ≤ 1048576) (htot : ltot ws ≤ 1073741824) (hwv : StrAt w.heap.size w wv ws) (hp : aparse aspecs 0 ws = .error k) :
    Calls Tryz.prog 8 #[wv] w (CliPost ws w) := by
  have hac : acli ws = .error (k, 19) := by rw [acli, hp]
  have hb0 : Below w.heap.size w (w.alloc (.cells zeroCmd 39)) := (Below.refl _ _).alloc (Nat.le_refl _) _
  have hP := fun (W : World) (sv : Value) (hW : Below w.heap.size w W) (hs : SpcAt W.heap.size W sv aspecs) => args_Parse aspecs ws sv wv W aspecs_meek hlen hsz htot hs (rowAt_top (hwv.below hW))
  unfold ParsePost at hP
  simp only [hp] at hP
  have HP := Lib.hid hP
  have HA := Lib.hid hac
  have HR := Lib.hid (heap_alloc_new w (.cells zeroCmd 39))
  have hne : ((19 : Int) != 0) = true := rfl
  clear hP hac hp hsz
  unfold zeroCmd cmdCells at hb0 HR
  go_enter Tryz.func8, Tryz.ntmps8
  go_wp2_with (first | (go_at_call 6; refine (cli_Specs _).mono ?_; rintro e w1 ⟨b1, rfl, hsp, _, _, hb1⟩; have hb01 := hb0.trans (hb1.mono (by simp))) | (go_at_call 12; refine (HP.out w1 _ hb01 hsp).mono ?_; rintro e w2 ⟨rfl, hb2⟩; have hr1 := ((hb1.trans (hb2.mono hb1.size)).block w.heap.size (by simp)).trans HR.out) | (refine wpList_store_row rfl 39 _ _ rfl w.heap.size #[.int .i64 0, .string ⟨#[]⟩, .string ⟨#[]⟩, .int .i64 0, .string ⟨#[]⟩, .string ⟨#[]⟩, .string ⟨#[]⟩, .int .i64 0, .slice none 0 0, .slice none 0 0, .string ⟨#[]⟩, .string ⟨#[]⟩, .string ⟨#[]⟩, .bool false, .bool false] rfl rfl 39 _ hr1 (by kernel_rfl) rfl (by simp [Value.oneCell']) ?_))
  have hr2 := setRow_heap w2 w.heap.size _ #[.int .i64 0, .string ⟨#[]⟩, .string ⟨#[]⟩, .int .i64 0, .string ⟨#[]⟩, .string ⟨#[]⟩, .string ⟨#[]⟩, .int .i64 0, .slice none 0 0, .slice none 0 0, .string ⟨#[]⟩, .string ⟨#[]⟩, .string ⟨#[]⟩, .bool false, .bool false] 39 (0, 0) hr1
  have k0 := cell_setRow_same w2 w.heap.size 0 _ #[.int .i64 0, .string ⟨#[]⟩, .string ⟨#[]⟩, .int .i64 0, .string ⟨#[]⟩, .string ⟨#[]⟩, .string ⟨#[]⟩, .int .i64 0, .slice none 0 0, .slice none 0 0, .string ⟨#[]⟩, .string ⟨#[]⟩, .string ⟨#[]⟩, .bool false, .bool false] _ _ hr1
  have k1 := cell_setRow_same w2 w.heap.size 1 _ #[.int .i64 0, .string ⟨#[]⟩, .string ⟨#[]⟩, .int .i64 0, .string ⟨#[]⟩, .string ⟨#[]⟩, .string ⟨#[]⟩, .int .i64 0, .slice none 0 0, .slice none 0 0, .string ⟨#[]⟩, .string ⟨#[]⟩, .string ⟨#[]⟩, .bool false, .bool false] _ _ hr1
  have k2 := cell_setRow_same w2 w.heap.size 2 _ #[.int .i64 0, .string ⟨#[]⟩, .string ⟨#[]⟩, .int .i64 0, .string ⟨#[]⟩, .string ⟨#[]⟩, .string ⟨#[]⟩, .int .i64 0, .slice none 0 0, .slice none 0 0, .string ⟨#[]⟩, .string ⟨#[]⟩, .string ⟨#[]⟩, .bool false, .bool false] _ _ hr1
  have k3 := cell_setRow_same w2 w.heap.size 3 _ #[.int .i64 0, .string ⟨#[]⟩, .string ⟨#[]⟩, .int .i64 0, .string ⟨#[]⟩, .string ⟨#[]⟩, .string ⟨#[]⟩, .int .i64 0, .slice none 0 0, .slice none 0 0, .string ⟨#[]⟩, .string ⟨#[]⟩, .string ⟨#[]⟩, .bool false, .bool false] _ _ hr1
  have k4 := cell_setRow_same w2 w.heap.size 4 _ #[.int .i64 0, .string ⟨#[]⟩, .string ⟨#[]⟩, .int .i64 0, .string ⟨#[]⟩, .string ⟨#[]⟩, .string ⟨#[]⟩, .int .i64 0, .slice none 0 0, .slice none 0 0, .string ⟨#[]⟩, .string ⟨#[]⟩, .string ⟨#[]⟩, .bool false, .bool false] _ _ hr1
  have k5 := cell_setRow_same w2 w.heap.size 5 _ #[.int .i64 0, .string ⟨#[]⟩, .string ⟨#[]⟩, .int .i64 0, .string ⟨#[]⟩, .string ⟨#[]⟩, .string ⟨#[]⟩, .int .i64 0, .slice none 0 0, .slice none 0 0, .string ⟨#[]⟩, .string ⟨#[]⟩, .string ⟨#[]⟩, .bool false, .bool false] _ _ hr1
  have k6 := cell_setRow_same w2 w.heap.size 6 _ #[.int .i64 0, .string ⟨#[]⟩, .string ⟨#[]⟩, .int .i64 0, .string ⟨#[]⟩, .string ⟨#[]⟩, .string ⟨#[]⟩, .int .i64 0, .slice none 0 0, .slice none 0 0, .string ⟨#[]⟩, .string ⟨#[]⟩, .string ⟨#[]⟩, .bool false, .bool false] _ _ hr1
  have k7 := cell_setRow_same w2 w.heap.size 7 _ #[.int .i64 0, .string ⟨#[]⟩, .string ⟨#[]⟩, .int .i64 0, .string ⟨#[]⟩, .string ⟨#[]⟩, .string ⟨#[]⟩, .int .i64 0, .slice none 0 0, .slice none 0 0, .string ⟨#[]⟩, .string ⟨#[]⟩, .string ⟨#[]⟩, .bool false, .bool false] _ _ hr1
  have k8 := cell_setRow_same w2 w.heap.size 8 _ #[.int .i64 0, .string ⟨#[]⟩, .string ⟨#[]⟩, .int .i64 0, .string ⟨#[]⟩, .string ⟨#[]⟩, .string ⟨#[]⟩, .int .i64 0, .slice none 0 0, .slice none 0 0, .string ⟨#[]⟩, .string ⟨#[]⟩, .string ⟨#[]⟩, .bool false, .bool false] _ _ hr1
  have k9 := cell_setRow_same w2 w.heap.size 9 _ #[.int .i64 0, .string ⟨#[]⟩, .string ⟨#[]⟩, .int .i64 0, .string ⟨#[]⟩, .string ⟨#[]⟩, .string ⟨#[]⟩, .int .i64 0, .slice none 0 0, .slice none 0 0, .string ⟨#[]⟩, .string ⟨#[]⟩, .string ⟨#[]⟩, .bool false, .bool false] _ _ hr1
  have k10 := cell_setRow_same w2 w.heap.size 10 _ #[.int .i64 0, .string ⟨#[]⟩, .string ⟨#[]⟩, .int .i64 0, .string ⟨#[]⟩, .string ⟨#[]⟩, .string ⟨#[]⟩, .int .i64 0, .slice none 0 0, .slice none 0 0, .string ⟨#[]⟩, .string ⟨#[]⟩, .string ⟨#[]⟩, .bool false, .bool false] _ _ hr1
  have k11 := cell_setRow_same w2 w.heap.size 11 _ #[.int .i64 0, .string ⟨#[]⟩, .string ⟨#[]⟩, .int .i64 0, .string ⟨#[]⟩, .string ⟨#[]⟩, .string ⟨#[]⟩, .int .i64 0, .slice none 0 0, .slice none 0 0, .string ⟨#[]⟩, .string ⟨#[]⟩, .string ⟨#[]⟩, .bool false, .bool false] _ _ hr1
  have k12 := cell_setRow_same w2 w.heap.size 12 _ #[.int .i64 0, .string ⟨#[]⟩, .string ⟨#[]⟩, .int .i64 0, .string ⟨#[]⟩, .string ⟨#[]⟩, .string ⟨#[]⟩, .int .i64 0, .slice none 0 0, .slice none 0 0, .string ⟨#[]⟩, .string ⟨#[]⟩, .string ⟨#[]⟩, .bool false, .bool false] _ _ hr1
  have k13 := cell_setRow_same w2 w.heap.size 13 _ #[.int .i64 0, .string ⟨#[]⟩, .string ⟨#[]⟩, .int .i64 0, .string ⟨#[]⟩, .string ⟨#[]⟩, .string ⟨#[]⟩, .int .i64 0, .slice none 0 0, .slice none 0 0, .string ⟨#[]⟩, .string ⟨#[]⟩, .string ⟨#[]⟩, .bool false, .bool false] _ _ hr1
  have k14 := cell_setRow_same w2 w.heap.size 14 _ #[.int .i64 0, .string ⟨#[]⟩, .string ⟨#[]⟩, .int .i64 0, .string ⟨#[]⟩, .string ⟨#[]⟩, .string ⟨#[]⟩, .int .i64 0, .slice none 0 0, .slice none 0 0, .string ⟨#[]⟩, .string ⟨#[]⟩, .string ⟨#[]⟩, .bool false, .bool false] _ _ hr1
  have hbf := below_setRow (hb01.trans (hb2.mono hb01.size)) (Nat.le_refl _) #[.int .i64 0, .string ⟨#[]⟩, .string ⟨#[]⟩, .int .i64 0, .string ⟨#[]⟩, .string ⟨#[]⟩, .string ⟨#[]⟩, .int .i64 0, .slice none 0 0, .slice none 0 0, .string ⟨#[]⟩, .string ⟨#[]⟩, .string ⟨#[]⟩, .bool false, .bool false]
  refine bodyPost_ret (v := .tuple #[.agg #[.int .i64 0, .string ⟨#[]⟩, .string ⟨#[]⟩, .int .i64 0, .string ⟨#[]⟩, .string ⟨#[]⟩, .string ⟨#[]⟩, .int .i64 0, .slice none 0 0, .slice none 0 0, .string ⟨#[]⟩, .string ⟨#[]⟩, .string ⟨#[]⟩, .bool false, .bool false], .int .i64 (k : Int), .int .i64 19]) (by simp [results, Tryz.results8, go_sem, k0, k1, k2, k3, k4, k5, k6, k7, k8, k9, k10, k11, k12, k13, k14, hr2]) rfl ?_
  refine ⟨?_, hbf⟩
  rw [HA.out]
  rfl

end Go.Proofs.YtnmlmbgaljnjeaaGreatDoor
