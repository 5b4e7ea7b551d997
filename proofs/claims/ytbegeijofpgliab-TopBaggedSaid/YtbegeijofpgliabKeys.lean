/-
  The keys of tags.
-/
import Derived.Test.YtbegeijofpgliabBase
import Derived.Maps.OwnSet
import Derived.Maps.OwnOps
import Derived.DeepKeys4
namespace Go.Proofs.Ytbegeijofpgliab
open Go.RowKit Go.Maps

theorem Try.laidOut : laidOutB Try.prog = true := by kernel_rfl
theorem Try.cells67 : Try.prog.cellsOf 67 = 34 := by kernel_rfl
theorem Try.cells40 : Try.prog.cellsOf 40 = 32 := by kernel_rfl
theorem Try.cells45 : Try.prog.cellsOf 45 = 3 := by kernel_rfl
theorem Try.cells3 : Try.prog.cellsOf 3 = 1 := by kernel_rfl
theorem Try.cells5 : Try.prog.cellsOf 5 = 1 := by kernel_rfl
theorem Try.key67 : Try.prog.keyType 67 = true := by kernel_rfl
theorem Try.key45 : Try.prog.keyType 45 = true := by kernel_rfl
theorem Try.wide67 : (match Try.prog.underlying 67 with | some (.array _ _) | some (.struct _) => true | _ => false) = true := by kernel_rfl
theorem Try.wide45 : (match Try.prog.underlying 45 with | some (.array _ _) | some (.struct _) => true | _ => false) = true := by kernel_rfl
theorem Try.law67 : Keyed Try.prog 67 := Keyed.of_law (deep_law_laid Try.laidOut (m := 3) (by omega) (of_decide_eq_true (by kernel_rfl)) (by kernel_rfl) Try.wide67)
theorem Try.law45 : Keyed Try.prog 45 := Keyed.of_law (deep_law_laid Try.laidOut (m := 3) (by omega) (of_decide_eq_true (by kernel_rfl)) (by kernel_rfl) Try.wide45)

/-- The cells of a digest of the play. -/
def dig (d : Nat) : List Value := .int .u8 (d : Int) :: (List.replicate 30 (.int .u8 0) ++ [.int .u8 1])
def digL (d : Nat) : List Lit := .int .u8 (d : Int) :: (List.replicate 30 (.int .u8 0) ++ [.int .u8 1])

theorem lits3 (k : Nat) (x : Int) (hx : (Lit.int .i64 x).wf = true) : Program.keyLits Try.prog (k + 1) 3 [.int .i64 x] = some [.int .i64 x] := by
  unfold Program.keyLits
  rw [Try.underlying3]
  simp [hx]

theorem lits5 (k : Nat) (x : Int) (hx : (Lit.int .u8 x).wf = true) : Program.keyLits Try.prog (k + 1) 5 [.int .u8 x] = some [.int .u8 x] := by
  unfold Program.keyLits
  rw [Try.underlying5]
  simp [hx]

theorem lits45 (k : Nat) (a b c : Int) (ha : (Lit.int .i64 a).wf = true) (hb : (Lit.int .i64 b).wf = true) (hc : (Lit.int .i64 c).wf = true) : Program.keyLits Try.prog (k + 2) 45 [.int .i64 a, .int .i64 b, .int .i64 c] = some [.int .i64 a, .int .i64 b, .int .i64 c] := by
  unfold Program.keyLits
  rw [Try.underlying45]
  simp [Try.cells45, Try.cells3, lits3 k a ha, lits3 k b hb, lits3 k c hc, List.range_succ]

theorem lits40 (k d : Nat) (hd : (Lit.int .u8 (d : Int)).wf = true) : Program.keyLits Try.prog (k + 2) 40 (dig d) = some (digL d) := by
  unfold Program.keyLits
  rw [Try.underlying40]
  simp [dig, digL, Try.cells40, Try.cells5, lits5 k d hd, lits5 k 0 rfl, lits5 k 1 rfl, List.range_succ, List.replicate]

theorem lits67 (k d : Nat) (a b : Int) (ha : (Lit.int .i64 a).wf = true) (hb : (Lit.int .i64 b).wf = true) (hd : (Lit.int .u8 (d : Int)).wf = true) :
    Program.keyLits Try.prog (k + 3) 67 (.int .i64 a :: .int .i64 b :: dig d) = some (.int .i64 a :: .int .i64 b :: digL d) := by
  have h40 := lits40 k d hd
  have hl : (dig d).length = 32 := by simp [dig]
  unfold Program.keyLits
  rw [Try.underlying67]
  simp [hl, Try.cells67, Try.cells3, Try.cells40, lits3 (k + 1) a ha, lits3 (k + 1) b hb, List.take_of_length_le, h40]

theorem key45 (a b c : Int) (ha : (Lit.int .i64 a).wf = true) (hb : (Lit.int .i64 b).wf = true) (hc : (Lit.int .i64 c).wf = true) : keyOf Try.prog 45 (.agg #[.int .i64 a, .int .i64 b, .int .i64 c]) = some (.string (keyBytes [.int .i64 a, .int .i64 b, .int .i64 c])) := by
  have hf : (Value.agg #[.int .i64 a, .int .i64 b, .int .i64 c]).formed Try.prog 45 = true := by simp [Value.formed, Try.underlying45, Try.cells45]
  have hu := Try.underlying45
  unfold keyOf
  rw [hu]
  simp only [Try.key45, hf, Bool.and_self, if_true]
  have : Try.prog.types.size + 1 = 92 + 2 := by kernel_rfl
  rw [this]
  have hcl : (Value.agg #[.int .i64 a, .int .i64 b, .int .i64 c]).cells.toList = [.int .i64 a, .int .i64 b, .int .i64 c] := rfl
  rw [hcl, lits45 92 a b c ha hb hc]
  rfl

theorem key67 (d : Nat) (a b : Int) (ha : (Lit.int .i64 a).wf = true) (hb : (Lit.int .i64 b).wf = true) (hd : (Lit.int .u8 (d : Int)).wf = true) :
    keyOf Try.prog 67 (.agg (.int .i64 a :: .int .i64 b :: dig d).toArray) = some (.string (keyBytes (.int .i64 a :: .int .i64 b :: digL d))) := by
  have hl : (dig d).length = 32 := by simp [dig]
  have hf : (Value.agg (.int .i64 a :: .int .i64 b :: dig d).toArray).formed Try.prog 67 = true := by simp [Value.formed, Try.underlying67, Try.cells67, hl]
  have hu := Try.underlying67
  unfold keyOf
  rw [hu]
  simp only [Try.key67, hf, Bool.and_self, if_true]
  have : Try.prog.types.size + 1 = 91 + 3 := by kernel_rfl
  rw [this]
  have hcl : (Value.agg (.int .i64 a :: .int .i64 b :: dig d).toArray).cells.toList = .int .i64 a :: .int .i64 b :: dig d := rfl
  rw [hcl, lits67 91 d a b ha hb hd]
  rfl

/-- The two keys of a tag. -/
def kL (x : Tg) : Lit := .string (keyBytes (.int .i64 (x.frm : Int) :: .int .i64 (x.to : Int) :: digL x.d))
def kT (x : Tg) : Lit := .string (keyBytes [.int .i64 (x.frm : Int), .int .i64 (x.to : Int), .int .i64 (x.d : Int)])

def Tg.Ok (x : Tg) : Prop := x.frm ≤ 40 ∧ x.to ≤ 40 ∧ x.d < 3

theorem wfi (n : Nat) (h : n ≤ 40) : (Lit.int .i64 (n : Int)).wf = true := WalkArith.wf_i64 ⟨by omega, by omega⟩
theorem wfu (n : Nat) (h : n < 3) : (Lit.int .u8 (n : Int)).wf = true := by
  have : n = 0 ∨ n = 1 ∨ n = 2 := by omega
  rcases this with rfl | rfl | rfl <;> rfl

theorem keyL {x : Tg} (h : x.Ok) : keyOf Try.prog 67 (.agg (.int .i64 (x.frm : Int) :: .int .i64 (x.to : Int) :: dig x.d).toArray) = some (kL x) := key67 _ _ _ (wfi _ h.1) (wfi _ h.2.1) (wfu _ h.2.2)
theorem keyT {x : Tg} (h : x.Ok) : keyOf Try.prog 45 (.agg #[.int .i64 (x.frm : Int), .int .i64 (x.to : Int), .int .i64 (x.d : Int)]) = some (kT x) := key45 _ _ _ (wfi _ h.1) (wfi _ h.2.1) (wfi _ (by have := h.2.2; omega))

theorem kL_inj {x y : Tg} (hx : x.Ok) (hy : y.Ok) (e : kL x = kL y) : x = y := by
  have := Try.law67.inj (keyL hx) (e ▸ keyL hy)
  simp [dig] at this
  cases x; cases y
  simp at this ⊢
  omega

theorem kT_inj {x y : Tg} (hx : x.Ok) (hy : y.Ok) (e : kT x = kT y) : x = y := by
  have := Try.law45.inj (keyT hx) (e ▸ keyT hy)
  simp at this
  cases x; cases y
  simp at this ⊢
  omega

end Go.Proofs.Ytbegeijofpgliab
