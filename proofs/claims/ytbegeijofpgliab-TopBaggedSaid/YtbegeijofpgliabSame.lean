/-
  The walk of same: two notes of one kind are the same.
-/
import Derived.Test.YtbegeijofpgliabBagB
namespace Go.Proofs.Ytbegeijofpgliab
open Go.RowKit

theorem conv2 {w : World} {g : Nat} {m : Msg} (h : Byt w g m) (c : Nat) : ∃ s, (convert 34 9 (.slice (some ⟨g, 0, none⟩) 2 c)).run Try.prog w = .ok (.string s) w ∧ s = strOfNums [(m.b.toNat : Int), (m.k : Int)] := by
  obtain ⟨h0, h1⟩ := h.cells
  have := run_convert_bytes_arg (P := Try.prog) w 34 5 Try.underlying34 Try.underlying5 g 0 2 c [(m.b.toNat : Int), (m.k : Int)] rfl (fun i hi => by
    have : i = 0 ∨ i = 1 := by omega
    rcases this with rfl | rfl
    · simpa using h0
    · simpa using h1) 9 Try.underlying9
  exact ⟨_, this, by rfl⟩

set_option maxHeartbeats 400000 in
theorem same7 {w : World} {g g' : Nat} {m : Msg} (c c' : Nat) (h : Byt w g m) (h' : Byt w g' m) :
    Calls Try.prog 7 #[.agg #[.int .i64 (m.frm : Int), .int .i64 (m.to : Int), .slice (some ⟨g, 0, none⟩) 2 c], .agg #[.int .i64 (m.frm : Int), .int .i64 (m.to : Int), .slice (some ⟨g', 0, none⟩) 2 c']] w fun e w' => e = .returned (.bool true) ∧ Below w.heap.size w w' := by
  obtain ⟨w0, hw0⟩ : ∃ w0, w0 = (w.alloc (Obj.cells #[.int .i64 (m.frm : Int), .int .i64 (m.to : Int), .slice (some ⟨g, 0, none⟩) 2 c] 36)).alloc (Obj.cells #[.int .i64 (m.frm : Int), .int .i64 (m.to : Int), .slice (some ⟨g', 0, none⟩) 2 c'] 36) := ⟨_, rfl⟩
  have hb0 : Below w.heap.size w w0 := by rw [hw0]; exact ((Below.refl _ w).alloc (Nat.le_refl _) _).alloc (by simp) _
  obtain ⟨s1, e1, e1'⟩ := conv2 (h.same (Below.same5 hb0)) c
  obtain ⟨s2, e2, e2'⟩ := conv2 (h'.same (Below.same5 hb0)) c'
  obtain rfl : s1 = s2 := by rw [e1', e2']
  rw [hw0] at e1 e2
  have Hb0 := Lib.hid hb0
  have Hw0 := Lib.hid hw0
  clear h h' hb0 hw0 e1' e2'
  go_enter Try.func7, Try.ntmps7
  go_wp2_with fail
  go_ret
  exact ⟨rfl, by rw [← Hw0.out]; exact Hb0.out⟩
end Go.Proofs.Ytbegeijofpgliab
