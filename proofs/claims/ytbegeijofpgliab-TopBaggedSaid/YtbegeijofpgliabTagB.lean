/-
  The walk of Tag: what is refused.
-/
import Derived.Test.YtbegeijofpgliabTagA
namespace Go.Proofs.Ytbegeijofpgliab
open Go.RowKit Go.Maps

set_option maxHeartbeats 1000000 in
theorem tag12_off {w : World} {g M n : Nat} {T : List Tg} {a : Nat} (h : Led w g M n T a) (x : Tg) (hx : x.Ok) (hn : n ≤ 1000) (hnf : named x.frm = false) :
    Calls Try.prog 12 #[.pointer (some ⟨g, 0, none⟩), .int .i64 (x.frm : Int), .int .i64 (x.to : Int), .agg (digA x.d)] w fun e w' => e = .returned (.int .i64 2) ∧ Below w.heap.size w w' := by
  have Hx := Lib.hid hx
  have Hn := Lib.hid hn
  obtain ⟨V, hV⟩ : ∃ V, V = digA x.d := ⟨_, rfl⟩
  rw [← hV]
  obtain ⟨w0, hw0⟩ : ∃ w0, w0 = w.alloc (Obj.cells V 40) := ⟨_, rfl⟩
  have hb0 : Below w.heap.size w w0 := by rw [hw0]; exact (Below.refl _ w).alloc (Nat.le_refl _) _
  have hd0 : DigAt w0 w.heap.size x.d := by unfold DigAt; rw [hw0, ← hV]; exact heap_alloc_new w _
  have hl0 := h.later hb0
  have Hw0 := Lib.hid hw0
  have Hb0 := Lib.hid hb0
  have Hd0 := Lib.hid hd0
  have Hl0 := Lib.hid hl0
  clear h hw0 hb0 hd0 hl0 hV hx hn
  have hc0 := named27 x.frm w0
  have hc1 := named27 x.to w0
  rw [hnf] at hc0
  have Hc0 := Lib.hid hc0
  have Hc1 := Lib.hid hc1
  clear hc0 hc1
  clear hnf
  go_enter Try.func12, Try.ntmps12
  go_wp2_with fail
  rw [← Hw0.out]
  with_reducible refine (none26 Hl0.out).mono ?_
  rintro e w1 ⟨rfl, rfl⟩
  go_wp2_with fail
  with_reducible refine Hc0.out.mono ?_
  rintro e w2 ⟨rfl, rfl⟩
  go_wp2_with fail
  go_ret
  exact ⟨rfl, Hb0.out⟩

set_option maxHeartbeats 1000000 in
theorem tag12_far {w : World} {g M n : Nat} {T : List Tg} {a : Nat} (h : Led w g M n T a) (x : Tg) (hx : x.Ok) (hn : n ≤ 1000) (hnf : named x.frm = true) (hnt : named x.to = false) (hz : x.to ≠ 0) :
    Calls Try.prog 12 #[.pointer (some ⟨g, 0, none⟩), .int .i64 (x.frm : Int), .int .i64 (x.to : Int), .agg (digA x.d)] w fun e w' => e = .returned (.int .i64 2) ∧ Below w.heap.size w w' := by
  have Hx := Lib.hid hx
  have Hn := Lib.hid hn
  obtain ⟨V, hV⟩ : ∃ V, V = digA x.d := ⟨_, rfl⟩
  rw [← hV]
  obtain ⟨w0, hw0⟩ : ∃ w0, w0 = w.alloc (Obj.cells V 40) := ⟨_, rfl⟩
  have hb0 : Below w.heap.size w w0 := by rw [hw0]; exact (Below.refl _ w).alloc (Nat.le_refl _) _
  have hd0 : DigAt w0 w.heap.size x.d := by unfold DigAt; rw [hw0, ← hV]; exact heap_alloc_new w _
  have hl0 := h.later hb0
  have Hw0 := Lib.hid hw0
  have Hb0 := Lib.hid hb0
  have Hd0 := Lib.hid hd0
  have Hl0 := Lib.hid hl0
  clear h hw0 hb0 hd0 hl0 hV hx hn
  have hc0 := named27 x.frm w0
  have hc1 := named27 x.to w0
  rw [hnf] at hc0
  rw [hnt] at hc1
  have Hc0 := Lib.hid hc0
  have Hc1 := Lib.hid hc1
  clear hc0 hc1
  have dz : ((x.to : Int) != 0) = true := by simp; omega
  clear hnf hnt hz
  go_enter Try.func12, Try.ntmps12
  go_wp2_with fail
  rw [← Hw0.out]
  with_reducible refine (none26 Hl0.out).mono ?_
  rintro e w1 ⟨rfl, rfl⟩
  go_wp2_with fail
  with_reducible refine Hc0.out.mono ?_
  rintro e w2 ⟨rfl, rfl⟩
  go_wp2_with fail
  with_reducible refine Hc1.out.mono ?_
  rintro e w3 ⟨rfl, rfl⟩
  go_wp2_with fail
  go_ret
  exact ⟨rfl, Hb0.out⟩

end Go.Proofs.Ytbegeijofpgliab
