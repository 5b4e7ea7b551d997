/-
  The walk of Tag: for one.
-/
import Derived.Test.YtbegeijofpgliabTagA
import Derived.Deep.RegionHeld3
namespace Go.Proofs.Ytbegeijofpgliab
open Go.RowKit Go.Maps

set_option maxHeartbeats 1000000 in
theorem tag12_both {w : World} {g M n : Nat} {T : List Tg} {a : Nat} (h : Led w g M n T a) (x : Tg) (hx : x.Ok) (hn : n ≤ 1000) (hnf : named x.frm = true) (hnt : named x.to = true) :
    Calls Try.prog 12 #[.pointer (some ⟨g, 0, none⟩), .int .i64 (x.frm : Int), .int .i64 (x.to : Int), .agg (digA x.d)] w fun e w' => e = .returned (.int .i64 0) ∧ Led w' g M (n + 1) (ins T x) a ∧ KeptL g M w w' := by
  have Hx := Lib.hid hx
  have Hn := Lib.hid hn
  obtain ⟨V, hV⟩ : ∃ V, V = digA x.d := ⟨_, rfl⟩
  rw [← hV]
  obtain ⟨w0, hw0⟩ : ∃ w0, w0 = w.alloc (Obj.cells V 40) := ⟨_, rfl⟩
  have hb0 : Below w.heap.size w w0 := by rw [hw0]; exact (Below.refl _ w).alloc (Nat.le_refl _) _
  have hd0 : DigAt w0 w.heap.size x.d := by unfold DigAt; rw [hw0, ← hV]; exact heap_alloc_new w _
  have hl0 := h.later hb0
  have Hw0 := Lib.hid hw0
  have Hb0 := Lib.hid hb0
  have Hd0 := Lib.hid hd0
  have Hl0 := Lib.hid hl0
  clear h hw0 hb0 hd0 hl0 hV hx hn
  have hc0 := named27 x.frm w0
  have hc1 := named27 x.to w0
  rw [hnf] at hc0
  rw [hnt] at hc1
  have Hc0 := Lib.hid hc0
  have Hc1 := Lib.hid hc1
  clear hc0 hc1
  clear hnf hnt
  go_enter Try.func12, Try.ntmps12
  go_wp2_with fail
  rw [← Hw0.out]
  with_reducible refine (none26 Hl0.out).mono ?_
  rintro e w1 ⟨rfl, rfl⟩
  go_wp2_with fail
  with_reducible refine Hc0.out.mono ?_
  rintro e w2 ⟨rfl, rfl⟩
  go_wp2_with fail
  with_reducible refine Hc1.out.mono ?_
  rintro e w3 ⟨rfl, rfl⟩
  go_wp2_with fail
  obtain ⟨q0, q1, q2⟩ := Hl0.out.cells
  obtain ⟨cs, hcs⟩ : ∃ cs, cs = dig x.d := ⟨_, rfl⟩
  have hrg : w3.rangeAt w.heap.size 0 cs := by
    intro j v hj
    rw [Nat.zero_add, cell_of_row w3 _ j _ _ _ Hd0.out]
    rw [hcs] at hj
    simpa [digA] using hj
  have hu := Try.underlying40
  have hi : (Try.prog.info? 40).map (fun i => i.size) = some cs.length := by rw [Try.size40, hcs]; rfl
  have hcl : cs.length = 32 := by rw [hcs]; rfl
  have hkey := tag_key x cs hcs
  obtain ⟨D, hD, hDs⟩ := Hl0.out.has
  obtain ⟨wU, hmu, hU1, hU2⟩ := (hD.drew).update Try.law67 Try.underlying59 (by have := Hn.out; unfold maxLen; omega) (keyL Hx.out) (unitElem_mk)
  have hput := led_put Hl0.out hD hDs Hx.out (a' := a) rfl hU1 hU2
  have hMb : w.heap.size ≠ M := by
    intro e
    obtain ⟨es, c, e1, _⟩ := hD
    have e2 := Hd0.out
    unfold DigAt at e2
    rw [e, e1] at e2
    simp at e2
  have hcU := hput.1.cells.1
  have hrU : wU.rangeAt w.heap.size 0 cs := fun j v hj => by
    have e1 := hrg j v hj
    rw [← e1]
    exact World.cell?_of_block (w := w3) (hU2.block w.heap.size (Array.getElem?_eq_some_iff.1 Hd0.out).1 (by simpa using hMb))
  have HU := Lib.hid (hput.1)
  have HK := Lib.hid (hput.2.below Hb0.out)
  rw [← hkey] at hmu
  have Hcs := Lib.hid hcs
  clear hD hDs hU1 hU2 hput hcs hkey
  go_region_held3 (fun w' => w'.cell? ⟨g, 0, none⟩ = some (.map (some M)) ∧ w'.rangeAt w.heap.size 0 cs) (first | (exact ⟨hcU, hrU⟩) | go_keep_ranges) (fail)
  all_goals
    clear hmu
    go_wp2_with fail
    go_ret
    exact ⟨rfl, HU.out, HK.out⟩

end Go.Proofs.Ytbegeijofpgliab
