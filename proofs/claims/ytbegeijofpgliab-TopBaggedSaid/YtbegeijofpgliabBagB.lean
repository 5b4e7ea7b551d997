/-
  The walks of Look and Put.
-/
import Derived.Test.YtbegeijofpgliabBagA
namespace Go.Proofs.Ytbegeijofpgliab
open Go.RowKit

/-- What Look answers. -/
def LookPost (L : List Msg) (i : Int) (w : World) (e : Ending) (w' : World) : Prop :=
  Below w.heap.size w w' ∧ ((∃ m, 0 ≤ i ∧ L[i.toNat]? = some m ∧ ∃ g c, e = .returned (.tuple #[env m g c, .int .i64 0]) ∧ Byt w' g m) ∨
    ((i < 0 ∨ (L.length : Int) ≤ i) ∧ e = .returned (.tuple #[.agg #[.int .i64 0, .int .i64 0, .slice none 0 0], .int .i64 9])))

set_option maxHeartbeats 1000000 in
theorem look21 {w : World} {g : Nat} {A : Option Addr} {cap : Nat} {L : List Msg} {s l : Nat} (h : Bag w g A cap L s l) (i : Int) :
    Calls Try.prog 21 #[.pointer (some ⟨g, 0, none⟩), .int .i64 i] w (LookPost L i w) := by
  obtain ⟨n, hn⟩ : ∃ n, n = L.length := ⟨_, rfl⟩
  by_cases h0 : i < 0
  · have d0 : decide (i < 0) = true := by simpa using h0
    go_enter Try.func21, Try.ntmps21
    go_wp2_with fail
    obtain ⟨w0, hw0⟩ : ∃ w0, w0 = w.alloc (Obj.cells #[Value.int IntKind.i64 0, Value.int IntKind.i64 0, Value.slice none 0 0] 36) := ⟨_, rfl⟩
    rw [← hw0]
    have hs0 : w0.heap.size = w.heap.size + 1 := by rw [hw0]; simp
    have hb0 : Below w.heap.size w w0 := by rw [hw0]; exact (Below.refl _ w).alloc (Nat.le_refl _) _
    have b2 : w0.heap[w.heap.size]? = some (.cells #[Value.int IntKind.i64 0, Value.int IntKind.i64 0, Value.slice none 0 0] 36 (0, 0)) := by rw [hw0]; exact heap_alloc_new w _
    clear hw0
    have h0' := h.later hb0
    obtain ⟨h1, h2, h3, h4, h5⟩ := h0'.cells
    have r0 := cell_of_row w0 _ 0 _ _ _ b2
    have r1 := cell_of_row w0 _ 1 _ _ _ b2
    have r2 := cell_of_row w0 _ 2 _ _ _ b2
    have s0 := frozen_of_row w0 _ 0 _ _ b2
    have s1 := frozen_of_row w0 _ 1 _ _ b2
    have s2 := frozen_of_row w0 _ 2 _ _ b2
    simp only [List.getElem?_toArray, List.getElem?_cons_zero, List.getElem?_cons_succ] at r0 r1 r2
    rw [← hn] at h2
    have Hs0 := Lib.hid hs0
    have Hb0 := Lib.hid hb0
    have Hbag := Lib.hid h0'
    have Hb2 := Lib.hid b2
    have Hn := Lib.hid hn
    have H := Lib.hid h
    clear h h0' hs0 hb0 b2 hn h1 h3 h4 h5
    with_reducible refine (none22 Hbag.out).mono ?_
    rintro e w1 ⟨rfl, rfl⟩
    go_wp2_with fail
    refine bodyPost_ret (v := .tuple #[.agg #[.int .i64 0, .int .i64 0, .slice none 0 0], .int .i64 9]) (by simp [results, Try.results21, go_sem, *]) rfl ?_
    refine ⟨((Hb0.out.setCell (by simp) _).setCell (by simp) _).setCell (by simp) _, .inr ⟨.inl h0, rfl⟩⟩
  · have d0 : decide (i < 0) = false := by simpa using h0
    obtain ⟨k, rfl⟩ : ∃ k : Nat, i = (k : Int) := ⟨i.toNat, by omega⟩
    by_cases hk : k < n
    · have dk : decide ((k : Int) ≥ (n : Int)) = false := by simp; omega
      go_enter Try.func21, Try.ntmps21
      go_wp2_with fail
      obtain ⟨w0, hw0⟩ : ∃ w0, w0 = w.alloc (Obj.cells #[Value.int IntKind.i64 0, Value.int IntKind.i64 0, Value.slice none 0 0] 36) := ⟨_, rfl⟩
      rw [← hw0]
      have hs0 : w0.heap.size = w.heap.size + 1 := by rw [hw0]; simp
      have hb0 : Below w.heap.size w w0 := by rw [hw0]; exact (Below.refl _ w).alloc (Nat.le_refl _) _
      have b2 : w0.heap[w.heap.size]? = some (.cells #[Value.int IntKind.i64 0, Value.int IntKind.i64 0, Value.slice none 0 0] 36 (0, 0)) := by rw [hw0]; exact heap_alloc_new w _
      clear hw0
      have h0' := h.later hb0
      obtain ⟨h1, h2, h3, h4, h5⟩ := h0'.cells
      have r0 := cell_of_row w0 _ 0 _ _ _ b2
      have r1 := cell_of_row w0 _ 1 _ _ _ b2
      have r2 := cell_of_row w0 _ 2 _ _ _ b2
      have s0 := frozen_of_row w0 _ 0 _ _ b2
      have s1 := frozen_of_row w0 _ 1 _ _ b2
      have s2 := frozen_of_row w0 _ 2 _ _ b2
      simp only [List.getElem?_toArray, List.getElem?_cons_zero, List.getElem?_cons_succ] at r0 r1 r2
      rw [← hn] at h2
      have Hs0 := Lib.hid hs0
      have Hb0 := Lib.hid hb0
      have Hbag := Lib.hid h0'
      have Hb2 := Lib.hid b2
      have Hn := Lib.hid hn
      have H := Lib.hid h
      clear h h0' hs0 hb0 b2 hn h1 h3 h4 h5
      with_reducible refine (none22 Hbag.out).mono ?_
      rintro e w1 ⟨rfl, rfl⟩
      obtain ⟨m, hm⟩ : ∃ m, L[k]? = some m := ⟨L[k]'(by rw [← Hn.out]; exact hk), List.getElem?_eq_getElem _⟩
      obtain ⟨xs, hrow, hms⟩ := Hbag.out.has
      obtain ⟨gN, hA⟩ := hrow.some (by rw [← Hn.out]; omega)
      obtain ⟨g1, c1, x0, x1, x2, hby⟩ := hms.2 k m hm
      have y0 := hrow.cell hA _ _ x0
      have y1 := hrow.cell hA _ _ x1
      have y2 := hrow.cell hA _ _ x2
      subst hA
      have Hrow := Lib.hid hrow
      have Hms := Lib.hid hms
      have Hm := Lib.hid hm
      have ho := own24 c1 hby
      unfold env at ho
      have Ho := Lib.hid ho
      clear hrow hms hm x0 x1 x2 hby ho
      go_wp2_with fail
      with_reducible refine Ho.out.mono ?_
      rintro e w2 ⟨hb2, g', c', rfl, hby⟩
      clear r0 r1 r2 s0 s1 s2 h2 y0 y1 y2
      have b3 : w2.heap[w.heap.size]? = some (.cells #[Value.int IntKind.i64 0, Value.int IntKind.i64 0, Value.slice none 0 0] 36 (0, 0)) := by
        rw [hb2.block _ (by rw [Hs0.out]; omega)]; exact Hb2.out
      have r0 := cell_of_row w2 _ 0 _ _ _ b3
      have r1 := cell_of_row w2 _ 1 _ _ _ b3
      have r2 := cell_of_row w2 _ 2 _ _ _ b3
      have s0 := frozen_of_row w2 _ 0 _ _ b3
      have s1 := frozen_of_row w2 _ 1 _ _ b3
      have s2 := frozen_of_row w2 _ 2 _ _ b3
      simp only [List.getElem?_toArray, List.getElem?_cons_zero, List.getElem?_cons_succ] at r0 r1 r2
      have Hne := Lib.hid (hby.ne b3)
      have Hby := Lib.hid hby
      have Hbb := Lib.hid (Hb0.out.trans (hb2.mono Hb0.out.size))
      clear hby hb2 b3 Ho
      go_wp2_with fail
      refine bodyPost_ret (v := .tuple #[env m g' c', .int .i64 0]) (by simp [results, Try.results21, go_sem, *, env]) rfl ?_
      exact ⟨((Hbb.out.setCell (by simp) _).setCell (by simp) _).setCell (by simp) _, .inl ⟨m, by omega, by simpa using Hm.out, g', c', rfl, ((Hby.out.set Hne.out _).set Hne.out _).set Hne.out _⟩⟩
    · have dk : decide ((k : Int) ≥ (n : Int)) = true := by simp; omega
      go_enter Try.func21, Try.ntmps21
      go_wp2_with fail
      obtain ⟨w0, hw0⟩ : ∃ w0, w0 = w.alloc (Obj.cells #[Value.int IntKind.i64 0, Value.int IntKind.i64 0, Value.slice none 0 0] 36) := ⟨_, rfl⟩
      rw [← hw0]
      have hs0 : w0.heap.size = w.heap.size + 1 := by rw [hw0]; simp
      have hb0 : Below w.heap.size w w0 := by rw [hw0]; exact (Below.refl _ w).alloc (Nat.le_refl _) _
      have b2 : w0.heap[w.heap.size]? = some (.cells #[Value.int IntKind.i64 0, Value.int IntKind.i64 0, Value.slice none 0 0] 36 (0, 0)) := by rw [hw0]; exact heap_alloc_new w _
      clear hw0
      have h0' := h.later hb0
      obtain ⟨h1, h2, h3, h4, h5⟩ := h0'.cells
      have r0 := cell_of_row w0 _ 0 _ _ _ b2
      have r1 := cell_of_row w0 _ 1 _ _ _ b2
      have r2 := cell_of_row w0 _ 2 _ _ _ b2
      have s0 := frozen_of_row w0 _ 0 _ _ b2
      have s1 := frozen_of_row w0 _ 1 _ _ b2
      have s2 := frozen_of_row w0 _ 2 _ _ b2
      simp only [List.getElem?_toArray, List.getElem?_cons_zero, List.getElem?_cons_succ] at r0 r1 r2
      rw [← hn] at h2
      have Hs0 := Lib.hid hs0
      have Hb0 := Lib.hid hb0
      have Hbag := Lib.hid h0'
      have Hb2 := Lib.hid b2
      have Hn := Lib.hid hn
      have H := Lib.hid h
      clear h h0' hs0 hb0 b2 hn h1 h3 h4 h5
      with_reducible refine (none22 Hbag.out).mono ?_
      rintro e w1 ⟨rfl, rfl⟩
      go_wp2_with fail
      refine bodyPost_ret (v := .tuple #[.agg #[.int .i64 0, .int .i64 0, .slice none 0 0], .int .i64 9]) (by simp [results, Try.results21, go_sem, *]) rfl ?_
      refine ⟨((Hb0.out.setCell (by simp) _).setCell (by simp) _).setCell (by simp) _, .inr ⟨.inr (by rw [← Hn.out]; omega), rfl⟩⟩
end Go.Proofs.Ytbegeijofpgliab
