/-
  The walks of Drop and Double.
-/
import Derived.Test.YtbegeijofpgliabTake
namespace Go.Proofs.Ytbegeijofpgliab
open Go.RowKit

/-- What Drop does. -/
def DropPost (g : Nat) (A : Option Addr) (L : List Msg) (s l : Nat) (i : Int) (w : World) (e : Ending) (w' : World) : Prop :=
  (0 ≤ i ∧ i < (L.length : Int) ∧ e = .returned (.int .i64 0) ∧ ∃ A' cap', Bag w' g A' cap' (off L i.toNat) s (l + 1) ∧ Kept g A w w' ∧ Fresh A A' w) ∨
  ((i < 0 ∨ (L.length : Int) ≤ i) ∧ e = .returned (.int .i64 9) ∧ Below w.heap.size w w')

theorem bag_lost {w : World} {g : Nat} {A : Option Addr} {cap : Nat} {L : List Msg} {s l l' : Nat} (h : Bag w g A cap L s l) : Bag (w.setCell ⟨g, 3, none⟩ (.int .i64 l')) g A cap L s l' := by
  obtain ⟨cs, h0, rfl⟩ := h.is
  have h1 := heap_setCell_same w g 3 _ _ (.int .i64 l') h0
  exact ⟨⟨_, h1, by simp⟩, has_set58 h0 _ _ h.has⟩

theorem Kept.alloc {g : Nat} {A : Option Addr} {w w' : World} (h : Kept g A w w') (o : Obj) : Kept g A w (w'.alloc o) :=
  ⟨h.os, h.tape, h.output, Nat.le_trans h.size (by simp), fun k h1 h2 h3 => by rw [Below.heap_alloc _ _ _ (Nat.lt_of_lt_of_le h1 h.size)]; exact h.block k h1 h2 h3⟩

set_option maxHeartbeats 1000000 in
theorem drop10 {w : World} {g : Nat} {A : Option Addr} {cap : Nat} {L : List Msg} {s l : Nat} (h : Bag w g A cap L s l) (i : Int) (hL : L.length ≤ 100) (hl : l ≤ 100) :
    Calls Try.prog 10 #[.pointer (some ⟨g, 0, none⟩), .int .i64 i] w (DropPost g A L s l i w) := by
  have H := Lib.hid h
  have HL := Lib.hid hL
  have Hl := Lib.hid hl
  clear h hL hl
  go_enter Try.func10, Try.ntmps10
  go_wp2_with fail
  with_reducible refine (take9 H.out i HL.out).mono ?_
  rintro e w1 (⟨m, hi0, hm, g1, c1, A', cap', rfl, hby, hbag, hkept, hfr⟩ | ⟨hout, rfl, hbel⟩)
  · have hlt : i < (L.length : Int) := by
      rcases Nat.lt_or_ge i.toNat L.length with h | h
      · omega
      · rw [List.getElem?_eq_none h] at hm; cases hm
    obtain ⟨w2, hw2⟩ : ∃ w2, w2 = w1.alloc (Obj.cells #[.int .i64 (m.frm : Int), .int .i64 (m.to : Int), .slice (some ⟨g1, 0, none⟩) 2 c1] 36) := ⟨_, rfl⟩
    have hb2 : Below w1.heap.size w1 w2 := by rw [hw2]; exact (Below.refl _ w1).alloc (Nat.le_refl _) _
    have hbag2 := hbag.later hb2
    have hk2 : Kept g A w w2 := by rw [hw2]; exact hkept.alloc _
    obtain ⟨q0, q1, q2, q3, q4⟩ := hbag2.cells
    have hadd := add25 q3 (q4 3) (by have := Hl.out; omega)
    have Hadd := Lib.hid hadd
    have Hbag := Lib.hid (bag_lost (l' := l + 1) hbag2)
    have Hk := Lib.hid (hk2.set 3 (.int .i64 ((l + 1 : Nat) : Int)))
    have Hfr := Lib.hid hfr
    have Hw2 := Lib.hid hw2
    clear hm hby hbag hkept hfr hb2 hbag2 hk2 q0 q1 q2 q3 q4 hadd hw2
    go_wp2_with fail
    rw [← Hw2.out]
    with_reducible refine Hadd.out.mono ?_
    rintro e w3 ⟨rfl, rfl⟩
    go_wp2_with fail
    go_ret
    exact .inl ⟨hi0, hlt, rfl, A', cap', Hbag.out, Hk.out, Hfr.out⟩
  · have Hbel := Lib.hid hbel
    clear hbel
    go_wp2_with fail
    go_ret
    exact .inr ⟨hout, rfl, Hbel.out.alloc Hbel.out.size _⟩

/-- What Double does. -/
def DoublePost (g : Nat) (A : Option Addr) (L : List Msg) (s l : Nat) (i : Int) (w : World) (e : Ending) (w' : World) : Prop :=
  (∃ m, 0 ≤ i ∧ L[i.toNat]? = some m ∧ e = .returned (.int .i64 0) ∧ ∃ A' cap', Bag w' g A' cap' (L ++ [m]) (s + 1) l ∧ Kept g A w w' ∧ Fresh A A' w) ∨
  ((i < 0 ∨ (L.length : Int) ≤ i) ∧ e = .returned (.int .i64 9) ∧ Below w.heap.size w w')

set_option maxHeartbeats 1000000 in
theorem double11 {w : World} {g : Nat} {A : Option Addr} {cap : Nat} {L : List Msg} {s l : Nat} (h : Bag w g A cap L s l) (i : Int) (hL : L.length ≤ 100) (hs : s ≤ 100) (hnm : ∀ m ∈ L, named m.frm = true ∧ named m.to = true ∧ m.k < 40) :
    Calls Try.prog 11 #[.pointer (some ⟨g, 0, none⟩), .int .i64 i] w (DoublePost g A L s l i w) := by
  have H := Lib.hid h
  have HL := Lib.hid hL
  have Hs := Lib.hid hs
  have Hnm := Lib.hid hnm
  clear h hL hs hnm
  go_enter Try.func11, Try.ntmps11
  go_wp2_with fail
  with_reducible refine (look21 H.out i).mono ?_
  rintro e w1 ⟨hb1, hcase⟩
  have Hb1 := Lib.hid hb1
  clear hb1
  rcases hcase with ⟨m, hi0, hm, g1, c1, rfl, hby1⟩ | ⟨hout, rfl⟩
  · obtain ⟨w2, hw2⟩ : ∃ w2, w2 = w1.alloc (Obj.cells #[.int .i64 (m.frm : Int), .int .i64 (m.to : Int), .slice (some ⟨g1, 0, none⟩) 2 c1] 36) := ⟨_, rfl⟩
    have hb2 : Below w1.heap.size w1 w2 := by rw [hw2]; exact (Below.refl _ w1).alloc (Nat.le_refl _) _
    have hput := put8 (H.out.later (Hb1.out.trans (hb2.mono Hb1.out.size))) c1 (hby1.same (Below.same5 hb2)) HL.out Hs.out
    unfold env at hput
    have Hput := Lib.hid hput
    have Hw2 := Lib.hid hw2
    have Hm := Lib.hid hm
    have Hb2 := Lib.hid (Hb1.out.trans (hb2.mono Hb1.out.size))
    clear hb2 hput hw2 hm hby1
    unfold env
    go_wp2_with fail
    rw [← Hw2.out]
    with_reducible refine Hput.out.mono ?_
    rintro e w3 (⟨-, -, rfl, A', cap', hbag, hk, hfr⟩ | ⟨hbad, -, -⟩)
    · have Hbag := Lib.hid hbag
      have Hk := Lib.hid hk
      have Hfr := Lib.hid hfr
      clear hbag hk hfr
      go_wp2_with fail
      go_ret
      refine .inl ⟨m, hi0, Hm.out, rfl, A', cap', Hbag.out, ⟨Hk.out.os.trans Hb2.out.os, Hk.out.tape.trans Hb2.out.tape, Hk.out.output.trans Hb2.out.output, Nat.le_trans Hb2.out.size Hk.out.size, fun k e1 e2 e3 => ?_⟩, ?_⟩
      · rw [Hk.out.block k (Nat.lt_of_lt_of_le e1 Hb2.out.size) e2 e3]; exact Hb2.out.block k e1
      · rcases Hfr.out with e | e
        · exact .inl e
        · exact .inr fun k hk => Nat.le_trans Hb2.out.size (e k hk)
    · have := Hnm.out m (List.mem_of_getElem? Hm.out)
      rcases hbad with e | e
      · rw [e] at this; cases this.1
      · rw [e] at this; cases this.2.1
  · go_wp2_with fail
    go_ret
    exact .inr ⟨hout, rfl, Hb1.out.alloc Hb1.out.size _⟩
end Go.Proofs.Ytbegeijofpgliab
