/-
  The walk of TopBagged.
-/
import Derived.Test.YtbegeijofpgliabBagged
namespace Go.Proofs.Ytbegeijofpgliab
open Go.RowKit Go.Maps
set_option linter.unusedVariables false

def cells5 (x : Note5) : List Value := [.int .u8 x.kind.toNat, .int .u8 x.frm.toNat, .int .u8 x.to.toNat, .int .u8 x.i.toNat, .int .u8 x.byte.toNat]

theorem cells5_at : ∀ (l : List Note5) (k j : Nat) (x : Note5), l[k]? = some x → j < 5 → (l.flatMap cells5)[k * 5 + j]? = (cells5 x)[j]?
  | [], k, j, x, h, _ => by simp at h
  | y :: r, 0, j, x, h, hj => by
    simp at h; subst h
    simp only [List.flatMap_cons]
    rw [List.getElem?_append_left (by simp [cells5]; omega)]
    simp
  | y :: r, k + 1, j, x, h, hj => by
    simp at h
    have := cells5_at r k j x h hj
    simp only [List.flatMap_cons]
    rw [List.getElem?_append_right (by simp [cells5]; omega), ← this]
    congr 1
    simp [cells5]; omega

theorem arg_of (w : World) (l : List Note5) : Arg (w.alloc (.cells (l.flatMap cells5).toArray 24)) (some ⟨w.heap.size, 0, none⟩) l := by
  intro k x hx
  have hc : ∀ j, j < 5 → (w.alloc (.cells (l.flatMap cells5).toArray 24)).cell? ⟨w.heap.size, 0 + k * 5 + j, none⟩ = (cells5 x)[j]? := fun j hj => by
    rw [World.cell?_alloc_at _ _ _ _ rfl, Nat.zero_add]
    simpa using cells5_at l k j x hx hj
  exact ⟨w.heap.size, 0, rfl, hc 0 (by omega), hc 1 (by omega), hc 2 (by omega), hc 3 (by omega), hc 4 (by omega)⟩

theorem Arg.later {w w' : World} {A : Option Addr} {l : List Note5} (h : Arg w A l) (hb : Below w.heap.size w w') : Arg w' A l := by
  intro k x hx
  obtain ⟨b, off, h0, h1, h2, h3, h4, h5⟩ := h k x hx
  exact ⟨b, off, h0, cell_later hb h1, cell_later hb h2, cell_later hb h3, cell_later hb h4, cell_later hb h5⟩

theorem known_says (w : World) (cs : Array Value) (hcs : cs = (known5.flatMap cells5).toArray) : Calls Try.prog 4 #[.slice (some ⟨w.heap.size, 0, none⟩) 9 9] (w.alloc (.cells cs 24)) fun e w' => e = .returned (.tuple #[.int .i64 2, .int .i64 3, .bool true]) ∧ Below w.heap.size w w' := by
  subst hcs
  refine (bagged4 known5 _ 9 _ (arg_of w known5)).mono ?_
  rintro e w' ⟨rfl, hb⟩
  refine ⟨?_, ((Below.refl _ w).alloc (Nat.le_refl _) _).trans (hb.mono (by simp))⟩
  have h := known5_says
  have hs : steps known5 = 9 := rfl
  rw [hs, h.1, h.2]
  rfl

theorem bag_any (l : List Note5) (A : Option Addr) (c n : Nat) (w : World) (hn : n = l.length) (ha : Arg w A l) : Calls Try.prog 4 #[.slice A n c] w fun e w' => (∃ x y : Int, e = .returned (.tuple #[.int .i64 x, .int .i64 y, .bool true])) ∧ Below w.heap.size w w' := by
  subst hn
  refine (bagged4 l A c w ha).mono ?_
  rintro e w' ⟨rfl, hb⟩
  exact ⟨⟨_, _, rfl⟩, hb⟩

set_option maxRecDepth 100000 in
set_option maxHeartbeats 2000000 in
theorem top3 (l : List Note5) (A : Option Addr) (n c : Nat) (w : World) (hn : n = l.length) (ha : Arg w A l) :
    Calls Try.prog 3 #[.slice A n c] w fun e w' => e = .returned (.bool true) ∧ Below w.heap.size w w' := by
  have hk := known_says w #[.int .u8 0, .int .u8 1, .int .u8 2, .int .u8 0, .int .u8 5, .int .u8 0, .int .u8 2, .int .u8 3, .int .u8 0, .int .u8 6, .int .u8 0, .int .u8 1, .int .u8 3, .int .u8 0, .int .u8 7, .int .u8 4, .int .u8 0, .int .u8 0, .int .u8 1, .int .u8 0, .int .u8 2, .int .u8 0, .int .u8 0, .int .u8 2, .int .u8 0, .int .u8 3, .int .u8 0, .int .u8 0, .int .u8 1, .int .u8 0, .int .u8 5, .int .u8 31, .int .u8 0, .int .u8 0, .int .u8 1, .int .u8 7, .int .u8 1, .int .u8 2, .int .u8 2, .int .u8 2, .int .u8 5, .int .u8 0, .int .u8 1, .int .u8 0, .int .u8 0] rfl
  have Hk := Lib.hid hk
  have Ha := Lib.hid ha
  have Hn := Lib.hid hn
  clear hk ha hn
  go_enter Try.func3, Try.ntmps3
  go_wp2_with fail
  with_reducible refine Hk.out.mono ?_
  rintro e w1 ⟨rfl, hb1⟩
  have Hb1 := Lib.hid hb1
  have hc := bag_any l A c n w1 Hn.out (Ha.out.later hb1)
  have Hc := Lib.hid hc
  clear hb1 hc
  go_wp2_with fail
  with_reducible refine Hc.out.mono ?_
  rintro e w2 ⟨⟨x, y, rfl⟩, hb2⟩
  have Hb2 := Lib.hid (Hb1.out.trans (hb2.mono Hb1.out.size))
  clear hb2
  go_wp2_with fail
  go_ret
  exact ⟨rfl, Hb2.out⟩

end Go.Proofs.Ytbegeijofpgliab
