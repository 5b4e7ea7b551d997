/-
  Small words for the walks of TopExplained: rows of numbers of the call's own; histories in memory.
-/
import Derived.Test.YtbegeijofpgliaaRows
import Derived.Test.YtbegeijofpgliaaPlain
import Derived.WalkKit
import Derived.WalkSpells
import Derived.WalkLawsBesides
import Derived.Lib.Hide
import Derived.Deep.QuietTactic
import Derived.BigQuiet
namespace Go.Proofs.Ytbegeijofpgliaa
open Go.RowKit

theorem Try.info3 : (Try.prog.info? 3).map (fun i => (i.zero, i.size, i.bytes)) = some (some (.int .i64 0), 1, 8) := by kernel_rfl

theorem own_drewN {W : World} {base e size n : Nat} {v : Value} {xs : List Value} (h : W.ownsRow base e size v n xs) (m : Nat) : (W.drewN m).ownsRow base e size v n xs := h

theorem own_below {w w1 : World} {base : Nat} {e : TypeId} {size n : Nat} {v : Value} {xs : List Value} (h : w.ownsRow base e size v n xs) (hb : Below w.heap.size w w1) : w1.ownsRow base e size v n xs :=
  h.kept (row := none) ⟨hb.os, hb.tape, hb.output, hb.size, fun k hk _ => hb.block k hk⟩ (by
    cases hv : v.ownBlock with
    | none => exact .inl rfl
    | some k => exact .inr (by simp))

def ints (xs : List Int) : List Value := xs.map (Value.int .i64)

theorem ints_length (xs : List Int) : (ints xs).length = xs.length := by simp [ints]

theorem own_at {W : World} {base g n cap : Nat} {e : TypeId} {xs : List Int} (h : W.ownsRow base e 1 (.slice (some ⟨g, 0, none⟩) n cap) n (ints xs)) (i : Nat) (h1 : i < n) :
    W.cell? ⟨g, i, none⟩ = some (.int .i64 (xs[i]?.getD 0)) ∧ W.frozen? ⟨g, i, none⟩ = false := by
  have hl : xs.length = n := by have := h.1; simpa [ints] using this
  refine ⟨?_, h.frozenAt i⟩
  rw [h.cellAt i (by omega)]
  have hi : i < xs.length := by omega
  simp [ints, List.getElem?_map, List.getElem?_eq_getElem hi]

theorem own_store {W : World} {base g n cap : Nat} {e : TypeId} {xs : List Int} (h : W.ownsRow base e 1 (.slice (some ⟨g, 0, none⟩) n cap) n (ints xs)) (i : Nat) (x : Int) :
    (W.setCell ⟨g, i, none⟩ (.int .i64 x)).ownsRow base e 1 (.slice (some ⟨g, 0, none⟩) n cap) n (ints (xs.set i x)) := by
  have := (h.stored i (.int .i64 x)).1
  simpa [ints, List.map_set] using this

theorem own_made_ints (xs : List Value) (n : Nat) (h : xs = (madeCells (Value.int .i64 0).cells (n * 1)).toList) : xs = ints (List.replicate n 0) := by
  subst h
  have : (Value.int .i64 0).cells = #[.int .i64 0] := rfl
  rw [this, toList_madeCells_one, Nat.mul_one]
  simp [ints]

theorem conv1 {W : World} {g : Nat} {v : UInt8} (h : W.cell? ⟨g, 0, none⟩ = some (.int .u8 v.toNat)) (c : Nat) : (convert 23 9 (.slice (some ⟨g, 0, none⟩) 1 c)).run Try.prog W = .ok (.string ⟨#[v]⟩) W := by
  have := run_convert_bytes_arg (P := Try.prog) W 23 5 Try.underlying23 Try.underlying5 g 0 1 c [(v.toNat : Int)] rfl (fun i hi => by
    obtain rfl : i = 0 := by omega
    simpa using h) 9 Try.underlying9
  simpa [strOfNums] using this

/-- The cells of an operation, from a place on. -/
def OpIn (w : World) (b : Nat) (k : Nat) (x : LOp) : Prop :=
  w.cell? ⟨b, k * 4, none⟩ = some (.bool x.wr) ∧ (∃ g, w.cell? ⟨b, k * 4 + 1, none⟩ = some (.slice (some ⟨g, 0, none⟩) 1 1) ∧ w.cell? ⟨g, 0, none⟩ = some (.int .u8 x.val.toNat)) ∧
  w.cell? ⟨b, k * 4 + 2, none⟩ = some (.int .i64 x.beg) ∧ w.cell? ⟨b, k * 4 + 3, none⟩ = some (.int .i64 x.fin)

theorem OpIn.below {w w' : World} {b k : Nat} {x : LOp} (h : OpIn w b k x) (hb : Below w.heap.size w w') : OpIn w' b k x := by
  obtain ⟨h0, ⟨g, h1, h2⟩, h3, h4⟩ := h
  exact ⟨cell_later hb h0, ⟨g, cell_later hb h1, cell_later hb h2⟩, cell_later hb h3, cell_later hb h4⟩

/-- A history in memory. -/
def Hist (w : World) (A : Option Addr) (l : List LOp) : Prop := 0 < l.length → ∃ b, A = some ⟨b, 0, none⟩ ∧ ∀ k, k < l.length → OpIn w b k (opAt l k)

theorem Hist.below {w w' : World} {A : Option Addr} {l : List LOp} (h : Hist w A l) (hb : Below w.heap.size w w') : Hist w' A l := by
  intro h0
  obtain ⟨b, e, hk⟩ := h h0
  exact ⟨b, e, fun k hlt => (hk k hlt).below hb⟩

/-- A row of numbers in memory. -/
def Nums (w : World) (A : Option Addr) (o : List Nat) : Prop := 0 < o.length → ∃ b, A = some ⟨b, 0, none⟩ ∧ ∀ (k x : Nat), o[k]? = some x → w.cell? ⟨b, k, none⟩ = some (.int .i64 (x : Int))

theorem Nums.below {w w' : World} {A : Option Addr} {o : List Nat} (h : Nums w A o) (hb : Below w.heap.size w w') : Nums w' A o := by
  intro h0
  obtain ⟨b, e, hk⟩ := h h0
  exact ⟨b, e, fun k x hx => cell_later hb (hk k x hx)⟩

theorem Fine.length_le {l : List LOp} {o : List Nat} (h : Fine l o) : o.length ≤ l.length := by
  have h1 : o ⊆ List.range l.length := fun i hi => List.mem_range.2 (h.2 i hi)
  have := h.1.length_le_of_subset h1
  simpa using this

theorem places_nil (n : Nat) : List.replicate n (-1 : Int) = (List.range n).map (pl []) := by
  apply List.ext_getElem
  · simp
  · intro i h1 h2; simp [pl]

theorem places_step {n : Nat} {o : List Nat} {j x : Nat} (hd : o.Nodup) (hx : o[j]? = some x) : ((List.range n).map (pl (o.take j))).set x (j : Int) = (List.range n).map (pl (o.take (j + 1))) := by
  have hj : j < o.length := by
    rcases Nat.lt_or_ge j o.length with h | h
    · exact h
    · rw [List.getElem?_eq_none h] at hx; cases hx
  have ht : o.take (j + 1) = o.take j ++ [x] := by
    rw [List.take_succ_eq_append_getElem hj]
    rw [List.getElem?_eq_getElem hj] at hx
    simp at hx; rw [hx]
  have hn : x ∉ o.take j := by
    have : (o.take (j + 1)).Nodup := hd.sublist (List.take_sublist _ _)
    rw [ht, List.nodup_append] at this
    intro hm
    exact this.2.2 x hm x (by simp) rfl
  apply List.ext_getElem
  · simp
  · intro i h1 h2
    simp only [List.length_set, List.length_map, List.length_range] at h1
    rw [List.getElem_set]
    simp only [List.getElem_map, List.getElem_range, ht]
    by_cases e : x = i
    · subst e
      rw [if_pos rfl, pl_at hn]
      simp; omega
    · rw [if_neg e]
      unfold pl
      have hne : ¬ i = x := fun h => e h.symm
      simp only [List.mem_append, List.mem_singleton, hne, or_false]
      split
      · rename_i hm; rw [List.idxOf_append, if_pos hm]
      · rfl

end Go.Proofs.Ytbegeijofpgliaa
