/-
  bag.New, tag.New, and what the test begins with.
-/
import Derived.Test.YtbegeijofpgliabState
namespace Go.Proofs.Ytbegeijofpgliab
open Go.RowKit Go.Maps

theorem new5 (w : World) : Calls Try.prog 5 #[] w fun e w' => e = .returned (.pointer (some ⟨w.heap.size, 0, none⟩)) ∧ w' = w.alloc (.cells #[.bool true, .slice none 0 0, .int .i64 0, .int .i64 0] 58) := by
  go_enter Try.func5, Try.ntmps5
  go_wp2
  go_ret
  exact ⟨rfl, rfl⟩

theorem new6 (w : World) : Calls Try.prog 6 #[] w fun e w' => e = .returned (.pointer (some ⟨w.heap.size + 1, 0, none⟩)) ∧ w' = (w.alloc (.map #[] 0)).alloc (.cells #[.map (some w.heap.size), .int .i64 0] 61) := by
  have hmm := @run_makeMap Try.prog
  go_enter Try.func6, Try.ntmps6
  go_wp2
  go_ret
  exact ⟨rfl, rfl⟩

/-- The map of the arguments. -/
theorem inv_start (w : World) : Inv w ⟨w.heap.size, w.heap.size + 2, w.heap.size + 1, w.heap.size + 3⟩ ((((w.alloc (.cells #[.bool true, .slice none 0 0, .int .i64 0, .int .i64 0] 58)).alloc (.map #[] 0)).alloc (.cells #[.map (some (w.heap.size + 1)), .int .i64 0] 61)).alloc (.map #[] 0))
    none 0 [] 0 0 none 0 [] 0 [] 0 0 [] := by
  obtain ⟨wa, ha⟩ : ∃ wa, wa = w.alloc (.cells #[.bool true, .slice none 0 0, .int .i64 0, .int .i64 0] 58) := ⟨_, rfl⟩
  obtain ⟨wb, hb⟩ : ∃ wb, wb = wa.alloc (.map #[] 0) := ⟨_, rfl⟩
  obtain ⟨wc, hc⟩ : ∃ wc, wc = wb.alloc (.cells #[.map (some (w.heap.size + 1)), .int .i64 0] 61) := ⟨_, rfl⟩
  obtain ⟨wd, hd⟩ : ∃ wd, wd = wc.alloc (.map #[] 0) := ⟨_, rfl⟩
  have sa : wa.heap.size = w.heap.size + 1 := by rw [ha]; simp
  have sb : wb.heap.size = w.heap.size + 2 := by rw [hb]; simp [sa]
  have sc : wc.heap.size = w.heap.size + 3 := by rw [hc]; simp [sb]
  have ba : Below w.heap.size w wa := by rw [ha]; exact (Below.refl _ w).alloc (Nat.le_refl _) _
  have bb : Below wa.heap.size wa wb := by rw [hb]; exact (Below.refl _ wa).alloc (Nat.le_refl _) _
  have bc : Below wb.heap.size wb wc := by rw [hc]; exact (Below.refl _ wb).alloc (Nat.le_refl _) _
  have bd : Below wc.heap.size wc wd := by rw [hd]; exact (Below.refl _ wc).alloc (Nat.le_refl _) _
  rw [← ha, ← hb, ← hc, ← hd]
  have h0 : wa.heap[w.heap.size]? = some (.cells #[.bool true, .slice none 0 0, .int .i64 0, .int .i64 0] 58 (0, 0)) := by rw [ha]; exact heap_alloc_new w _
  have h1 : wb.heap[w.heap.size + 1]? = some (.map #[] 0) := by rw [hb, ← sa]; exact heap_alloc_new wa _
  have h2 : wc.heap[w.heap.size + 2]? = some (.cells #[.map (some (w.heap.size + 1)), .int .i64 0] 61 (0, 0)) := by rw [hc, ← sb]; exact heap_alloc_new wb _
  have k0 : wd.heap[w.heap.size]? = some (.cells #[.bool true, .slice none 0 0, .int .i64 0, .int .i64 0] 58 (0, 0)) := by
    rw [bd.block _ (by omega), bc.block _ (by omega), bb.block _ (by omega)]; exact h0
  have k2 : wd.heap[w.heap.size + 2]? = some (.cells #[.map (some (w.heap.size + 1)), .int .i64 0] 61 (0, 0)) := by
    rw [bd.block _ (by omega)]; exact h2
  have hm1 : wd.ownsMap (H := Unit) Try.prog 67 unitElem (w.heap.size + 1) 0 (.map []) := by
    have := World.ownsMap_made (H := Unit) wa Try.prog 67 unitElem
    rw [← hb, sa] at this
    have := this.alloc (.cells #[.map (some (w.heap.size + 1)), .int .i64 0] 61)
    rw [← hc] at this
    have := this.alloc (.map #[] 0)
    rw [← hd] at this
    exact this
  have hm2 : wd.ownsMap (H := Unit) Try.prog 45 (plainElem Try.prog 4) (w.heap.size + 3) 0 (.map []) := by
    have := World.ownsMap_made (H := Unit) wc Try.prog 45 (plainElem Try.prog 4)
    rw [← hd, sc] at this
    exact this
  refine ⟨⟨⟨_, k0, rfl⟩, ⟨[], Row.nil _ _ _, ⟨rfl, fun k m hk => by simp at hk⟩⟩⟩, ⟨[], Row.nil _ _ _, ⟨rfl, fun k m hk => by simp at hk⟩⟩, ⟨k2, _, hm1, ⟨rfl, fun x _ => rfl⟩⟩, ⟨_, hm2, ⟨⟨rfl, fun x _ => rfl⟩, fun x _ => rfl⟩⟩, by show w.heap.size + 1 ≠ w.heap.size + 3; omega, fun k e => by simp [blk] at e,
    ((ba.trans (bb.mono (by omega))).trans (bc.mono (by omega))).trans (bd.mono (by omega)), Nat.le_refl _, by show _ ≤ w.heap.size + 2; omega, by show _ ≤ w.heap.size + 1; omega, by show _ ≤ w.heap.size + 3; omega, fun k e => by simp [blk] at e, fun k e => by simp [blk] at e⟩

/-- The cells of the argument's elements. -/
def Arg (w : World) (A : Option Addr) (l : List Note5) : Prop := ∀ (k : Nat) (x : Note5), l[k]? = some x → ∃ (b off : Nat), A = some ⟨b, off, none⟩ ∧ w.cell? ⟨b, off + k * 5, none⟩ = some (.int .u8 x.kind.toNat) ∧ w.cell? ⟨b, off + k * 5 + 1, none⟩ = some (.int .u8 x.frm.toNat) ∧
  w.cell? ⟨b, off + k * 5 + 2, none⟩ = some (.int .u8 x.to.toNat) ∧ w.cell? ⟨b, off + k * 5 + 3, none⟩ = some (.int .u8 x.i.toNat) ∧ w.cell? ⟨b, off + k * 5 + 4, none⟩ = some (.int .u8 x.byte.toNat)

end Go.Proofs.Ytbegeijofpgliab
