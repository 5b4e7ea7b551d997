/-
  What a round does with the bag and the ledger: ahead of the walks.
-/
import Derived.Test.YtbegeijofpgliabHead
namespace Go.Proofs.Ytbegeijofpgliab
open Go.RowKit Go.Maps

/-- The frame's slots that stay. -/
def base (sl : Value) (F : Four) (all : Value) (s l k : Nat) : List (Nat × Value) :=
  [(0, sl), (5, .pointer (some ⟨F.b, 0, none⟩)), (6, .pointer (some ⟨F.t, 0, none⟩)), (7, all), (8, .int .i64 s), (9, .int .i64 l), (10, .map (some F.N)), (11, .func (.func 7) #[] #[]), (12, .int .i64 k), (13, .int .i64 k)]

/-- What stands behind the doing. -/
def Sw (w0 : World) (F : Four) (sl : Value) (k : Nat) (S : St) (bx be bg bd : Nat) (x : Note5) (a : Act) (w : World) : Prop :=
  ∃ (A1 : Option Addr) (c1 : Nat) (A2 : Option Addr) (c2 n n2 m : Nat), n ≤ 2 * k + 2 ∧ n2 ≤ 2 * k + 2 ∧ m = S.L.length ∧
    Fr 425 a (base sl F (.slice A2 m c2) S.s S.l k ++ [(14, .pointer (some ⟨bx, 0, none⟩)), (15, .pointer (some ⟨be, 0, none⟩)), (20, .pointer (some ⟨bd, 0, none⟩))]) ∧
    Inv w0 F w A1 c1 S.L S.s S.l A2 c2 S.L n S.T k n2 S.T ∧ Loc F A1 A2 w bx be bg bd x k

theorem info36 : ∃ i, Try.prog.info? 36 = some i ∧ i.zero = some (.agg #[.int .i64 0, .int .i64 0, .slice none 0 0]) ∧ i.size = 3 ∧ i.bytes = 40 := by
  obtain ⟨i, hi, he⟩ : ∃ i, Try.prog.info? 36 = some i ∧ (i.zero, i.size, i.bytes) = (some (.agg #[.int .i64 0, .int .i64 0, .slice none 0 0]), 3, 40) := by
    have := Try.info36
    rw [Option.map_eq_some_iff] at this
    exact this
  simp only [Prod.mk.injEq] at he
  exact ⟨i, hi, he.1, he.2.1, he.2.2⟩

section
variable {w0 w : World} {F : Four} {A1 A2 : Option Addr} {c1 c2 s l n a n2 : Nat} {L1 L2 : List Msg} {T1 T2 : List Tg}
/-- One more behind the test's own list. -/
theorem Inv.snoc (h : Inv w0 F w A1 c1 L1 s l A2 c2 L2 n T1 a n2 T2) (hl : L2.length ≤ 100) {m : Msg} {g : Nat} (c : Nat) (hm : Byt w g m) :
    ∃ A2' c2' w', (Builtin.append_ #[32, 32] 32 #[.slice A2 L2.length c2, .slice (some ⟨w.heap.size, 0, none⟩) 1 1]).run Try.prog (w.alloc (.cells #[.int .i64 (m.frm : Int), .int .i64 (m.to : Int), .slice (some ⟨g, 0, none⟩) 2 c] 36)) = .ok (.slice A2' (L2.length + 1) c2') w' ∧
      Inv w0 F w' A1 c1 L1 s l A2' c2' (L2 ++ [m]) n T1 a n2 T2 ∧ Turn F A1 A2 w A1 A2' w' := by
  obtain ⟨i, hi, hz, hsz, hby⟩ := info36
  obtain ⟨wa, ha⟩ : ∃ wa, wa = w.alloc (.cells #[.int .i64 (m.frm : Int), .int .i64 (m.to : Int), .slice (some ⟨g, 0, none⟩) 2 c] 36) := ⟨_, rfl⟩
  have hb : Below w.heap.size w wa := by rw [ha]; exact (Below.refl _ w).alloc (Nat.le_refl _) _
  have hn : wa.heap[w.heap.size]? = some (.cells #[.int .i64 (m.frm : Int), .int .i64 (m.to : Int), .slice (some ⟨g, 0, none⟩) 2 c] 36 (0, 0)) := by rw [ha]; exact heap_alloc_new w _
  have h' := h.later hb
  obtain ⟨xs, hrow, hms⟩ := h'.all
  obtain ⟨A2', c2', w', hr, hrow', hg, hf⟩ := run_append_row (P := Try.prog) wa 32 32 36 i _ 3 40 Try.underlying32 hi hz hsz hby rfl (by omega) A2 L2.length c2 xs hrow ⟨w.heap.size, 0, none⟩ 1 1 [.int .i64 (m.frm : Int), .int .i64 (m.to : Int), .slice (some ⟨g, 0, none⟩) 2 c] rfl
    (fun j u hj => by rw [Addr.add_lit, Nat.zero_add, cell_of_row wa _ j _ _ _ hn]; simpa using hj) (by intro u hu; simp at hu; rcases hu with rfl | rfl | rfl <;> rfl) (by unfold maxLen; omega) (by omega)
  have h5 : Same5 wa w' := by
    intro k cs hk
    have := h'.out hk (by decide) (by decide) (by decide)
    rw [hg.block k this.lt this.A2]; exact hk
  have hhas : Has w' A2' c2' (L2 ++ [m]) := ⟨_, by rw [List.length_append]; exact hrow', (hms.snoc (hm.same (Below.same5 hb))).same h5⟩
  obtain ⟨q1, q2⟩ := h'.allT hhas hg hf
  rw [← ha]
  exact ⟨A2', c2', w', hr, q1, (turn_below hb).trans q2⟩
end

theorem Loc.cells {F : Four} {A1 A2 : Option Addr} {w : World} {bx be bg bd : Nat} {x : Note5} {k : Nat} (h : Loc F A1 A2 w bx be bg bd x k) :
    w.cell? ⟨be, 0, none⟩ = some (.int .i64 (x.f : Int)) ∧ w.cell? ⟨be, 1, none⟩ = some (.int .i64 (x.t : Int)) ∧ w.cell? ⟨be, 2, none⟩ = some (.slice (some ⟨bg, 0, none⟩) 2 2) ∧
    w.cell? ⟨bx, 0, none⟩ = some (.int .u8 x.kind.toNat) ∧ w.cell? ⟨bx, 1, none⟩ = some (.int .u8 x.frm.toNat) ∧ w.cell? ⟨bx, 2, none⟩ = some (.int .u8 x.to.toNat) ∧ w.cell? ⟨bx, 3, none⟩ = some (.int .u8 x.i.toNat) ∧ w.cell? ⟨bx, 4, none⟩ = some (.int .u8 x.byte.toNat) := by
  refine ⟨?_, ?_, ?_, ?_, ?_, ?_, ?_, ?_⟩
  · rw [cell_of_row w be 0 _ _ _ h.ce]; rfl
  · rw [cell_of_row w be 1 _ _ _ h.ce]; rfl
  · rw [cell_of_row w be 2 _ _ _ h.ce]; rfl
  · rw [cell_of_row w bx 0 _ _ _ h.cx]; rfl
  · rw [cell_of_row w bx 1 _ _ _ h.cx]; rfl
  · rw [cell_of_row w bx 2 _ _ _ h.cx]; rfl
  · rw [cell_of_row w bx 3 _ _ _ h.cx]; rfl
  · rw [cell_of_row w bx 4 _ _ _ h.cx]; rfl

end Go.Proofs.Ytbegeijofpgliab
