/-
  The ledger in memory; its small functions; Tag.
-/
import Derived.Test.YtbegeijofpgliabKeys
import Derived.Test.YtbegeijofpgliabBagA
import Derived.Deep.MidRow
import Derived.Deep.RegionLaw
namespace Go.Proofs.Ytbegeijofpgliab
open Go.RowKit Go.Maps

abbrev Dw := DataW Unit

/-- A map that has just the keys of some tags. -/
def IsSet (key : Tg → Lit) (D : Dw) (T : List Tg) : Prop := Maps.size D = T.length ∧ ∀ x : Tg, x.Ok → Maps.has D (key x) = decide (x ∈ T)

theorem IsSet.put {key : Tg → Lit} {D : Dw} {T : List Tg} (h : IsSet key D T) (ht : Tidy D) (hk : ∀ x, WideAt.IsKeyLit (key x)) (hinj : ∀ x y : Tg, x.Ok → y.Ok → key x = key y → x = y) {x : Tg} (hx : x.Ok) (d : Dw) : IsSet key (D.put (key x) d) (ins T x) := by
  refine ⟨?_, fun y hy => ?_⟩
  · rw [size_put ht, h.2 x hx, h.1]
    unfold ins
    by_cases hm : x ∈ T
    · simp [hm]
    · simp [hm]
  · by_cases e : y = x
    · subst e
      rw [has_put_same ht.isMap (hk y)]
      simp [mem_ins]
    · rw [has_put_other (fun e' => e (hinj y x hy hx e')), h.2 y hy]
      simp [mem_ins, e]

/-- The ledger in memory. -/
structure Led (w : World) (g M n : Nat) (T : List Tg) (a : Nat) : Prop where
  is : w.heap[g]? = some (.cells #[.map (some M), .int .i64 a] 61 (0, 0))
  has : ∃ D : Dw, w.ownsMap Try.prog 67 unitElem M n D ∧ IsSet kL D T

/-- Worlds behind a call that turns a ledger alone. -/
structure KeptL (g M : Nat) (w w' : World) : Prop where
  os : w'.os = w.os
  tape : w'.tape = w.tape
  output : w'.output = w.output
  size : w.heap.size ≤ w'.heap.size
  block : ∀ k, k < w.heap.size → k ≠ g → k ≠ M → w'.heap[k]? = w.heap[k]?

theorem Led.cells {w : World} {g M n : Nat} {T : List Tg} {a : Nat} (h : Led w g M n T a) : w.cell? ⟨g, 0, none⟩ = some (.map (some M)) ∧ w.cell? ⟨g, 1, none⟩ = some (.int .i64 a) ∧ ∀ j, w.frozen? ⟨g, j, none⟩ = false :=
  ⟨by rw [cell_of_row w g 0 _ _ _ h.is]; rfl, by rw [cell_of_row w g 1 _ _ _ h.is]; rfl, fun j => frozen_of_row w g j _ _ h.is⟩

theorem Led.lt {w : World} {g M n : Nat} {T : List Tg} {a : Nat} (h : Led w g M n T a) : g < w.heap.size ∧ M < w.heap.size :=
  ⟨(Array.getElem?_eq_some_iff.1 h.is).1, by obtain ⟨D, h1, _⟩ := h.has; exact h1.lt⟩

theorem Led.ne {w : World} {g M n : Nat} {T : List Tg} {a : Nat} (h : Led w g M n T a) : g ≠ M := by
  rintro rfl
  obtain ⟨D, ⟨es, c, h1, _⟩, _⟩ := h.has
  rw [h.is] at h1
  simp at h1

theorem Led.other {w w' : World} {g M n : Nat} {T : List Tg} {a : Nat} (h : Led w g M n T a) (hb : ∀ k, k = g ∨ k = M → w'.heap[k]? = w.heap[k]?) : Led w' g M n T a := by
  obtain ⟨D, ⟨es, c, h1, h2⟩, h3⟩ := h.has
  exact ⟨by rw [hb g (.inl rfl)]; exact h.is, D, ⟨es, c, by rw [hb M (.inr rfl)]; exact h1, h2⟩, h3⟩

theorem Led.later {w w' : World} {g M n : Nat} {T : List Tg} {a : Nat} (h : Led w g M n T a) (hb : Below w.heap.size w w') : Led w' g M n T a :=
  h.other fun k hk => hb.block k (by rcases hk with rfl | rfl; exact h.lt.1; exact h.lt.2)

theorem Led.size {w : World} {g M n : Nat} {T : List Tg} {a : Nat} (h : Led w g M n T a) : T.length ≤ n := by
  obtain ⟨D, h1, h2⟩ := h.has
  rw [← h2.1]; exact h1.size_le

theorem named27 (n : Nat) (w : World) : Calls Try.prog 27 #[.int .i64 (n : Int)] w fun e w' => e = .returned (.bool (named n)) ∧ w' = w := by
  by_cases h1 : (1 : Int) ≤ (n : Int)
  · have d1 : decide ((n : Int) ≥ 1) = true := by simpa using h1
    by_cases h2 : (n : Int) ≤ 34
    · have d2 : decide ((n : Int) ≤ 34) = true := by simpa using h2
      go_enter Try.func27, Try.ntmps27
      go_wp2
      go_ret
      exact ⟨ret_b (by simp [named]; omega), rfl⟩
    · have d2 : decide ((n : Int) ≤ 34) = false := by simpa using h2
      go_enter Try.func27, Try.ntmps27
      go_wp2
      go_ret
      exact ⟨ret_b (by simp [named]; omega), rfl⟩
  · have d1 : decide ((n : Int) ≥ 1) = false := by simpa using h1
    go_enter Try.func27, Try.ntmps27
    go_wp2
    go_ret
    exact ⟨ret_b (by simp [named]; omega), rfl⟩

theorem none26 {w : World} {g M n : Nat} {T : List Tg} {a : Nat} (h : Led w g M n T a) : Calls Try.prog 26 #[.pointer (some ⟨g, 0, none⟩)] w fun e w' => e = .returned (.bool false) ∧ w' = w := by
  obtain ⟨h0, h1, h2⟩ := h.cells
  have q59 : (binOp .eql 59 (.map (some M)) (.map none)).run Try.prog w = .ok (.bool false) w := by kernel_rfl
  have H := Lib.hid h
  clear h
  go_enter Try.func26, Try.ntmps26
  go_wp2_with fail
  go_ret
  exact ⟨rfl, rfl⟩

theorem len15 {w : World} {g M n : Nat} {T : List Tg} {a : Nat} (h : Led w g M n T a) : Calls Try.prog 15 #[.pointer (some ⟨g, 0, none⟩)] w fun e w' => e = .returned (.int .i64 T.length) ∧ w' = w := by
  obtain ⟨h0, h1, h2⟩ := h.cells
  obtain ⟨D, h3, h4⟩ := h.has
  have hl := h3.len Try.underlying59 (ty := 3)
  rw [h4.1] at hl
  have H := Lib.hid h
  clear h h3 h4
  go_enter Try.func15, Try.ntmps15
  go_wp2_with fail
  with_reducible refine (none26 H.out).mono ?_
  rintro e w1 ⟨rfl, rfl⟩
  go_wp2_with fail
  go_ret
  exact ⟨rfl, rfl⟩

theorem asked16 {w : World} {g M n : Nat} {T : List Tg} {a : Nat} (h : Led w g M n T a) : Calls Try.prog 16 #[.pointer (some ⟨g, 0, none⟩)] w fun e w' => e = .returned (.int .i64 a) ∧ w' = w := by
  obtain ⟨h0, h1, h2⟩ := h.cells
  have H := Lib.hid h
  clear h
  go_enter Try.func16, Try.ntmps16
  go_wp2_with fail
  with_reducible refine (none26 H.out).mono ?_
  rintro e w1 ⟨rfl, rfl⟩
  go_wp2_with fail
  with_reducible refine (load28 h1).mono ?_
  rintro e w1 ⟨rfl, rfl⟩
  go_wp2_with fail
  go_ret
  exact ⟨rfl, rfl⟩

/-- The cells of a digest, whole. -/
def digA (d : Nat) : Array Value := (dig d).toArray

/-- Where a digest lies. -/
def DigAt (w : World) (b d : Nat) : Prop := w.heap[b]? = some (.cells (digA d) 40 (0, 0))

theorem DigAt.cells {w : World} {b d : Nat} (h : DigAt w b d) : w.cell? ⟨b, 0, none⟩ = some (.int .u8 (d : Int)) ∧ w.cell? ⟨b, 1, none⟩ = some (.int .u8 0) ∧ w.cell? ⟨b, 2, none⟩ = some (.int .u8 0) ∧ w.cell? ⟨b, 3, none⟩ = some (.int .u8 0) ∧ w.cell? ⟨b, 4, none⟩ = some (.int .u8 0) ∧ w.cell? ⟨b, 5, none⟩ = some (.int .u8 0) ∧ w.cell? ⟨b, 6, none⟩ = some (.int .u8 0) ∧ w.cell? ⟨b, 7, none⟩ = some (.int .u8 0) ∧ w.cell? ⟨b, 8, none⟩ = some (.int .u8 0) ∧ w.cell? ⟨b, 9, none⟩ = some (.int .u8 0) ∧ w.cell? ⟨b, 10, none⟩ = some (.int .u8 0) ∧ w.cell? ⟨b, 11, none⟩ = some (.int .u8 0) ∧ w.cell? ⟨b, 12, none⟩ = some (.int .u8 0) ∧ w.cell? ⟨b, 13, none⟩ = some (.int .u8 0) ∧ w.cell? ⟨b, 14, none⟩ = some (.int .u8 0) ∧ w.cell? ⟨b, 15, none⟩ = some (.int .u8 0) ∧ w.cell? ⟨b, 16, none⟩ = some (.int .u8 0) ∧ w.cell? ⟨b, 17, none⟩ = some (.int .u8 0) ∧ w.cell? ⟨b, 18, none⟩ = some (.int .u8 0) ∧ w.cell? ⟨b, 19, none⟩ = some (.int .u8 0) ∧ w.cell? ⟨b, 20, none⟩ = some (.int .u8 0) ∧ w.cell? ⟨b, 21, none⟩ = some (.int .u8 0) ∧ w.cell? ⟨b, 22, none⟩ = some (.int .u8 0) ∧ w.cell? ⟨b, 23, none⟩ = some (.int .u8 0) ∧ w.cell? ⟨b, 24, none⟩ = some (.int .u8 0) ∧ w.cell? ⟨b, 25, none⟩ = some (.int .u8 0) ∧ w.cell? ⟨b, 26, none⟩ = some (.int .u8 0) ∧ w.cell? ⟨b, 27, none⟩ = some (.int .u8 0) ∧ w.cell? ⟨b, 28, none⟩ = some (.int .u8 0) ∧ w.cell? ⟨b, 29, none⟩ = some (.int .u8 0) ∧ w.cell? ⟨b, 30, none⟩ = some (.int .u8 0) ∧ w.cell? ⟨b, 31, none⟩ = some (.int .u8 1) := by
  have hc : ∀ (j : Nat) (v : Value), (dig d)[j]? = some v → w.cell? ⟨b, j, none⟩ = some v := fun j v hj => by
    rw [cell_of_row w b j _ _ _ h]
    simpa [digA] using hj
  refine ⟨hc _ _ rfl, hc _ _ rfl, hc _ _ rfl, hc _ _ rfl, hc _ _ rfl, hc _ _ rfl, hc _ _ rfl, hc _ _ rfl, hc _ _ rfl, hc _ _ rfl, hc _ _ rfl, hc _ _ rfl, hc _ _ rfl, hc _ _ rfl, hc _ _ rfl, hc _ _ rfl, hc _ _ rfl, hc _ _ rfl, hc _ _ rfl, hc _ _ rfl, hc _ _ rfl, hc _ _ rfl, hc _ _ rfl, hc _ _ rfl, hc _ _ rfl, hc _ _ rfl, hc _ _ rfl, hc _ _ rfl, hc _ _ rfl, hc _ _ rfl, hc _ _ rfl, hc _ _ rfl⟩

theorem led_put {w w' : World} {g M n : Nat} {T : List Tg} {a a' : Nat} {x : Tg} {D : Dw} (h : Led w g M n T a) (hD : w.ownsMap Try.prog 67 unitElem M n D) (hs : IsSet kL D T) (hx : x.Ok) (ha : a' = a) (h1 : w'.ownsMap Try.prog 67 unitElem M (n + 1) (D.put (kL x) (.agg []))) (h2 : w.drew.grownBy w' (some M)) :
    Led w' g M (n + 1) (ins T x) a' ∧ KeptL g M w w' := by
  subst ha
  refine ⟨⟨?_, _, h1, hs.put (hD.tidy Try.law67) (fun _ => trivial) (fun _ _ => kL_inj) hx _⟩, ⟨h2.os, h2.tape, h2.output, h2.size, fun k e1 _ e3 => h2.block k e1 (by simpa using e3)⟩⟩
  rw [h2.block g h.lt.1 (by simpa using h.ne)]
  exact h.is

theorem KeptL.below {g M : Nat} {w w' w'' : World} (h : KeptL g M w' w'') (hb : Below w.heap.size w w') : KeptL g M w w'' :=
  ⟨h.os.trans hb.os, h.tape.trans hb.tape, h.output.trans hb.output, Nat.le_trans hb.size h.size, fun k e1 e2 e3 => by rw [h.block k (Nat.lt_of_lt_of_le e1 hb.size) e2 e3]; exact hb.block k e1⟩

/-- A tag's key, as the walk spells it. -/
theorem tag_key (x : Tg) (cs : List Value) (h : cs = dig x.d) :
    (List.foldl (fun (cs : Array Value) (x : Value × Nat) => cs.setIfInBounds (2 + x.snd) x.fst)
      #[Value.int IntKind.i64 (x.frm : Int), Value.int IntKind.i64 (x.to : Int), Value.int IntKind.u8 0, Value.int IntKind.u8 0, Value.int IntKind.u8 0, Value.int IntKind.u8 0, Value.int IntKind.u8 0, Value.int IntKind.u8 0, Value.int IntKind.u8 0, Value.int IntKind.u8 0, Value.int IntKind.u8 0, Value.int IntKind.u8 0, Value.int IntKind.u8 0, Value.int IntKind.u8 0, Value.int IntKind.u8 0, Value.int IntKind.u8 0, Value.int IntKind.u8 0, Value.int IntKind.u8 0, Value.int IntKind.u8 0, Value.int IntKind.u8 0, Value.int IntKind.u8 0, Value.int IntKind.u8 0, Value.int IntKind.u8 0, Value.int IntKind.u8 0, Value.int IntKind.u8 0, Value.int IntKind.u8 0, Value.int IntKind.u8 0, Value.int IntKind.u8 0, Value.int IntKind.u8 0, Value.int IntKind.u8 0, Value.int IntKind.u8 0, Value.int IntKind.u8 0, Value.int IntKind.u8 0, Value.int IntKind.u8 0] cs.zipIdx) = (.int .i64 (x.frm : Int) :: .int .i64 (x.to : Int) :: dig x.d).toArray := by
  subst h
  kernel_rfl

end Go.Proofs.Ytbegeijofpgliab
