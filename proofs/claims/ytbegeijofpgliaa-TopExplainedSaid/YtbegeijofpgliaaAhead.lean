/-
  The walk of ahead: the sets of operations that are ahead of each.
-/
import Derived.Test.YtbegeijofpgliaaOrders
import Derived.Test.YtbegeijofpgliaaBits
namespace Go.Proofs.Ytbegeijofpgliaa
open Go.RowKit

def isEnded (l : List LOp) (i : Nat) : Bool := decide (0 < (opAt l i).fin)
def isAhead (l : List LOp) (i k : Nat) : Bool := decide (0 < (opAt l k).fin) && decide ((opAt l k).fin < (opAt l i).beg)
def aheadSet (l : List LOp) (i n : Nat) : Nat := bitsOf ((List.range n).filter (isAhead l i))
def endedSet (l : List LOp) (n : Nat) : Nat := bitsOf ((List.range n).filter (isEnded l))

theorem ahead_lt {l : List LOp} {i q : Nat} : ∀ j ∈ (List.range q).filter (isAhead l i), j < q := by
  intro j hj; simp at hj; exact hj.1
theorem ended_lt {l : List LOp} {q : Nat} : ∀ j ∈ (List.range q).filter (isEnded l), j < q := by
  intro j hj; simp at hj; exact hj.1

theorem set_yes {l : List LOp} {i q : Nat} (h : isAhead l i q = true) (hq : q ≤ 60) : Value.int .i64 (bits .or .i64 (bitsOf ((List.range q).filter (isAhead l i)) : Nat) (wrap64 (2 ^ q))) = .int .i64 (bitsOf ((List.range (q + 1)).filter (isAhead l i)) : Nat) := by
  rw [bits_more ahead_lt hq hq, filter_range_succ, h]; rfl

theorem set_no {l : List LOp} {i q : Nat} (h : isAhead l i q = false) : Value.int .i64 (bitsOf ((List.range q).filter (isAhead l i)) : Nat) = .int .i64 (bitsOf ((List.range (q + 1)).filter (isAhead l i)) : Nat) := by
  rw [filter_range_succ, h]; simp

theorem end_yes {l : List LOp} {q : Nat} (h : isEnded l q = true) (hq : q ≤ 60) : Value.int .i64 (bits .or .i64 (endedSet l q : Nat) (wrap64 (2 ^ q))) = .int .i64 (endedSet l (q + 1) : Nat) := by
  unfold endedSet
  rw [bits_more ended_lt hq hq, filter_range_succ, h]; rfl

theorem end_no {l : List LOp} {q : Nat} (h : isEnded l q = false) : Value.int .i64 (endedSet l q : Nat) = .int .i64 (endedSet l (q + 1) : Nat) := by
  unfold endedSet
  rw [filter_range_succ, h]; simp

theorem nats_snoc (o : List Nat) (x : Nat) : nats o ++ [.int .i64 (x : Int)] = nats (o ++ [x]) := by simp [nats]

theorem below_past {B : Nat} {w a b : World} (h : Below B w a) (h2 : Below a.heap.size a b) (hB : B ≤ a.heap.size) : Below B w b := h.trans (h2.mono hB)

set_option maxHeartbeats 2000000 in
theorem ahead_any (l : List LOp) (A : Option Addr) (c : Nat) (w : World) (hn : l.length ≤ 14) (hh : Hist w A l) :
    Calls Try.prog 13 #[.slice A l.length c] w fun e w' => ∃ v, e = .returned (.tuple #[v, .int .i64 (endedSet l l.length : Nat)]) ∧ w'.ownsRow w.heap.size 3 1 v l.length (nats ((List.range l.length).map fun i => aheadSet l i l.length)) ∧ Below w.heap.size w w' := by
  obtain ⟨i0, hi, hz0, hz1, hz2⟩ := info_parts Try.info3
  have Hh := Lib.hid hh
  clear hh
  obtain ⟨n, hln⟩ : ∃ n, n = l.length := ⟨_, rfl⟩
  rw [← hln] at hn ⊢
  have Hln := Lib.hid hln
  clear hln
  go_enter Try.func13, Try.ntmps13
  go_wp2_with fail
  go_loopw [11, 2, 3, 4, 5, 6, 7, 8] (fun i out en _ _ _ _ _ wr => ∃ k : Nat, k ≤ n ∧ i = .int .i64 k ∧ en = .int .i64 (endedSet l k : Nat) ∧ wr.ownsRow w.heap.size 3 1 out k (nats ((List.range k).map fun i => aheadSet l i n)) ∧ Below w.heap.size w wr) (fun i _ _ _ _ _ _ _ _ => n - (intOf i).toNat)
  case atStart => exact ⟨0, by omega, rfl, rfl, World.ownsRow_nil _ _ _ _, Below.refl _ _⟩
  case round =>
    obtain ⟨k, hk, rfl, rfl, hown, hb⟩ := hrel
    by_cases hlt : k < n
    · obtain ⟨b, rfl, hop⟩ := Hh.out (by rw [← Hln.out]; omega)
      obtain ⟨h0, ⟨g, h1, h1'⟩, h2, h3⟩ := (hop k (by rw [← Hln.out]; exact hlt)).below hb
      have Hop := Lib.hid hop
      have Hown := Lib.hid hown
      clear hop h1' hown
      go_wp2_with fail
      obtain ⟨wo, rfl⟩ : ∃ wo : World, wo = wr := ⟨_, rfl⟩
      go_loopw [18, 6, 7, 8] (fun i set _ _ wr => ∃ q : Nat, q ≤ n ∧ i = .int .i64 q ∧ set = .int .i64 (bitsOf ((List.range q).filter (isAhead l k)) : Nat) ∧
          Below (wo.heap.size + 1) (wo.alloc (.cells #[.bool (opAt l k).wr, .slice (some ⟨g, 0, none⟩) 1 1, .int .i64 (opAt l k).beg, .int .i64 (opAt l k).fin] 25)) wr) (fun i _ _ _ _ => n - (intOf i).toNat)
      case atStart => exact ⟨0, by omega, rfl, rfl, Below.refl _ _⟩
      case round =>
        obtain ⟨q, hq, rfl, rfl, hb2⟩ := hrel
        have hcx := hb2.cell (p := ⟨wo.heap.size, 2, none⟩) (by simp)
        have hcf := hb2.cell (p := ⟨wo.heap.size, 3, none⟩) (by simp)
        have hsz : wo.heap.size < wr.heap.size := by have := hb2.size; simp at this; omega
        rw [World.cell?_alloc_at _ _ _ _ rfl] at hcx hcf
        simp at hcx hcf
        have hbw : Below w.heap.size w wr := (hb.alloc hb.size _).trans (hb2.mono (by have := hb.size; omega))
        by_cases hlq : q < n
        · obtain ⟨h0, ⟨g', h1, h1'⟩, h2, h3⟩ := (Hop.out q (by rw [← Hln.out]; exact hlq)).below hbw
          have hb3 := Lib.hid (hb2.alloc (by omega) (.cells #[.bool (opAt l q).wr, .slice (some ⟨g', 0, none⟩) 1 1, .int .i64 (opAt l q).beg, .int .i64 (opAt l q).fin] 25))
          by_cases c1 : 0 < (opAt l q).fin
          · have d1 : decide (0 < (opAt l q).fin) = true := by simpa using c1
            by_cases c2 : (opAt l q).fin < (opAt l k).beg
            · have d2 : decide ((opAt l q).fin < (opAt l k).beg) = true := by simpa using c2
              have hy : isAhead l k q = true := by unfold isAhead; rw [d1, d2]; rfl
              have Hy := Lib.hid hy
              clear hy
              go_wp2_with fail
              go_roundw
              case rel => exact ⟨q + 1, by omega, by go_num, set_yes Hy.out (by omega), hb3.out⟩
              case measure => simp [intOf]; omega
            · have d2 : decide ((opAt l q).fin < (opAt l k).beg) = false := by simpa using c2
              have hy : isAhead l k q = false := by unfold isAhead; rw [d1, d2]; rfl
              have Hy := Lib.hid hy
              clear hy
              go_wp2_with fail
              go_roundw
              case rel => exact ⟨q + 1, by omega, by go_num, set_no Hy.out, hb3.out⟩
              case measure => simp [intOf]; omega
          · have d1 : decide (0 < (opAt l q).fin) = false := by simpa using c1
            have hy : isAhead l k q = false := by unfold isAhead; rw [d1]; rfl
            have Hy := Lib.hid hy
            clear hy
            go_wp2_with fail
            go_roundw
            case rel => exact ⟨q + 1, by omega, by go_num, set_no Hy.out, hb3.out⟩
            case measure => simp [intOf]; omega
        · obtain rfl : q = n := by omega
          have hown : wr.ownsRow w.heap.size 3 1 u2 k (nats ((List.range k).map fun i => aheadSet l i q)) :=
            own_below Hown.out (((Below.refl _ _).alloc (Nat.le_refl _) _).trans (hb2.mono (by omega)))
          have hne : some wo.heap.size ≠ u2.ownBlock := by
            intro h
            have := (Hown.out.lt _ h.symm).2
            omega
          have Hne := Lib.hid hne
          clear hne
          have hsn := nats_snoc ((List.range k).map fun i => aheadSet l i q) (aheadSet l k q)
          rw [show ((List.range k).map fun i => aheadSet l i q) ++ [aheadSet l k q] = (List.range (k + 1)).map fun i => aheadSet l i q from by rw [List.range_succ, List.map_append]; rfl] at hsn
          have Hsn := Lib.hid hsn
          clear hsn
          by_cases c1 : 0 < (opAt l k).fin
          · have d1 : decide (0 < (opAt l k).fin) = true := by simpa using c1
            go_wp2_with (first | (at_builtin; refine wpList_append_own _ rfl (.tmp 38) (.tmp 40) 35 rfl w.heap.size 3 i0 (.int .i64 0) 1 8 Try.underlying35 hi hz0 hz1 hz2 rfl (by decide) _ _ _ rfl (hown.alloc _) ⟨wr.heap.size, 0, none⟩ 1 1 [.int .i64 (aheadSet l k q : Nat)] rfl rfl (cell_one_new _ _ _) (by intro u hu; simp at hu; subst hu; rfl) (by unfold maxLen; omega) (by omega) (by have := hbw.size; simp; omega) ?_; intro v' w2 hown2 hgrow2 _; have hcf2 := hgrow2.cell (a := ⟨wo.heap.size, 3, none⟩) (v := .int .i64 (opAt l k).fin) (by rw [World.cell?_alloc_past _ _ _ hsz]; exact hcf) Hne.out))
            have hb3 : Below w.heap.size w w2 := (hbw.alloc hbw.size _).grown hgrow2 (by have := hbw.size; simp; omega) (fun j hj => (hown.lt j hj).1)
            rw [Hsn.out] at hown2
            go_roundw
            case rel => exact ⟨k + 1, by omega, by go_num, end_yes (by unfold isEnded; exact d1) (by omega), hown2, hb3⟩
            case measure => simp [intOf]; omega
          · have d1 : decide (0 < (opAt l k).fin) = false := by simpa using c1
            go_wp2_with (first | (at_builtin; refine wpList_append_own _ rfl (.tmp 38) (.tmp 40) 35 rfl w.heap.size 3 i0 (.int .i64 0) 1 8 Try.underlying35 hi hz0 hz1 hz2 rfl (by decide) _ _ _ rfl (hown.alloc _) ⟨wr.heap.size, 0, none⟩ 1 1 [.int .i64 (aheadSet l k q : Nat)] rfl rfl (cell_one_new _ _ _) (by intro u hu; simp at hu; subst hu; rfl) (by unfold maxLen; omega) (by omega) (by have := hbw.size; simp; omega) ?_; intro v' w2 hown2 hgrow2 _; have hcf2 := hgrow2.cell (a := ⟨wo.heap.size, 3, none⟩) (v := .int .i64 (opAt l k).fin) (by rw [World.cell?_alloc_past _ _ _ hsz]; exact hcf) Hne.out))
            have hb3 : Below w.heap.size w w2 := (hbw.alloc hbw.size _).grown hgrow2 (by have := hbw.size; simp; omega) (fun j hj => (hown.lt j hj).1)
            rw [Hsn.out] at hown2
            go_roundw
            case rel => exact ⟨k + 1, by omega, by go_num, end_no (by unfold isEnded; exact d1), hown2, hb3⟩
            case measure => simp [intOf]; omega
    · obtain rfl : k = n := by omega
      go_wp2_with fail
      go_ret2
      exact ⟨_, rfl, hown, hb⟩
end Go.Proofs.Ytbegeijofpgliaa
