/-
  The walk of TopExplained, whole.
-/
import Derived.Test.YtbegeijofpgliaaTop
import Derived.Deep.RegionLaw
namespace Go.Proofs.Ytbegeijofpgliaa
open Go.RowKit Go.Maps

theorem explained_lit (ps : List (LOp × Nat)) (l : List LOp) (fst : UInt8) (w : World) (hl : l = ps.map Prod.fst) (hn : l.length ≤ 14) (hv : Vals w ps) (hb : ¬ anyBad l) (n : Nat) (hnn : n = l.length) (cs : Array Value) (hcs : cs = (histCells ps).toArray) :
    Calls Try.prog 5 #[.slice (some ⟨w.heap.size, 0, none⟩) n n, .string ⟨#[fst]⟩] (w.alloc (.cells cs 25)) fun e w' => e = .returned (.tuple #[.bool (ord l fst (l.length + 1) []).isSome, .bool true]) ∧ Below w.heap.size w w' := by
  subst hnn; subst hcs
  have hh := hist_lit w ps hv
  rw [← hl] at hh
  exact (explained_any l _ _ fst _ hn hh hb).mono fun e w' ⟨h1, h2⟩ => ⟨h2, (below_alloc1 _ _).trans (h1.mono (by simp))⟩

theorem check_lit (ps : List (LOp × Nat)) (l : List LOp) (w : World) (hl : l = ps.map Prod.fst) (hn : l.length ≤ 14) (hv : Vals w ps) (n : Nat) (hnn : n = l.length) (cs : Array Value) (hcs : cs = (histCells ps).toArray) :
    Calls Try.prog 6 #[.slice (some ⟨w.heap.size, 0, none⟩) n n] (w.alloc (.cells cs 25)) fun e w' => e = .returned (.int .i64 (checkE l)) ∧ Below w.heap.size w w' := by
  subst hnn; subst hcs
  have hh := hist_lit w ps hv
  rw [← hl] at hh
  exact (check_any l _ _ _ hn hh).mono fun e w' ⟨h1, h2⟩ => ⟨h1, (below_alloc1 _ _).trans (h2.mono (by simp))⟩

theorem Try.info25 : (Try.prog.info? 25).map (fun i => (i.zero, i.size, i.bytes)) = some (some (.agg #[.bool false, .slice none 0 0, .int .i64 0, .int .i64 0]), 4, 48) := by kernel_rfl

/-- The cells of the argument's elements. -/
def ArgAt (w : World) (A : Option Addr) (n : Nat) : Prop := ∀ k, k < n → ∃ (b off : Nat) (wr : Bool) (v bg en : Int), A = some ⟨b, off, none⟩ ∧ w.cell? ⟨b, off + k * 4, none⟩ = some (.bool wr) ∧ w.cell? ⟨b, off + k * 4 + 1, none⟩ = some (.int .u8 v) ∧
  w.cell? ⟨b, off + k * 4 + 2, none⟩ = some (.int .u8 bg) ∧ w.cell? ⟨b, off + k * 4 + 3, none⟩ = some (.int .u8 en) ∧ (0 ≤ v ∧ v ≤ 255) ∧ (0 ≤ bg ∧ bg ≤ 255) ∧ (0 ≤ en ∧ en ≤ 255)

def made60 : Array Value := madeCells (Value.agg #[.bool false, .slice none 0 0, .int .i64 0, .int .i64 0]).cells 60

theorem make15 (w : World) : (Instr.makeSlice 29 (.int .i64 15) (.int .i64 15)).run Try.prog w = .ok (.slice (some ⟨w.heap.size, 0, none⟩) 15 15) (w.alloc (.cells made60 25)) := by
  obtain ⟨i1, hi, hz0, hz1, hz2⟩ := info_parts Try.info25
  have h := run_make (P := Try.prog) w 29 25 i1 _ Try.underlying29 hi hz0 .i64 .i64 15 15 (by omega) (by omega) (by rw [hz2]; omega) (by omega)
  rw [hz1] at h
  exact h

set_option maxRecDepth 100000 in
set_option maxHeartbeats 4000000 in
theorem top_any (A : Option Addr) (n c : Nat) (fst : Int) (w : World) (hf0 : 0 ≤ fst) (hf1 : fst ≤ 255) (ha : ArgAt w A n) :
    Calls Try.prog 3 #[.slice A n c, .int .u8 fst] w fun e w' => e = .returned (.bool true) ∧ Below w.heap.size w w' := by
  obtain ⟨i1, hi, hz0, hz1, hz2⟩ := info_parts Try.info25
  have hyes := yes_found
  have hno := no_found
  have Ha := Lib.hid ha
  clear ha
  have Hyes := Lib.hid hyes
  have Hno := Lib.hid hno
  clear hyes hno
  go_enter Try.func3, Try.ntmps3
  go_wp2_with fail
  with_reducible refine (op_any _ _ _ _ _).mono ?_
  rintro e w1 ⟨hb1, g1, rfl, hg1⟩
  go_wp2_with fail
  with_reducible refine (op_any _ _ _ _ _).mono ?_
  rintro e w2 ⟨hb2, g2, rfl, hg2⟩
  go_wp2_with fail
  with_reducible refine (op_any _ _ _ _ _).mono ?_
  rintro e w3 ⟨hb3, g3, rfl, hg3⟩
  have hv3 : Vals w3 [(⟨true, 1, 1, 0⟩, g1), (⟨false, 1, 2, 3⟩, g2), (⟨false, 1, 4, 5⟩, g3)] :=
    vals_snoc (ps := [_, _]) ((vals_snoc (ps := [_]) ((vals_one (x := ⟨true, 1, 1, 0⟩) hg1 rfl).below hb2) hg2 rfl).below hb3) hg3 rfl
  have Hex := Lib.hid (explained_lit _ yes59 0 w3 rfl (by decide) hv3 yes_good 3 rfl #[.bool true, .slice (some ⟨g1, 0, none⟩) 1 1, .int .i64 1, .int .i64 0, .bool false, .slice (some ⟨g2, 0, none⟩) 1 1, .int .i64 2, .int .i64 3, .bool false, .slice (some ⟨g3, 0, none⟩) 1 1, .int .i64 4, .int .i64 5] rfl)
  have Hb3 := Lib.hid ((hb1.trans (hb2.mono hb1.size)).trans (hb3.mono (by have := hb1.size; have := hb2.size; omega)))
  clear hb1 hb2 hb3 hg1 hg2 hg3 hv3
  go_wp2_with fail
  with_reducible refine Hex.out.mono ?_
  rintro e w4 ⟨rfl, hb4⟩
  rw [Hyes.out]
  have Hb4 := Lib.hid (Hb3.out.trans (hb4.mono Hb3.out.size))
  clear hb4
  go_wp2_with fail
  with_reducible refine (op_any _ _ _ _ _).mono ?_
  rintro e w5 ⟨hb1, g1, rfl, hg1⟩
  go_wp2_with fail
  with_reducible refine (op_any _ _ _ _ _).mono ?_
  rintro e w6 ⟨hb2, g2, rfl, hg2⟩
  go_wp2_with fail
  with_reducible refine (op_any _ _ _ _ _).mono ?_
  rintro e w7 ⟨hb3, g3, rfl, hg3⟩
  have hv3 : Vals w7 [(⟨true, 1, 1, 0⟩, g1), (⟨false, 1, 2, 3⟩, g2), (⟨false, 0, 4, 5⟩, g3)] :=
    vals_snoc (ps := [_, _]) ((vals_snoc (ps := [_]) ((vals_one (x := ⟨true, 1, 1, 0⟩) hg1 rfl).below hb2) hg2 rfl).below hb3) hg3 rfl
  have Hex := Lib.hid (explained_lit _ no59 0 w7 rfl (by decide) hv3 no_good 3 rfl #[.bool true, .slice (some ⟨g1, 0, none⟩) 1 1, .int .i64 1, .int .i64 0, .bool false, .slice (some ⟨g2, 0, none⟩) 1 1, .int .i64 2, .int .i64 3, .bool false, .slice (some ⟨g3, 0, none⟩) 1 1, .int .i64 4, .int .i64 5] rfl)
  have Hb7 := Lib.hid (Hb4.out.trans (((hb1.trans (hb2.mono hb1.size)).trans (hb3.mono (by have := hb1.size; have := hb2.size; omega))).mono Hb4.out.size))
  clear hb1 hb2 hb3 hg1 hg2 hg3 hv3
  go_wp2_with fail
  with_reducible refine Hex.out.mono ?_
  rintro e w8 ⟨rfl, hb8⟩
  rw [Hno.out]
  have Hb8 := Lib.hid (Hb7.out.trans (hb8.mono Hb7.out.size))
  clear hb8
  go_wp2_with fail
  with_reducible refine (op_any _ _ _ _ _).mono ?_
  rintro e w9 ⟨hb1, g1, rfl, hg1⟩
  have Hck := Lib.hid (check_lit [(⟨true, 1, 0, 4⟩, g1)] bad1 w9 rfl (by decide) (vals_one hg1 rfl) 1 rfl #[.bool true, .slice (some ⟨g1, 0, none⟩) 1 1, .int .i64 0, .int .i64 4] rfl)
  have Hb9 := Lib.hid (Hb8.out.trans (hb1.mono Hb8.out.size))
  clear hb1 hg1
  go_wp2_with fail
  with_reducible refine Hck.out.mono ?_
  rintro e w10 ⟨rfl, hb1⟩
  rw [bad1_check]
  have Hb10 := Lib.hid (Hb9.out.trans (hb1.mono Hb9.out.size))
  clear hb1
  go_wp2_with fail
  with_reducible refine (op_any _ _ _ _ _).mono ?_
  rintro e w11 ⟨hb1, g1, rfl, hg1⟩
  have Hck := Lib.hid (check_lit [(⟨true, 1, 4, 4⟩, g1)] bad2 w11 rfl (by decide) (vals_one hg1 rfl) 1 rfl #[.bool true, .slice (some ⟨g1, 0, none⟩) 1 1, .int .i64 4, .int .i64 4] rfl)
  have Hb11 := Lib.hid (Hb10.out.trans (hb1.mono Hb10.out.size))
  clear hb1 hg1
  go_wp2_with fail
  with_reducible refine Hck.out.mono ?_
  rintro e w12 ⟨rfl, hb1⟩
  rw [bad2_check]
  have Hb12 := Lib.hid (Hb11.out.trans (hb1.mono Hb11.out.size))
  clear hb1
  have hmk := make15 w12
  go_wp2_with fail
  with_reducible refine (check_long 15 _ _ _ (by omega)).mono ?_
  rintro e w13 ⟨rfl, hb1⟩
  have Hb13 : Hid (Below w.heap.size w w13) := by rw [hb1]; exact Hb12.out.alloc Hb12.out.size _
  clear hb1 hmk
  go_wp2_with fail
  go_loopw [11, 10, 12, 13] (fun i h _ _ wr => ∃ k : Nat, k ≤ n ∧ k ≤ 6 ∧ i = .int .i64 k ∧ Hid (Hst w.heap.size h k wr) ∧ Hid (Below w.heap.size w wr)) (fun i _ _ _ _ => 6 - (intOf i).toNat)
  case atStart => exact ⟨0, by omega, by omega, rfl, ⟨[], rfl, World.ownsRow_nil _ _ _ _, fun p hp => by simp at hp, good_of (by decide)⟩, Hb13.out⟩
  case round =>
    obtain ⟨k, hk, hk6, rfl, hst, hb⟩ := hrel
    by_cases hlt : k < n
    · by_cases hl6 : k < 6
      · obtain ⟨b, off, wr', v, bg, en, rfl, a0, a1, a2, a3, hv, hbg, hen⟩ := Ha.out k hlt
        have b0 := cell_later hb.out a0
        have b1 := cell_later hb.out a1
        have b2 := cell_later hb.out a2
        have b3 := cell_later hb.out a3
        have d6 : decide ((k : Int) < 6) = true := by simp; omega
        clear a0 a1 a2 a3
        obtain ⟨fin, hfin, hcase⟩ : ∃ fin : Int, (fin = if en % 13 ≤ 1 + bg % 10 then 0 else en % 13) ∧ ((en % 13 ≤ 1 + bg % 10 ∧ fin = 0) ∨ (¬ en % 13 ≤ 1 + bg % 10 ∧ fin = en % 13)) := by
          by_cases h : en % 13 ≤ 1 + bg % 10
          · exact ⟨0, by rw [if_pos h], .inl ⟨h, rfl⟩⟩
          · exact ⟨_, by rw [if_neg h], .inr ⟨h, rfl⟩⟩
        have hfine : badB (1 + bg % 10) fin = false := by
          unfold badB
          rcases hcase with ⟨h1, rfl⟩ | ⟨h1, rfl⟩
          · simp; omega
          · simp; omega
        have Hfine := Lib.hid hfine
        obtain ⟨ps, hpl, hown, hvals, hgood⟩ := hst.out
        have Hpl := Lib.hid hpl
        have Hown := Lib.hid hown
        have Hvals := Lib.hid hvals
        have Hgood := Lib.hid hgood
        clear hpl hown hvals hgood
        clear hfin hfine
        rcases hcase with ⟨h1, rfl⟩ | ⟨h1, rfl⟩
        · go_wp2_with fail
          go_quiet (fail)
          go_wp2_with fail
          obtain ⟨wd, hwd⟩ : ∃ wd, wd = wr.drewN nq := ⟨_, rfl⟩
          have hbd : Below wr.heap.size wr wd := by rw [hwd]; exact below_drewN (Below.refl _ _) nq
          rw [← hwd]
          have c0 := cell_later hbd b0
          have c1 := cell_later hbd b1
          clear b0 b1 b2 b3 hwd
          have Hbd := Lib.hid hbd
          clear hbd
          go_region_law (first | ((refine step_append_lies _ (by rfl) _ _ _ (by rfl) w.heap.size 25 i1 _ 4 48 Try.underlying29 hi hz0 hz1 hz2 rfl (by omega) u10 k (histCells ps) (by rfl) ((own_below Hown.out (Hbd.out.drew.trans (Hb1.out.mono Hbd.out.drew.size))).alloc _) ⟨w1.heap.size, 0, none⟩ 1 1 [.bool wr', .slice (some ⟨g1, 0, none⟩) 1 1, .int .i64 (1 + bg % 10), .int .i64 0] (by rfl) rfl (World.news_of_block (heap_new _ _)) (by intro u hu; simp at hu; rcases hu with rfl | rfl | rfl | rfl <;> rfl) (by omega) (by unfold maxLen; omega) (by omega) (by have h1 := Hb1.out.size; have h2 := Hbd.out.size; have h3 := hb.out.size; simp at h1; simp; omega) _ rfl ?_); intro g2 cap2 w2 hown2 hgrow2 hat hlt2) | (go_simp; go_at_call 4; refine (op_any _ _ _ _ _).mono ?_; rintro e w1 ⟨hb1, g1, rfl, hg1⟩; have Hb1 := Lib.hid hb1; have Hg1 := Lib.hid hg1; clear hb1 hg1))
          all_goals
            have hb4 : Below w.heap.size w w2 := ((hb.out.trans ((Hbd.out.drew.trans (Hb1.out.mono Hbd.out.drew.size)).mono hb.out.size)).trans ((below_alloc1 _ _).mono (by have h1 := Hb1.out.size; have h2 := Hbd.out.size; have h3 := hb.out.size; simp at h1; omega))).grown hgrow2 (by have h1 := Hb1.out.size; have h2 := Hbd.out.size; have h3 := hb.out.size; simp at h1; simp; omega) (fun j hj => (Hown.out.lt j hj).1)
            have hst2 := hst_step (x := ⟨wr', UInt8.ofNat (v % 3).toNat, 1 + bg % 10, 0⟩) Hpl.out Hown.out Hvals.out Hgood.out (Hbd.out.drew.trans (Hb1.out.mono Hbd.out.drew.size)) Hg1.out (by first | exact u8_val v | exact u8_val' v hv.1) hgrow2 hown2 Hfine.out
            have Hst2 := Lib.hid hst2
            have Hb4 := Lib.hid hb4
            clear hown2 hgrow2 hat hlt2 hb4 hst2
            go_wp2_with fail
            go_roundw
            case rel => exact ⟨k + 1, by omega, by omega, by go_num, Hst2.out, Hb4.out⟩
            case measure => simp [intOf]; omega
        · go_wp2_with fail
          go_quiet (fail)
          go_wp2_with fail
          obtain ⟨wd, hwd⟩ : ∃ wd, wd = wr.drewN nq := ⟨_, rfl⟩
          have hbd : Below wr.heap.size wr wd := by rw [hwd]; exact below_drewN (Below.refl _ _) nq
          rw [← hwd]
          have c0 := cell_later hbd b0
          have c1 := cell_later hbd b1
          clear b0 b1 b2 b3 hwd
          have Hbd := Lib.hid hbd
          clear hbd
          go_region_law (first | ((refine step_append_lies _ (by rfl) _ _ _ (by rfl) w.heap.size 25 i1 _ 4 48 Try.underlying29 hi hz0 hz1 hz2 rfl (by omega) u10 k (histCells ps) (by rfl) ((own_below Hown.out (Hbd.out.drew.trans (Hb1.out.mono Hbd.out.drew.size))).alloc _) ⟨w1.heap.size, 0, none⟩ 1 1 [.bool wr', .slice (some ⟨g1, 0, none⟩) 1 1, .int .i64 (1 + bg % 10), .int .i64 (en % 13)] (by rfl) rfl (World.news_of_block (heap_new _ _)) (by intro u hu; simp at hu; rcases hu with rfl | rfl | rfl | rfl <;> rfl) (by omega) (by unfold maxLen; omega) (by omega) (by have h1 := Hb1.out.size; have h2 := Hbd.out.size; have h3 := hb.out.size; simp at h1; simp; omega) _ rfl ?_); intro g2 cap2 w2 hown2 hgrow2 hat hlt2) | (go_simp; go_at_call 4; refine (op_any _ _ _ _ _).mono ?_; rintro e w1 ⟨hb1, g1, rfl, hg1⟩; have Hb1 := Lib.hid hb1; have Hg1 := Lib.hid hg1; clear hb1 hg1))
          all_goals
            have hb4 : Below w.heap.size w w2 := ((hb.out.trans ((Hbd.out.drew.trans (Hb1.out.mono Hbd.out.drew.size)).mono hb.out.size)).trans ((below_alloc1 _ _).mono (by have h1 := Hb1.out.size; have h2 := Hbd.out.size; have h3 := hb.out.size; simp at h1; omega))).grown hgrow2 (by have h1 := Hb1.out.size; have h2 := Hbd.out.size; have h3 := hb.out.size; simp at h1; simp; omega) (fun j hj => (Hown.out.lt j hj).1)
            have hst2 := hst_step (x := ⟨wr', UInt8.ofNat (v % 3).toNat, 1 + bg % 10, en % 13⟩) Hpl.out Hown.out Hvals.out Hgood.out (Hbd.out.drew.trans (Hb1.out.mono Hbd.out.drew.size)) Hg1.out (by first | exact u8_val v | exact u8_val' v hv.1) hgrow2 hown2 Hfine.out
            have Hst2 := Lib.hid hst2
            have Hb4 := Lib.hid hb4
            clear hown2 hgrow2 hat hlt2 hb4 hst2
            go_wp2_with fail
            go_roundw
            case rel => exact ⟨k + 1, by omega, by omega, by go_num, Hst2.out, Hb4.out⟩
            case measure => simp [intOf]; omega
      · have d6 : decide ((k : Int) < 6) = false := by simp; omega
        obtain ⟨Ah, ch, rfl, hcall⟩ := hst_call hst.out (by omega) (UInt8.ofNat (fst % 3).toNat) (fst % 3)
        have Hcall := Lib.hid hcall
        have hcv := conv_mod wr (UInt8.ofNat (fst % 3).toNat) (fst % 3) (u8_val fst)
        clear hcall
        go_wp2_with fail
        with_reducible refine Hcall.out.mono ?_
        rintro e w14 ⟨⟨t, rfl⟩, hb5⟩
        have Hb5 := Lib.hid (hb.out.trans (hb5.mono hb.out.size))
        clear hb5 hcv
        go_wp2_with fail
        go_ret
        exact ⟨rfl, Hb5.out⟩
    · have dn : decide ((k : Int) < (n : Int)) = false := by simp; omega
      obtain ⟨Ah, ch, rfl, hcall⟩ := hst_call hst.out (by omega) (UInt8.ofNat (fst % 3).toNat) (fst % 3)
      have Hcall := Lib.hid hcall
      have hcv := conv_mod wr (UInt8.ofNat (fst % 3).toNat) (fst % 3) (u8_val fst)
      clear hcall
      go_wp2_with fail
      with_reducible refine Hcall.out.mono ?_
      rintro e w14 ⟨⟨t, rfl⟩, hb5⟩
      have Hb5 := Lib.hid (hb.out.trans (hb5.mono hb.out.size))
      clear hb5 hcv
      go_wp2_with fail
      go_ret
      exact ⟨rfl, Hb5.out⟩

end Go.Proofs.Ytbegeijofpgliaa
