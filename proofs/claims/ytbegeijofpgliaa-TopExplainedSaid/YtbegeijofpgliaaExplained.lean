/-
  The walk of explained59.
-/
import Derived.Test.YtbegeijofpgliaaOrder
import Derived.Lib.ConvBytes
namespace Go.Proofs.Ytbegeijofpgliaa
open Go.RowKit Go.Maps

theorem conv_bytes (w : World) (b : UInt8) : ∃ fc W, (convert 9 23 (.string ⟨#[b]⟩)).run Try.prog w = .ok (.slice (some ⟨w.heap.size, 0, none⟩) 1 fc) W ∧ Below w.heap.size w W ∧ W.cell? ⟨w.heap.size, 0, none⟩ = some (.int .u8 b.toNat) := by
  have h := Lib.run_convert_string_bytes (P := Try.prog) w 9 23 5 ⟨#[b]⟩ Try.underlying9 Try.underlying23 Try.underlying5
  refine ⟨_, _, h, ⟨rfl, rfl, rfl, ?_, fun k hk => Lib.bytesWorld_at_old w 5 _ k hk⟩, ?_⟩
  · rw [Lib.bytesWorld_size]; omega
  · rw [Lib.bytesWorld_cell w 5 ⟨#[b]⟩ 0 (by show 0 < 1; omega)]
    rfl

/-- What explained59 answers of a history that may be. -/
def ExplainedPost (r : Option (List Nat)) (w : World) (e : Ending) (w' : World) : Prop := Below w.heap.size w w' ∧ e = .returned (.tuple #[.bool r.isSome, .bool true])

theorem valid_of {l : List LOp} (hb : ¬ anyBad l) : Valid l := by
  intro i hi
  have h : badOp (opAt l i) = false := by
    cases hx : badOp (opAt l i) with
    | false => rfl
    | true => exact absurd ⟨i, hi, hx⟩ hb
  unfold badOp badB at h
  simp only [Bool.or_eq_false_iff, Bool.and_eq_false_iff, decide_eq_false_iff_not, bne_eq_false_iff_eq] at h
  omega

theorem ord_length {l : List LOp} {c : UInt8} : ∀ {f : Nat} {o r : List Nat}, ord l c f o = some r → r.length ≤ o.length + f
  | 0, o, r, h => by cases h
  | f + 1, o, r, h => by
    unfold ord at h
    split at h
    · cases h; omega
    · rw [List.findSome?_eq_some_iff] at h
      obtain ⟨_, i, _, _, h, _⟩ := h
      split at h
      · cases h
      · have := ord_length h
        simp at this
        omega

set_option maxRecDepth 100000 in
set_option maxHeartbeats 4000000 in
theorem explained_any (l : List LOp) (A : Option Addr) (c : Nat) (fst : UInt8) (w : World) (hn : l.length ≤ 14) (hh : Hist w A l) (hb : ¬ anyBad l) :
    Calls Try.prog 5 #[.slice A l.length c, .string ⟨#[fst]⟩] w (ExplainedPost (ord l fst (l.length + 1) []) w) := by
  have Hh := Lib.hid hh
  have Hb := Lib.hid hb
  have Hor := Lib.hid (orders_any l A c fst hn (l.length + 1) [] (.slice none 0 0) w (by simp) ⟨by simp, by simp⟩ hh (.inl ⟨rfl, rfl⟩))
  have heq := ord_is_dfs (l := l) (c := fst) (valid_of hb) (l.length + 1)
  have Heq := Lib.hid heq
  clear hh hb heq
  go_enter Try.func5, Try.ntmps5
  go_wp2_with fail
  with_reducible refine Hor.out.mono ?_
  rintro e w1 ⟨hb1, ⟨hr, rfl⟩ | ⟨o, v, hr, rfl, hv⟩⟩
  · obtain ⟨fc, w2, hcv, hb2, hc2⟩ := conv_bytes w1 fst
    have hb12 := hb1.trans (hb2.mono hb1.size)
    have Hlin := Lib.hid (linear_any l A c _ fc fst w2 hn (Hh.out.below hb12) hc2 Hb.out)
    have Hr := Lib.hid hr
    have Hb12 := Lib.hid hb12
    clear hb1 hb2 hc2 hr hb12
    go_wp2_with fail
    with_reducible refine Hlin.out.mono ?_
    rintro e w3 ⟨hb3, rfl⟩
    rw [← Heq.out, Hr.out]
    have hb13 := Hb12.out.trans (hb3.mono Hb12.out.size)
    obtain ⟨fc4, w4, hcv4, hb4, hc4⟩ := conv_bytes w3 fst
    have hb14 := hb13.trans (hb4.mono hb13.size)
    have hord := order_any l A c _ fc4 fst w4 hn (Hh.out.below hb14) hc4 Hb.out
    rw [← Heq.out, Hr.out] at hord
    have Hord := Lib.hid hord
    have Hb14 := Lib.hid hb14
    clear hb3 hb13 hb4 hc4 hb14 hord hcv
    go_wp2_with fail
    with_reducible refine Hord.out.mono ?_
    rintro e w5 ⟨hb5, ⟨-, rfl⟩ | ⟨o, v, hr, -, -⟩⟩
    · have hb15 := Hb14.out.trans (hb5.mono Hb14.out.size)
      have hck := check_any l A c w5 hn (Hh.out.below hb15)
      rw [checkE_zero hn Hb.out] at hck
      have Hck := Lib.hid hck
      have Hb15 := Lib.hid hb15
      clear hb5 hb15 hck hcv4
      go_wp2_with fail
      with_reducible refine Hck.out.mono ?_
      rintro e w6 ⟨rfl, hb6⟩
      have Hb16 := Lib.hid (Hb15.out.trans (hb6.mono Hb15.out.size))
      clear hb6
      go_wp2_with fail
      refine wp_loop_rounds 1 ?_
      rw [rounds_succ]
      go_wp2_with fail
      go_ret2
      exact ⟨Hb16.out, by rw [Hr.out]; rfl⟩
    · cases hr
  · obtain ⟨fc, w2, hcv, hb2, hc2⟩ := conv_bytes w1 fst
    have hb12 := hb1.trans (hb2.mono hb1.size)
    have Hlin := Lib.hid (linear_any l A c _ fc fst w2 hn (Hh.out.below hb12) hc2 Hb.out)
    have hv2 := (RowV.of_ordV hv).below hb2
    have hol := ord_length hr
    simp only [List.length_nil] at hol
    obtain ⟨A1, c1, rfl, hv2⟩ := hv2
    have Hr := Lib.hid hr
    have Hb12 := Lib.hid hb12
    have Hv2 := Lib.hid (show RowV w2 (.slice A1 o.length c1) o from ⟨A1, c1, rfl, hv2⟩)
    clear hb1 hb2 hc2 hr hb12 hv hv2
    go_wp2_with fail
    with_reducible refine Hlin.out.mono ?_
    rintro e w3 ⟨hb3, rfl⟩
    rw [← Heq.out, Hr.out]
    have hb13 := Hb12.out.trans (hb3.mono Hb12.out.size)
    have hv3 := Hv2.out.below hb3
    obtain ⟨fc4, w4, hcv4, hb4, hc4⟩ := conv_bytes w3 fst
    have hb14 := hb13.trans (hb4.mono hb13.size)
    have Hv4 := Lib.hid (hv3.below hb4)
    have hord := order_any l A c _ fc4 fst w4 hn (Hh.out.below hb14) hc4 Hb.out
    rw [← Heq.out, Hr.out] at hord
    have Hord := Lib.hid hord
    have Hb14 := Lib.hid hb14
    clear hb3 hb13 hb4 hc4 hb14 hord hcv hv3
    go_wp2_with fail
    with_reducible refine Hord.out.mono ?_
    rintro e w5 ⟨hb5, ⟨hr2, -⟩ | ⟨o2, v2, hr2, rfl, hv2⟩⟩
    · cases hr2
    · cases hr2
      have hb15 := Hb14.out.trans (hb5.mono Hb14.out.size)
      have hck := check_any l A c w5 hn (Hh.out.below hb15)
      rw [checkE_zero hn Hb.out] at hck
      have Hck := Lib.hid hck
      have Hb15 := Lib.hid hb15
      have Hv5 := Lib.hid (Hv4.out.below hb5)
      obtain ⟨A2, c2, rfl, hv2⟩ := hv2
      have Hv6 := Lib.hid (show RowV w5 (.slice A2 o.length c2) o from ⟨A2, c2, rfl, hv2⟩)
      clear hb5 hb15 hck hcv4 hv2
      go_wp2_with fail
      with_reducible refine Hck.out.mono ?_
      rintro e w6 ⟨rfl, hb6⟩
      have Hb16 := Lib.hid (Hb15.out.trans (hb6.mono Hb15.out.size))
      have Hv7 := Lib.hid (Hv5.out.below hb6)
      have Hv8 := Lib.hid (Hv6.out.below hb6)
      clear hb6
      go_wp2_with fail
      go_loopw [66, 13] (fun i _ wr => ∃ k : Nat, k ≤ o.length ∧ i = .int .i64 k ∧ Below w6.heap.size w6 wr) (fun i _ _ => o.length - (intOf i).toNat)
      case atStart => exact ⟨0, by omega, rfl, Below.refl _ _⟩
      case round =>
        obtain ⟨k, hk, rfl, hb7⟩ := hrel
        by_cases hlt : k < o.length
        · obtain ⟨x, hx⟩ : ∃ x, o[k]? = some x := ⟨o[k], by simp [hlt]⟩
          obtain ⟨A3, c3, e3, h3⟩ := Hv7.out.below hb7
          obtain ⟨A4, c4, e4, h4⟩ := Hv8.out.below hb7
          obtain ⟨b3, e3', k3⟩ := h3 k x hx
          obtain ⟨b4, e4', k4⟩ := h4 k x hx
          simp only [Value.slice.injEq, true_and] at e3 e4
          rw [e3'] at e3
          rw [e4'] at e4
          obtain ⟨rfl, rfl⟩ := e3
          obtain ⟨rfl, rfl⟩ := e4
          clear h3 h4 hx e3' e4'
          go_wp2_with fail
          go_quiet (fail)
          go_wp2_with fail
          go_roundw
          case rel => exact ⟨k + 1, by omega, by go_num, below_drewN hb7 _⟩
          case measure => simp [intOf]; omega
        · obtain rfl : k = o.length := by omega
          go_wp2_with fail
          go_ret2
          exact ⟨Hb16.out.trans (hb7.mono Hb16.out.size), by rw [Hr.out]; rfl⟩
end Go.Proofs.Ytbegeijofpgliaa
