/-
  The walk of explains59: whether an order explains a history.
-/
import Derived.Test.YtbegeijofpgliaaBase
namespace Go.Proofs.Ytbegeijofpgliaa
open Go.RowKit

theorem ret_bool {a b : Bool} (h : a = b) : Ending.returned (.bool a) = .returned (.bool b) := by rw [h]

theorem string_one {a b : UInt8} (h : a = b) : Value.string ⟨#[a]⟩ = .string ⟨#[b]⟩ := by rw [h]

theorem take_snoc {o : List Nat} {j x : Nat} (hx : o[j]? = some x) : o.take (j + 1) = o.take j ++ [x] := by
  obtain ⟨hj, e⟩ := List.getElem?_eq_some_iff.1 hx
  rw [List.take_succ_eq_append_getElem hj, e]

theorem rd_no {l : List LOp} {c : UInt8} {o : List Nat} {j x : Nat} (hx : o[j]? = some x) (hw : (opAt l x).wr = false) (hv : (!(opAt l x).val == cur l c (o.take j)) = true) : ¬ Expl l c o := by
  rintro ⟨h, -⟩
  have e : o = o.take (j + 1) ++ o.drop (j + 1) := (List.take_append_drop _ _).symm
  rw [e, take_snoc hx, rdOk_append, rdOk_append] at h
  simp [rdOk, hw] at h
  simp [h.1.2] at hv

theorem rd_yes {l : List LOp} {c : UInt8} {o : List Nat} {j x : Nat} (hx : o[j]? = some x) (h0 : rdOk l c (o.take j) = true) (h : (opAt l x).wr = true ∨ (!(opAt l x).val == cur l c (o.take j)) = false) :
    rdOk l c (o.take (j + 1)) = true := by
  rw [take_snoc hx, rdOk_append, h0]
  rcases h with h | h
  · simp [rdOk, h]
  · simp only [rdOk, Bool.true_and]
    split
    · rfl
    · simp at h; simp [h]

theorem cur_yes {l : List LOp} {c : UInt8} {o : List Nat} {j x : Nat} (hx : o[j]? = some x) (h : (opAt l x).wr = true) : (opAt l x).val = cur l c (o.take (j + 1)) := by
  rw [take_snoc hx, cur_snoc, if_pos h]

theorem cur_no {l : List LOp} {c : UInt8} {o : List Nat} {j x : Nat} (hx : o[j]? = some x) (h : (opAt l x).wr = false) : cur l c (o.take j) = cur l c (o.take (j + 1)) := by
  rw [take_snoc hx, cur_snoc, h]; rfl

/-- Nothing is wrong at the first operations. -/
def Good (l : List LOp) (o : List Nat) (p : Nat) : Prop := ∀ i, i < p → ¬ lacks l o i ∧ ∀ k, k < l.length → ¬ crossed l o i k

theorem expl_of {l : List LOp} {c : UInt8} {o : List Nat} (h : rdOk l c o = true) (hg : Good l o l.length) : Expl l c o := ⟨h, hg⟩

theorem good_step {l : List LOp} {o : List Nat} {p : Nat} (h : Good l o p) (h1 : ¬ lacks l o p) (h2 : ∀ k, k < l.length → ¬ crossed l o p k) : Good l o (p + 1) := by
  intro i hi
  rcases Nat.lt_or_ge i p with h3 | h3
  · exact h i h3
  · obtain rfl : i = p := by omega
    exact ⟨h1, h2⟩

theorem crossed_step {l : List LOp} {o : List Nat} {p q : Nat} (h : ∀ j, j < q → ¬ crossed l o p j) (h1 : ¬ crossed l o p q) : ∀ j, j < q + 1 → ¬ crossed l o p j := by
  intro i hi
  rcases Nat.lt_or_ge i q with h3 | h3
  · exact h i h3
  · obtain rfl : i = q := by omega
    exact h1

theorem own_pl {W : World} {base g n cap : Nat} {e : TypeId} {o : List Nat} (h : W.ownsRow base e 1 (.slice (some ⟨g, 0, none⟩) n cap) n (ints ((List.range n).map (pl o)))) (i : Nat) (h1 : i < n) :
    W.cell? ⟨g, i, none⟩ = some (.int .i64 (pl o i)) := by
  rw [(own_at h i h1).1]
  simp [h1]

set_option maxRecDepth 100000 in
set_option maxHeartbeats 4000000 in
theorem expl_any (l : List LOp) (A O : Option Addr) (c oc : Nat) (fst : UInt8) (o : List Nat) (w : World) (hn : l.length ≤ 14) (hf : Fine l o) (hh : Hist w A l) (ho : Nums w O o) :
    Calls Try.prog 12 #[.slice A l.length c, .string ⟨#[fst]⟩, .slice O o.length oc] w fun r w' => r = .returned (.bool (decide (Expl l fst o))) ∧ Below w.heap.size w w' := by
  obtain ⟨i0, hi, hz0, hz1, hz2⟩ := info_parts Try.info3
  have hol := hf.length_le
  have Hf := Lib.hid hf
  have Hh := Lib.hid hh
  have Ho := Lib.hid ho
  clear hf hh ho
  obtain ⟨n, hln⟩ : ∃ n, n = l.length := ⟨_, rfl⟩
  rw [← hln] at hn hol ⊢
  have Hln := Lib.hid hln
  clear hln
  go_enter Try.func12, Try.ntmps12
  go_wp2_with (first | (at_make; refine wpList_make_full _ rfl _ _ 35 rfl w.heap.size 3 i0 (.int .i64 0) 1 Try.underlying35 hi hz0 hz1 .i64 .i64 _ _ n rfl rfl rfl rfl (by rw [hz2]; omega) (by unfold maxLen; omega) (Nat.le_refl _) ?_; intro w1 hown1 hgrow1))
  have hown := hown1; rw [own_made_ints _ n rfl] at hown
  have hb1 : Below w.heap.size w w1 := (Below.refl _ _).grown hgrow1 (Nat.le_refl _) (by intro k h; cases h)
  clear hown1 hgrow1
  go_loopw [19, 8] (fun i _ wr => ∃ k : Nat, k ≤ n ∧ i = .int .i64 k ∧ wr.ownsRow w.heap.size 3 1 (.slice (some ⟨w.heap.size, 0, none⟩) n n) n (ints (List.replicate k (-1) ++ List.replicate (n - k) 0)) ∧ Below w.heap.size w wr)
    (fun i _ _ => n - (intOf i).toNat)
  case atStart => exact ⟨0, by omega, rfl, by simpa using hown, hb1⟩
  case round =>
    obtain ⟨k, hk, rfl, hown, hb⟩ := hrel
    by_cases hlt : k < n
    · obtain ⟨hc, hfr⟩ := own_at hown k hlt
      go_wp2
      go_roundw
      case rel =>
        refine ⟨k + 1, by omega, by go_num, ?_, hb.setCell (Nat.le_refl _) _⟩
        have := own_store hown k (-1)
        have e : (List.replicate k (-1 : Int) ++ List.replicate (n - k) 0).set k (-1) = List.replicate (k + 1) (-1) ++ List.replicate (n - (k + 1)) 0 := by
          apply List.ext_getElem
          · simp; omega
          · intro j h1 h2
            simp only [List.getElem_set, List.getElem_append, List.length_replicate, List.getElem_replicate]
            split <;> split <;> first | rfl | omega | (split <;> first | rfl | omega)
        rw [e] at this
        exact this
      case measure => simp [intOf]; omega
    · obtain rfl : k = n := by omega
      have hown2 : wr.ownsRow w.heap.size 3 1 (.slice (some ⟨w.heap.size, 0, none⟩) k k) k (ints ((List.range k).map (pl (o.take 0)))) := by
        rw [List.take_zero, ← places_nil]; simpa using hown
      clear hown
      go_wp2
      go_loopw [29, 9, 10, 11] (fun i now _ _ wr => ∃ j : Nat, j ≤ o.length ∧ i = .int .i64 j ∧ now = .string ⟨#[cur l fst (o.take j)]⟩ ∧ Hid (rdOk l fst (o.take j) = true) ∧
          wr.ownsRow w.heap.size 3 1 (.slice (some ⟨w.heap.size, 0, none⟩) k k) k (ints ((List.range k).map (pl (o.take j)))) ∧ Below w.heap.size w wr)
        (fun i _ _ _ _ => o.length - (intOf i).toNat)
      case atStart => exact ⟨0, by omega, rfl, rfl, rfl, hown2, hb⟩
      case round =>
        obtain ⟨j, hj, rfl, rfl, hrd, hown, hb⟩ := hrel
        by_cases hlt : j < o.length
        · obtain ⟨ob, rfl, hoc⟩ := Ho.out (by omega)
          obtain ⟨x, hx⟩ : ∃ x, o[j]? = some x := ⟨o[j], by simp [hlt]⟩
          have hxc := cell_later hb (hoc j x hx)
          have Hx := Lib.hid hx
          clear hx hoc
          have hxk : x < k := by rw [Hln.out]; exact Hf.out.2 x (List.mem_of_getElem? Hx.out)
          obtain ⟨hc, hfr⟩ := own_at hown x hxk
          obtain ⟨b, rfl, hop⟩ := Hh.out (by rw [← Hln.out]; omega)
          have hb2 : Below w.heap.size w (wr.setCell ⟨w.heap.size, x, none⟩ (.int .i64 j)) := hb.setCell (Nat.le_refl _) _
          obtain ⟨h0, ⟨g, h1, h1'⟩, -, -⟩ := (hop x (by rw [← Hln.out]; exact hxk)).below hb2
          have hcv := conv1 h1' 1
          clear hop
          have hst := own_store hown x j
          rw [places_step Hf.out.1 Hx.out] at hst
          go_wp2
          · go_roundw
            case rel => exact ⟨j + 1, by omega, by go_num, string_one (cur_yes Hx.out (by assumption)), rd_yes Hx.out hrd.out (.inl (by assumption)), hst, hb2⟩
            case measure => simp [intOf]; omega
          · go_ret
            exact ⟨ret_bool (by rw [decide_eq_false (rd_no Hx.out (by assumption) (by assumption))]), hb2⟩
          · go_roundw
            case rel => exact ⟨j + 1, by omega, by go_num, string_one (cur_no Hx.out (by assumption)), rd_yes Hx.out hrd.out (.inr (by assumption)), hst, hb2⟩
            case measure => simp [intOf]; omega
        · obtain rfl : j = o.length := by omega
          have hrd' : rdOk l fst o = true := by have := hrd.out; rwa [List.take_length] at this
          have Hrd := Lib.hid hrd'
          rw [List.take_length] at hown
          clear hrd hrd' hown2
          simp only [List.take_length]
          go_wp2
          go_loopw [60, 12, 13] (fun i _ _ wr => ∃ p : Nat, p ≤ k ∧ i = .int .i64 p ∧ Hid (Good l o p) ∧
              wr.ownsRow w.heap.size 3 1 (.slice (some ⟨w.heap.size, 0, none⟩) k k) k (ints ((List.range k).map (pl o))) ∧ Below w.heap.size w wr)
            (fun i _ _ _ => k - (intOf i).toNat)
          case atStart => exact ⟨0, by omega, rfl, fun i hi => by omega, hown, hb⟩
          case round =>
            obtain ⟨p, hp, rfl, hg, hown, hb⟩ := hrel
            by_cases hlt : p < k
            · obtain ⟨b, rfl, hop⟩ := Hh.out (by rw [← Hln.out]; omega)
              obtain ⟨-, -, -, h3⟩ := (hop p (by rw [← Hln.out]; exact hlt)).below hb
              have hpc := own_pl hown p hlt
              have Hop := Lib.hid hop
              clear hop
              obtain ⟨fp, hfp⟩ : ∃ fp, fp = (opAt l p).fin := ⟨_, rfl⟩
              obtain ⟨pp, hpp⟩ : ∃ pp, pp = pl o p := ⟨_, rfl⟩
              rw [← hfp] at h3
              rw [← hpp] at hpc
              have Hfp := Lib.hid hfp
              have Hpp := Lib.hid hpp
              clear hfp hpp
              have Hown := Lib.hid hown
              clear hown
              by_cases hl : 0 < fp ∧ pp < 0
              · obtain ⟨hl1, hl2⟩ := hl
                have hd1 : decide (0 < fp) = true := by simpa using hl1
                have hd2 : decide (pp < 0) = true := by simpa using hl2
                go_wp2
                go_ret
                refine ⟨ret_bool ?_, hb⟩
                rw [decide_eq_false]
                rintro ⟨-, h⟩
                exact (h p (by rw [← Hln.out]; exact hlt)).1 ⟨by rw [← Hfp.out]; exact hl1, by rw [← Hpp.out]; exact hl2⟩
              · have Hl := Lib.hid hl
                have hnl : ¬ lacks l o p := fun h => hl ⟨by rw [Hfp.out]; exact h.1, by rw [Hpp.out]; exact h.2⟩
                clear hl
                have hcs : (decide (0 < fp) = false) ∨ (decide (0 < fp) = true ∧ decide (pp < 0) = false) := by
                  by_cases h1 : 0 < fp
                  · right; exact ⟨by simpa using h1, by have := Hl.out; simp; omega⟩
                  · left; simpa using h1
                rcases hcs with hd | ⟨hd, hdp⟩
                · go_wp2
                  obtain ⟨wo, rfl⟩ : ∃ wo : World, wo = wr := ⟨_, rfl⟩
                  go_loopw [78, 13] (fun i _ wr => ∃ q : Nat, q ≤ k ∧ i = .int .i64 q ∧ Hid (wr.ownsRow w.heap.size 3 1 (.slice (some ⟨w.heap.size, 0, none⟩) k k) k (ints ((List.range k).map (pl o)))) ∧ Below w.heap.size w wr)
                    (fun i _ _ => k - (intOf i).toNat)
                  case atStart => exact ⟨0, by omega, rfl, Hown.out, hb⟩
                  case round =>
                    obtain ⟨q, hq, rfl, hown, hb⟩ := hrel
                    by_cases hlt : q < k
                    · obtain ⟨-, -, -, h3⟩ := (Hop.out p (by rw [← Hln.out]; omega)).below hb
                      rw [← Hfp.out] at h3
                      go_wp2
                      go_quiet (fail)
                      go_wp2
                      go_roundw
                      case rel => exact ⟨q + 1, by omega, by go_num, own_drewN hown.out _, below_drewN hb _⟩
                      case measure => simp [intOf]; omega
                    · go_wp2
                      go_roundw
                      case rel => exact ⟨p + 1, by omega, by go_num, good_step hg.out hnl (fun q _ hx => by have := hx.1; rw [← Hfp.out] at this; simp at hd; omega), hown.out, hb⟩
                      case measure => simp [intOf]; omega
                · have hpp0 : 0 ≤ pp := by simpa using hdp
                  go_wp2
                  obtain ⟨wo, rfl⟩ : ∃ wo : World, wo = wr := ⟨_, rfl⟩
                  go_loopw [78, 13] (fun i _ wr => ∃ q : Nat, q ≤ k ∧ i = .int .i64 q ∧ Hid (∀ j, j < q → ¬ crossed l o p j) ∧
                      Hid (wr.ownsRow w.heap.size 3 1 (.slice (some ⟨w.heap.size, 0, none⟩) k k) k (ints ((List.range k).map (pl o)))) ∧ Below w.heap.size w wr)
                    (fun i _ _ => k - (intOf i).toNat)
                  case atStart => exact ⟨0, by omega, rfl, fun j hj => by omega, Hown.out, hb⟩
                  case round =>
                    obtain ⟨q, hq, rfl, hcr, hown, hb⟩ := hrel
                    by_cases hlt : q < k
                    · obtain ⟨-, -, -, h3⟩ := (Hop.out p (by rw [← Hln.out]; omega)).below hb
                      obtain ⟨-, -, h4, -⟩ := (Hop.out q (by rw [← Hln.out]; omega)).below hb
                      have hpc := own_pl hown.out p (by assumption)
                      have hqc := own_pl hown.out q hlt
                      rw [← Hfp.out] at h3
                      rw [← Hpp.out] at hpc
                      obtain ⟨qb, hqb⟩ : ∃ qb, qb = (opAt l q).beg := ⟨_, rfl⟩
                      obtain ⟨qp, hqp⟩ : ∃ qp, qp = pl o q := ⟨_, rfl⟩
                      rw [← hqb] at h4
                      rw [← hqp] at hqc
                      have Hqb := Lib.hid hqb
                      have Hqp := Lib.hid hqp
                      clear hqb hqp
                      by_cases c1 : fp < qb
                      · have d1 : decide (fp < qb) = true := by simpa using c1
                        by_cases c2 : 0 ≤ qp
                        · have d2 : decide (0 ≤ qp) = true := by simpa using c2
                          by_cases c3 : qp < pp
                          · have d3 : decide (qp < pp) = true := by simpa using c3
                            go_wp2
                            go_quiet (fail)
                            go_wp2
                            go_ret
                            refine ⟨ret_bool ?_, below_drewN hb _⟩
                            rw [decide_eq_false]
                            rintro ⟨-, h⟩
                            refine (h p (by rw [← Hln.out]; assumption)).2 q (by rw [← Hln.out]; exact hlt) ⟨?_, ?_, ?_, .inr ?_⟩
                            · rw [← Hfp.out]; simpa using hd
                            · rw [← Hfp.out, ← Hqb.out]; exact c1
                            · rw [← Hqp.out]; exact c2
                            · rw [← Hqp.out, ← Hpp.out]; exact c3
                          · have d3 : decide (qp < pp) = false := by simpa using c3
                            go_wp2
                            go_quiet (fail)
                            go_wp2
                            go_roundw
                            case rel =>
                              exact ⟨q + 1, by omega, by go_num, crossed_step hcr.out (fun h => by
                                have := h.2.2.2
                                rw [← Hqp.out, ← Hpp.out] at this
                                omega), own_drewN hown.out _, below_drewN hb _⟩
                            case measure => simp [intOf]; omega
                        · have d2 : decide (0 ≤ qp) = false := by simpa using c2
                          go_wp2
                          go_quiet (fail)
                          go_wp2
                          go_roundw
                          case rel =>
                            exact ⟨q + 1, by omega, by go_num, crossed_step hcr.out (fun h => by
                              have := h.2.2.1
                              rw [← Hqp.out] at this
                              omega), own_drewN hown.out _, below_drewN hb _⟩
                          case measure => simp [intOf]; omega
                      · have d1 : decide (fp < qb) = false := by simpa using c1
                        go_wp2
                        go_quiet (fail)
                        go_wp2
                        go_roundw
                        case rel =>
                          exact ⟨q + 1, by omega, by go_num, crossed_step hcr.out (fun h => by
                            have := h.2.1
                            rw [← Hfp.out, ← Hqb.out] at this
                            omega), own_drewN hown.out _, below_drewN hb _⟩
                        case measure => simp [intOf]; omega
                    · obtain rfl : q = k := by omega
                      go_wp2
                      go_roundw
                      case rel => exact ⟨p + 1, by omega, by go_num, good_step hg.out hnl (fun j hj => hcr.out j (by rw [Hln.out]; exact hj)), hown.out, hb⟩
                      case measure => simp [intOf]; omega
            · obtain rfl : p = k := by omega
              go_wp2
              go_ret
              refine ⟨ret_bool ?_, hb⟩
              rw [decide_eq_true (expl_of Hrd.out (by rw [← Hln.out]; exact hg.out))]
end Go.Proofs.Ytbegeijofpgliaa
