/-
  The walk of the search's closure.
-/
import Derived.Test.YtbegeijofpgliaaFindB
import Derived.Deep.DeepMust
namespace Go.Proofs.Ytbegeijofpgliaa
open Go.RowKit Go.Maps

set_option maxRecDepth 100000 in
set_option maxHeartbeats 4000000 in
theorem find_step (p : Par) (hp : p.Ok) (f : Nat) (ih : Hid (FindAt p f)) (o : List Nat) (ov : Value) (w : World) (N : Nat) (Q : List Nat → Prop) (hlen : o.length + (f + 1) = p.l.length + 1) (hf : Fine p.l o) (hx : Fx p w) (ho : Holds p w ov o)
    (ht : Tried p w N Q) (hN : N + 15 ^ (f + 1) ≤ maxLen) (hQ : ∀ o', Fine p.l o' → Q o' → o'.length < o.length ∨ Fails p o') :
    Calls Try.prog 14 #[.agg #[.int .i64 (bitsOf o : Nat), .int .i64 (lw p.l (-1) o)], at0 p.be, at0 p.bt, at0 p.bf, at0 p.bl, at0 p.bb, at0 p.bo, at0 p.bd] w (FindPost p (f + 1) o w N Q) := by
  have Hp := Lib.hid hp
  have Hf := Lib.hid hf
  have Hx := Lib.hid hx
  have Ho := Lib.hid ho
  have HN := Lib.hid hN
  have HQ := Lib.hid hQ
  obtain ⟨D, hD, hS⟩ := ht
  have HS := Lib.hid hS
  have hn14 := hp.n14
  have hand := i64_and (bitsOf o) (endedSet p.l p.l.length) (bitsOf_small (n := 14) (fun i hi => by have := hf.2 i hi; have := hp.n14; omega) (by omega)) (bitsOf_small (n := 14) (fun i hi => by have := ended_lt i hi; have := hp.n14; omega) (by omega))
  have hend := ended_iff (l := p.l) (o := o)
  have hkey := key_of Hp.out.n14 Hf.out
  have hNl : N < maxLen := by have := HN.out; have : 0 < 15 ^ (f + 1) := Nat.pow_pos (by omega); omega
  have HNl := Lib.hid hNl
  have hval := value_at Hp.out Hf.out
  obtain ⟨L, hL⟩ : ∃ L, L = lw p.l (-1) o := ⟨_, rfl⟩
  rw [← hL] at hkey hval ⊢
  have HL := Lib.hid hL
  have Hkey := Lib.hid hkey
  obtain ⟨xs, hxs⟩ : ∃ xs, xs = cur p.l p.fst o := ⟨_, rfl⟩
  rw [← hxs] at hval
  have Hxs := Lib.hid hxs
  clear hp hf ho hN hQ hS hL hNl hkey hxs
  rcases hval with ⟨j, b, G, rfl, hjn, hA, hvc, hGc⟩ | ⟨hLn, hGc⟩
  · have hce := cell_later (below_alloc1 w (.cells #[.int .i64 (bitsOf o : Nat), .int .i64 (j : Int)] 50)) hx.ce
    have hct := cell_later (below_alloc1 w (.cells #[.int .i64 (bitsOf o : Nat), .int .i64 (j : Int)] 50)) hx.ct
    have hD1 := hD.alloc (.cells #[.int .i64 (bitsOf o : Nat), .int .i64 (j : Int)] 50)
    have HD1 := Lib.hid hD1
    clear hx hD hD1
    by_cases hE : Ended p.l o
    · rw [decide_eq_true hE] at hend
      have HE := Lib.hid hE
      clear hE
      unfold at0
      go_enter Try.func14, Try.ntmps14
      go_wp2_with fail
      go_ret
      refine ⟨Hx.out.moved Hp.out (.of_below (below_alloc1 _ _)), .of_below (below_alloc1 _ _), ov, .inl ⟨o, by unfold dfs; rw [if_pos HE.out], rfl, ?_⟩⟩
      exact Ho.out.below (below_alloc1 _ _)
    · rw [decide_eq_false hE] at hend
      have HE := Lib.hid hE
      clear hE
      have hn0 : 0 < p.l.length := by
        rcases Nat.eq_zero_or_pos p.l.length with h | h
        · exact absurd (fun i hi => by omega) HE.out
        · exact h
      obtain ⟨b', hA', hop⟩ := Hp.out.hist hn0
      obtain rfl : b = b' := by rw [hA] at hA'; cases hA'; rfl
      have HA := Lib.hid hA
      have Hop := Lib.hid hop
      clear hA hA' hop
      have hcm : ∀ w1 : World, (w.alloc (.cells #[.int .i64 (bitsOf o : Nat), .int .i64 (j : Int)] 50)).grownBy w1 (some p.M) → Moved p (w.alloc (.cells #[.int .i64 (bitsOf o : Nat), .int .i64 (j : Int)] 50)) w1 ∧ Fx p w1 ∧ Holds p w1 ov o := by
        intro w1 hg
        have hb := below_alloc1 w (.cells #[.int .i64 (bitsOf o : Nat), .int .i64 (j : Int)] 50)
        have hx1 := Hx.out.moved Hp.out (.of_below hb)
        have ho1 := Ho.out.below hb
        refine ⟨.of_grown_M hg, hx1.moved Hp.out (.of_grown_M hg), ?_, ?_⟩
        · exact (hg.block _ (lt_of_block ho1.1) (by have := Hp.out.lM.2.2; simp; omega)).trans ho1.1
        · refine ho1.2.kept hg ?_
          cases hv : ov.ownBlock with
          | none => exact .inl rfl
          | some j =>
            right
            have h1 := (ho1.2.lt j hv).1
            have h2 := Hp.out.lM.1
            simp; omega
      have Hcm := Lib.hid hcm
      clear hcm
      unfold at0
      go_enter Try.func14, Try.ntmps14
      go_wp2_with (first | (at_lookup; refine wpList_lookup_own_int _ rfl _ _ 47 rfl 50 3 .i64 Try.law50 Try.underlying47 Try.underlying3 (zero3 _) p.M N D rfl HD1.out _ (keyLit p.l o) rfl Hkey.out ?_; intro cc hat hwc; have Hat := Lib.hid hat; clear hat hwc) | (at_mapUpdate; refine wpList_mapUpdate_own _ rfl _ _ _ 47 rfl 50 3 Try.law50 Try.underlying47 _ p.M N D rfl HD1.out HNl.out _ _ (keyLit p.l o) rfl rfl Hkey.out (.lit (.int .i64 1)) [] (plainElem_int Try.underlying3 (by decide)) ?_; intro w1 hown1 hgrow1; obtain ⟨hm1, hx1, ho1⟩ := Hcm.out w1 hgrow1; have Hown1 := Lib.hid hown1; have Hm1 := Lib.hid hm1; have Ho1 := Lib.hid ho1; have Hx1 := Lib.hid hx1; have hs0 := hgrow1.cell (a := ⟨w.heap.size, 0, none⟩) (v := .int .i64 (bitsOf o : Nat)) (by simp) (by have := Hp.out.lM.1; have := Hx.out.size; simp; omega); have hs1 := hgrow1.cell (a := ⟨w.heap.size, 1, none⟩) (v := .int .i64 (j : Int)) (by simp) (by have := Hp.out.lM.1; have := Hx.out.size; simp; omega); have hcf := hx1.cf; have hcl := hx1.cl; rw [HA.out] at hcl; have hvc1 := cell_later hx1.below hvc; clear hown1 hgrow1 hm1 hx1 ho1))
      · have hcc : 0 < cc := by assumption
        have hfl : dfs p.l p.fst (f + 1) o = none := by
          rcases HQ.out o Hf.out (HS.out o Hf.out cc Hat.out hcc) with h | h
          · omega
          · unfold Fails at h
            rwa [show p.l.length + 1 - o.length = f + 1 from by omega] at h
        have Hfl := Lib.hid hfl
        clear hfl
        go_ret
        refine ⟨Hx.out.moved Hp.out (.of_below (below_alloc1 _ _)), .of_below (below_alloc1 _ _), ov, .inr ⟨Hfl.out, rfl, Ho.out.below (below_alloc1 _ _), D, HD1.out.mono (Nat.le_add_right _ _), HS.out.imp (fun o' _ h => .inl h)⟩⟩
      · have Hbe := Lib.hid hce
        clear hce hct hand hend
        have hcc : cc ≤ 0 := by assumption
        simp only [show decide (0 < cc) = false from by simp; omega]
        skip
        have hri : RI p f o (w.alloc (.cells #[.int .i64 (bitsOf o : Nat), .int .i64 (j : Int)] 50)) N Q 0 w1 := ri_start Hp.out Hf.out Hx1.out Hm1.out Ho1.out Hown1.out HS.out
        have Hri := Lib.hid hri
        clear hri hs0 hs1 hcf hcl hvc1 hcc
        go_loopw [38, 11, 12, 13] (fun i _ _ _ wr => ∃ k : Nat, k ≤ p.l.length ∧ i = .int .i64 k ∧ Hid (RI p f o (w.alloc (.cells #[.int .i64 (bitsOf o : Nat), .int .i64 (j : Int)] 50)) N Q k wr)) (fun i _ _ _ _ => p.l.length - (intOf i).toNat)
        case atStart => exact ⟨0, by omega, rfl, Hri.out⟩
        case round =>
          obtain ⟨k, hk, rfl, hr⟩ := hrel
          by_cases hlt : k < p.l.length
          · obtain ⟨hx, hm, ovr, hh, htr, hno⟩ := hr.out
            have Hx2 := Lib.hid hx
            have Hm2 := Lib.hid hm
            have Hh2 := Lib.hid hh
            have Htr2 := Lib.hid htr
            have Hno2 := Lib.hid hno
            obtain ⟨h0, ⟨g, h1, h1'⟩, h2, h3⟩ := (Hop.out k hlt).below hx.below
            have hs0 := hm.cell (a := ⟨w.heap.size, 0, none⟩) (v := .int .i64 (bitsOf o : Nat)) (by simp) (by have := Hp.out.lbo.1; have := Hx.out.size; simp; omega) (by have := Hp.out.lM.1; have := Hx.out.size; simp; omega) (.inr (by intro cs; rw [heap_new]; simp))
            have hs1 := hm.cell (a := ⟨w.heap.size, 1, none⟩) (v := .int .i64 (j : Int)) (by simp) (by have := Hp.out.lbo.1; have := Hx.out.size; simp; omega) (by have := Hp.out.lM.1; have := Hx.out.size; simp; omega) (.inr (by intro cs; rw [heap_new]; simp))
            have hsz : w.heap.size < wr.heap.size := by have := hm.size; simp at this; omega
            have hX := below_alloc1 wr (.cells #[.bool (opAt p.l k).wr, .slice (some ⟨g, 0, none⟩) 1 1, .int .i64 (opAt p.l k).beg, .int .i64 (opAt p.l k).fin] 25)
            have hbb := cell_later hX (hx.cb hn0)
            have hBB := cell_later hX (hx.cB k hlt)
            have hs0' := cell_later hX hs0
            have hs1' := cell_later hX hs1
            have hg1 := cell_later hX h1'
            have hG1 := cell_later hX (cell_later hx.below hGc)
            have hsm : bitsOf o < 4611686018427387904 := bitsOf_small (n := 14) (fun i hi => by have := Hf.out.2 i hi; omega) (by omega)
            have hdm := fun h => dkid_not (p := p) (f := f) (o := o) (i := k) h
            have Hdm := Lib.hid hdm
            clear hX hx hm hh htr hno hdm
            have d1 := bit_in (k := k) hsm
            have d2 := ahead_out (k := k) hn14 hsm
            clear hsm
            have hskip : dkid p f o k = none → ∀ n, RI p f o (w.alloc (.cells #[.int .i64 (bitsOf o : Nat), .int .i64 (j : Int)] 50)) N Q (k + 1) ((wr.alloc (.cells #[.bool (opAt p.l k).wr, .slice (some ⟨g, 0, none⟩) 1 1, .int .i64 (opAt p.l k).beg, .int .i64 (opAt p.l k).fin] 25)).drewN n) := by
              intro h n
              exact ri_skip Hp.out hr.out h (below_drewN (below_alloc1 _ _) n)
            have Hskip := Lib.hid hskip
            clear hskip
            by_cases c1 : k ∈ o
            · rw [decide_eq_true c1] at d1
              have C1 := Lib.hid c1
              clear c1 d2
              go_wp2_with fail
              go_quiet (fail)
              go_wp2_with fail
              go_roundw
              case rel => exact ⟨k + 1, by omega, by go_num, Hskip.out (Hdm.out (fun h => h.1 C1.out)) _⟩
              case measure => simp [intOf]; omega
            · rw [decide_eq_false c1] at d1
              have C1 := Lib.hid c1
              clear c1
              by_cases c2 : ∃ j, j < p.l.length ∧ isAhead p.l k j = true ∧ j ∉ o
              · rw [decide_eq_true c2] at d2
                have C2 := Lib.hid c2
                clear c2
                go_wp2_with fail
                go_quiet (fail)
                go_wp2_with fail
                go_roundw
                case rel => exact ⟨k + 1, by omega, by go_num, Hskip.out (Hdm.out (fun h => by
                  obtain ⟨j, hj, ha, hjo⟩ := C2.out
                  unfold isAhead at ha
                  simp at ha
                  exact hjo (h.2.1 j hj ha.1 ha.2))) _⟩
                case measure => simp [intOf]; omega
              · rw [decide_eq_false c2] at d2
                have C2 := Lib.hid c2
                clear c2
                by_cases c3 : (opAt p.l k).wr = true
                · have C3 := Lib.hid c3
                  have hnx : Next p.l p.fst o k := next_of C1.out C2.out (.inl c3)
                  have Hnx := Lib.hid hnx
                  rw [c3] at h0 hbb hBB hs0' hs1' hg1 hG1
                  clear c3 hnx
                  go_wp2_with fail
                  go_quiet (fail)
                  obtain ⟨wd, hwd⟩ : ∃ wd, wd = (wr.alloc (.cells #[.bool true, .slice (some ⟨g, 0, none⟩) 1 1, .int .i64 (opAt p.l k).beg, .int .i64 (opAt p.l k).fin] 25)).drewN nq := ⟨_, rfl⟩
                  have hbd : Below wr.heap.size wr wd := by rw [hwd]; exact below_drewN (below_alloc1 _ _) nq
                  have hx0 : wd.cell? ⟨wr.heap.size, 0, none⟩ = some (.bool true) := by rw [hwd]; exact World.cell?_alloc_at _ _ _ _ rfl
                  have hds : wd.heap.size = wr.heap.size + 1 := by rw [hwd]; simp
                  have hszd : w.heap.size < wd.heap.size := by rw [hds]; omega
                  have hs0d := cell_later hbd hs0
                  have hs1d := cell_later hbd hs1
                  have Hbd := Lib.hid hbd
                  have Hds := Lib.hid hds
                  rw [← hwd]
                  have hbits := bits_more (o := o) (q := k) (n := 14) (fun i hi => by have := Hf.out.2 i hi; omega) (by omega) (by omega)
                  have hxd := cell_later (below_alloc1 wd (.cells #[.int .i64 (bitsOf (o ++ [k]) : Nat), .int .i64 (j : Int)] 50)) hx0
                  have hxd : (wd.alloc (.cells #[.int .i64 (bitsOf (o ++ [k]) : Nat), .int .i64 (j : Int)] 50)).drew.cell? ⟨wr.heap.size, 0, none⟩ = some (.bool true) := hxd
                  clear hwd hbd hds hs0' hs1' hbb hBB hg1 hG1 h1 h1' h2 h3 h0 hs0 hs1
                  go_wp2_with fail
                  go_region
                  obtain ⟨wn, hwn⟩ : ∃ wn, wn = (wd.alloc (.cells #[.int .i64 (bitsOf (o ++ [k]) : Nat), .int .i64 (j : Int)] 50)).drew := ⟨_, rfl⟩
                  rw [← hwn] at hxd ⊢
                  have hbn : Below wr.heap.size wr wn := by rw [hwn]; exact Hbd.out.trans (((below_alloc1 _ _).drew).mono Hbd.out.size)
                  have hblk : wn.heap[wd.heap.size]? = some (.cells #[.int .i64 (bitsOf (o ++ [k]) : Nat), .int .i64 (j : Int)] 50 (0, 0)) := by rw [hwn]; exact heap_new wd _
                  have hnn := cell_of2 hblk
                  have hbe : Below wr.heap.size wr (wn.setCell ⟨wd.heap.size, 1, none⟩ (.int .i64 (k : Int))) := hbn.setCell (by have := Hds.out; simp; omega) _
                  have hblke : (wn.setCell ⟨wd.heap.size, 1, none⟩ (.int .i64 (k : Int))).heap[wd.heap.size]? = some (.cells #[.int .i64 (bitsOf (o ++ [k]) : Nat), .int .i64 (k : Int)] 50 (0, 0)) := set2 hblk _
                  have hns : wn.heap.size = wd.heap.size + 1 := by rw [hwn]; simp
                  have Hns := Lib.hid hns
                  obtain ⟨i0, hi, hz0, hz1, hz2⟩ := info_parts Try.info3
                  have hown := own_below Hh2.out.2 (hbe.trans ((below_alloc1 _ (.cells #[.int .i64 (k : Int)] 3)).mono hbe.size))
                  have Hown := Lib.hid hown
                  have hbo := cell_of_one (hbe.block _ (lt_of_block Hh2.out.1) |>.trans Hh2.out.1)
                  have Hbe2 := Lib.hid hbe
                  have Hblk := Lib.hid hblke
                  have hol := Hf.out.length_le
                  have hpw := pow_room (k := k) (by omega) HN.out
                  have Hpw := Lib.hid hpw
                  have hob := Hx2.out.size
                  have Hob := Lib.hid hob
                  clear hwn hns hown hbe hblke hbn hblk hszd hs0d hs1d d1 d2 hbits hpw hob hx0
                  go_wp2_with (first | (at_builtin; go_must (refine wpList_append_own _ rfl (.tmp 83) (.tmp 85) 35 rfl p.ob 3 i0 (.int .i64 0) 1 8 Try.underlying35 hi hz0 hz1 hz2 rfl (by decide) ovr o.length (nats o) rfl Hown.out ⟨wn.heap.size, 0, none⟩ 1 1 [.int .i64 k] rfl rfl (cell_one_at _ _ _ _ (by simp)) (by intro u hu; simp at hu; subst hu; rfl) (by unfold maxLen; omega) (by omega) (by have := Hds.out; have := Hns.out; have := Hob.out; simp; omega) ?_); intro v' w2 hown2 hgrow2 hnil; clear hnil; obtain ⟨g2, cap2, rfl, hcap2⟩ := own_shape hown2; obtain ⟨t1, t2, t3, t4, t5, T6⟩ := tail_facts Hp.out Hx2.out Hh2.out Htr2.out Hbe2.out Hblk.out (by have := Hds.out; have := Hob.out; omega) hgrow2 hown2; unfold Par.caps at0 at t3; clear hown2 hgrow2))
                  have Hcall : Hid (Calls Try.prog 14 #[.agg #[.int .i64 (bitsOf (o ++ [k]) : Nat), .int .i64 k], .pointer (some ⟨p.be, 0, none⟩), .pointer (some ⟨p.bt, 0, none⟩), .pointer (some ⟨p.bf, 0, none⟩), .pointer (some ⟨p.bl, 0, none⟩), .pointer (some ⟨p.bb, 0, none⟩), .pointer (some ⟨p.bo, 0, none⟩), .pointer (some ⟨p.bd, 0, none⟩)] (w2.setCell ⟨p.bo, 0, none⟩ (.slice (some ⟨g2, 0, none⟩) (o.length + 1) cap2)) (FindPost p f (o ++ [k]) (w2.setCell ⟨p.bo, 0, none⟩ (.slice (some ⟨g2, 0, none⟩) (o.length + 1) cap2)) (N + 1 + k * 15 ^ f) (Under p o Q))) := by
                    have := ih.out (o ++ [k]) _ _ _ _ (by simp; omega) (Hf.out.snoc hlt C1.out) T6.out.1 T6.out.2.2.1 T6.out.2.2.2 Hpw.out (under_room Hf.out HQ.out)
                    rw [lw_yes C3.out] at this
                    exact this
                  clear t1 t2 t3 t4 t5
                  with_reducible refine Hcall.out.mono ?_
                  rintro e w4 ⟨hx4, hm4, ov4, ⟨r, hr, rfl, hh4⟩ | ⟨hr, rfl, hh4, ht4⟩⟩
                  · have Hfin := Lib.hid (post_found (N := N) (Q := Q) HE.out (below_alloc1 _ _) Hm2.out hlt Hno2.out Hnx.out T6.out.2.1 hm4 hx4 hr hh4)
                    clear hx4 hm4 hr hh4
                    go_wp2_with fail
                    go_ret
                    exact Hfin.out
                  · obtain ⟨g4, cap4, rfl, hcap4⟩ := own_shape (n := o.length) (by have := hh4.2; rwa [List.length_append, List.length_singleton] at this)
                    have hb4 := cell_of_one hh4.1
                    have hf4 := free_of_one hh4.1
                    have Hfin := Lib.hid (ri_kid Hp.out Hm2.out Hno2.out (T6.out.2.1.trans hm4) hx4 (by unfold dkid; rw [if_pos Hnx.out]; exact hr) ht4 (.of_set _ _) (holds_pop Hp.out hh4) (tried_set Hp.out))
                    clear hx4 hm4 hr hh4 ht4
                    go_wp2_with fail
                    go_roundw
                    case rel => exact ⟨k + 1, by omega, by go_num, Hfin.out⟩
                    case measure => simp [intOf]; omega
                · have c3' : (opAt p.l k).wr = false := by simpa using c3
                  have C3 := Lib.hid c3'
                  have hskip := Hskip.out
                  rw [c3'] at h0 hbb hBB hs0' hs1' hg1 hG1 hskip
                  have Hskip := Lib.hid hskip
                  clear c3 c3' hskip
                  by_cases c4 : ((opAt p.l k).val == xs) = true
                  · have hnx : Next p.l p.fst o k := next_of C1.out C2.out (.inr (by rw [← Hxs.out]; simpa using c4))
                    have Hnx := Lib.hid hnx
                    clear hnx
                    go_wp2_with fail
                    go_quiet ((go_at_call 15; exact Calls.quiet_of_same (equal_any _ _ _ _ _ _ _ hg1 hG1)))
                    obtain ⟨wd, hwd⟩ : ∃ wd, wd = (wr.alloc (.cells #[.bool false, .slice (some ⟨g, 0, none⟩) 1 1, .int .i64 (opAt p.l k).beg, .int .i64 (opAt p.l k).fin] 25)).drewN nq := ⟨_, rfl⟩
                    have hbd : Below wr.heap.size wr wd := by rw [hwd]; exact below_drewN (below_alloc1 _ _) nq
                    have hx0 : wd.cell? ⟨wr.heap.size, 0, none⟩ = some (.bool false) := by rw [hwd]; exact World.cell?_alloc_at _ _ _ _ rfl
                    have hds : wd.heap.size = wr.heap.size + 1 := by rw [hwd]; simp
                    have hszd : w.heap.size < wd.heap.size := by rw [hds]; omega
                    have hs0d := cell_later hbd hs0
                    have hs1d := cell_later hbd hs1
                    have Hbd := Lib.hid hbd
                    have Hds := Lib.hid hds
                    rw [← hwd]
                    have hbits := bits_more (o := o) (q := k) (n := 14) (fun i hi => by have := Hf.out.2 i hi; omega) (by omega) (by omega)
                    have hxd := cell_later (below_alloc1 wd (.cells #[.int .i64 (bitsOf (o ++ [k]) : Nat), .int .i64 (j : Int)] 50)) hx0
                    have hxd : (wd.alloc (.cells #[.int .i64 (bitsOf (o ++ [k]) : Nat), .int .i64 (j : Int)] 50)).drew.cell? ⟨wr.heap.size, 0, none⟩ = some (.bool false) := hxd
                    clear hwd hbd hds hs0' hs1' hbb hBB hg1 hG1 h1 h1' h2 h3 h0 hs0 hs1
                    go_wp2_with fail
                    go_region
                    obtain ⟨wn, hwn⟩ : ∃ wn, wn = (wd.alloc (.cells #[.int .i64 (bitsOf (o ++ [k]) : Nat), .int .i64 (j : Int)] 50)).drew := ⟨_, rfl⟩
                    rw [← hwn] at hxd ⊢
                    have hbn : Below wr.heap.size wr wn := by rw [hwn]; exact Hbd.out.trans (((below_alloc1 _ _).drew).mono Hbd.out.size)
                    have hblk : wn.heap[wd.heap.size]? = some (.cells #[.int .i64 (bitsOf (o ++ [k]) : Nat), .int .i64 (j : Int)] 50 (0, 0)) := by rw [hwn]; exact heap_new wd _
                    have hbe := hbn
                    have hblke := hblk
                    have hns : wn.heap.size = wd.heap.size + 1 := by rw [hwn]; simp
                    have Hns := Lib.hid hns
                    obtain ⟨i0, hi, hz0, hz1, hz2⟩ := info_parts Try.info3
                    have hown := own_below Hh2.out.2 (hbe.trans ((below_alloc1 _ (.cells #[.int .i64 (k : Int)] 3)).mono hbe.size))
                    have Hown := Lib.hid hown
                    have hbo := cell_of_one (hbe.block _ (lt_of_block Hh2.out.1) |>.trans Hh2.out.1)
                    have Hbe2 := Lib.hid hbe
                    have Hblk := Lib.hid hblke
                    have hol := Hf.out.length_le
                    have hpw := pow_room (k := k) (by omega) HN.out
                    have Hpw := Lib.hid hpw
                    have hob := Hx2.out.size
                    have Hob := Lib.hid hob
                    clear hwn hns hown hbe hblke hbn hblk hszd hs0d hs1d d1 d2 hbits hpw hob hx0
                    go_wp2_with (first | (at_builtin; go_must (refine wpList_append_own _ rfl (.tmp 83) (.tmp 85) 35 rfl p.ob 3 i0 (.int .i64 0) 1 8 Try.underlying35 hi hz0 hz1 hz2 rfl (by decide) ovr o.length (nats o) rfl Hown.out ⟨wn.heap.size, 0, none⟩ 1 1 [.int .i64 k] rfl rfl (cell_one_at _ _ _ _ (by simp)) (by intro u hu; simp at hu; subst hu; rfl) (by unfold maxLen; omega) (by omega) (by have := Hds.out; have := Hns.out; have := Hob.out; simp; omega) ?_); intro v' w2 hown2 hgrow2 hnil; clear hnil; obtain ⟨g2, cap2, rfl, hcap2⟩ := own_shape hown2; obtain ⟨t1, t2, t3, t4, t5, T6⟩ := tail_facts Hp.out Hx2.out Hh2.out Htr2.out Hbe2.out Hblk.out (by have := Hds.out; have := Hob.out; omega) hgrow2 hown2; unfold Par.caps at0 at t3; clear hown2 hgrow2))
                    have Hcall : Hid (Calls Try.prog 14 #[.agg #[.int .i64 (bitsOf (o ++ [k]) : Nat), .int .i64 (j : Int)], .pointer (some ⟨p.be, 0, none⟩), .pointer (some ⟨p.bt, 0, none⟩), .pointer (some ⟨p.bf, 0, none⟩), .pointer (some ⟨p.bl, 0, none⟩), .pointer (some ⟨p.bb, 0, none⟩), .pointer (some ⟨p.bo, 0, none⟩), .pointer (some ⟨p.bd, 0, none⟩)] (w2.setCell ⟨p.bo, 0, none⟩ (.slice (some ⟨g2, 0, none⟩) (o.length + 1) cap2)) (FindPost p f (o ++ [k]) (w2.setCell ⟨p.bo, 0, none⟩ (.slice (some ⟨g2, 0, none⟩) (o.length + 1) cap2)) (N + 1 + k * 15 ^ f) (Under p o Q))) := by
                      have := ih.out (o ++ [k]) _ _ _ _ (by simp; omega) (Hf.out.snoc hlt C1.out) T6.out.1 T6.out.2.2.1 T6.out.2.2.2 Hpw.out (under_room Hf.out HQ.out)
                      rw [lw_no C3.out, ← HL.out] at this
                      exact this
                    clear t1 t2 t3 t4 t5
                    with_reducible refine Hcall.out.mono ?_
                    rintro e w4 ⟨hx4, hm4, ov4, ⟨r, hr, rfl, hh4⟩ | ⟨hr, rfl, hh4, ht4⟩⟩
                    · have Hfin := Lib.hid (post_found (N := N) (Q := Q) HE.out (below_alloc1 _ _) Hm2.out hlt Hno2.out Hnx.out T6.out.2.1 hm4 hx4 hr hh4)
                      clear hx4 hm4 hr hh4
                      go_wp2_with fail
                      go_ret
                      exact Hfin.out
                    · obtain ⟨g4, cap4, rfl, hcap4⟩ := own_shape (n := o.length) (by have := hh4.2; rwa [List.length_append, List.length_singleton] at this)
                      have hb4 := cell_of_one hh4.1
                      have hf4 := free_of_one hh4.1
                      have Hfin := Lib.hid (ri_kid Hp.out Hm2.out Hno2.out (T6.out.2.1.trans hm4) hx4 (by unfold dkid; rw [if_pos Hnx.out]; exact hr) ht4 (.of_set _ _) (holds_pop Hp.out hh4) (tried_set Hp.out))
                      clear hx4 hm4 hr hh4 ht4
                      go_wp2_with fail
                      go_roundw
                      case rel => exact ⟨k + 1, by omega, by go_num, Hfin.out⟩
                      case measure => simp [intOf]; omega
                  · have c4' : ((opAt p.l k).val == xs) = false := by simpa using c4
                    have C4 := Lib.hid c4'
                    clear c4
                    go_wp2_with fail
                    go_quiet ((go_at_call 15; exact Calls.quiet_of_same (equal_any _ _ _ _ _ _ _ hg1 hG1)))
                    go_wp2_with fail
                    go_roundw
                    case rel => exact ⟨k + 1, by omega, by go_num, Hskip.out (Hdm.out (fun h => by
                      rcases h.2.2 with h | h
                      · rw [C3.out] at h; cases h
                      · have := C4.out; rw [h, Hxs.out] at this; simp at this)) _⟩
                    case measure => simp [intOf]; omega
          · have hk' : k = p.l.length := by omega
            have hr2 := hr.out
            rw [hk'] at hr2
            have Hfin := Lib.hid (post_none Hp.out hlen Hf.out HE.out (below_alloc1 _ _) hr2)
            clear hk' hr2
            go_wp2_with fail
            go_ret
            exact Hfin.out

  · have hce := cell_later (below_alloc1 w (.cells #[.int .i64 (bitsOf o : Nat), .int .i64 L] 50)) hx.ce
    have hct := cell_later (below_alloc1 w (.cells #[.int .i64 (bitsOf o : Nat), .int .i64 L] 50)) hx.ct
    have hD1 := hD.alloc (.cells #[.int .i64 (bitsOf o : Nat), .int .i64 L] 50)
    have HD1 := Lib.hid hD1
    clear hx hD hD1
    by_cases hE : Ended p.l o
    · rw [decide_eq_true hE] at hend
      have HE := Lib.hid hE
      clear hE
      unfold at0
      go_enter Try.func14, Try.ntmps14
      go_wp2_with fail
      go_ret
      refine ⟨Hx.out.moved Hp.out (.of_below (below_alloc1 _ _)), .of_below (below_alloc1 _ _), ov, .inl ⟨o, by unfold dfs; rw [if_pos HE.out], rfl, ?_⟩⟩
      exact Ho.out.below (below_alloc1 _ _)
    · rw [decide_eq_false hE] at hend
      have HE := Lib.hid hE
      clear hE
      have hn0 : 0 < p.l.length := by
        rcases Nat.eq_zero_or_pos p.l.length with h | h
        · exact absurd (fun i hi => by omega) HE.out
        · exact h
      obtain ⟨b, hA, hop⟩ := Hp.out.hist hn0
      have HA := Lib.hid hA
      have Hop := Lib.hid hop
      clear hA hop
      have hcm : ∀ w1 : World, (w.alloc (.cells #[.int .i64 (bitsOf o : Nat), .int .i64 L] 50)).grownBy w1 (some p.M) → Moved p (w.alloc (.cells #[.int .i64 (bitsOf o : Nat), .int .i64 L] 50)) w1 ∧ Fx p w1 ∧ Holds p w1 ov o := by
        intro w1 hg
        have hb := below_alloc1 w (.cells #[.int .i64 (bitsOf o : Nat), .int .i64 L] 50)
        have hx1 := Hx.out.moved Hp.out (.of_below hb)
        have ho1 := Ho.out.below hb
        refine ⟨.of_grown_M hg, hx1.moved Hp.out (.of_grown_M hg), ?_, ?_⟩
        · exact (hg.block _ (lt_of_block ho1.1) (by have := Hp.out.lM.2.2; simp; omega)).trans ho1.1
        · refine ho1.2.kept hg ?_
          cases hv : ov.ownBlock with
          | none => exact .inl rfl
          | some j =>
            right
            have h1 := (ho1.2.lt j hv).1
            have h2 := Hp.out.lM.1
            simp; omega
      have Hcm := Lib.hid hcm
      clear hcm
      unfold at0
      go_enter Try.func14, Try.ntmps14
      go_wp2_with (first | (at_lookup; refine wpList_lookup_own_int _ rfl _ _ 47 rfl 50 3 .i64 Try.law50 Try.underlying47 Try.underlying3 (zero3 _) p.M N D rfl HD1.out _ (keyLit p.l o) rfl Hkey.out ?_; intro cc hat hwc; have Hat := Lib.hid hat; clear hat hwc) | (at_mapUpdate; refine wpList_mapUpdate_own _ rfl _ _ _ 47 rfl 50 3 Try.law50 Try.underlying47 _ p.M N D rfl HD1.out HNl.out _ _ (keyLit p.l o) rfl rfl Hkey.out (.lit (.int .i64 1)) [] (plainElem_int Try.underlying3 (by decide)) ?_; intro w1 hown1 hgrow1; obtain ⟨hm1, hx1, ho1⟩ := Hcm.out w1 hgrow1; have Hown1 := Lib.hid hown1; have Hm1 := Lib.hid hm1; have Ho1 := Lib.hid ho1; have Hx1 := Lib.hid hx1; have hs0 := hgrow1.cell (a := ⟨w.heap.size, 0, none⟩) (v := .int .i64 (bitsOf o : Nat)) (by simp) (by have := Hp.out.lM.1; have := Hx.out.size; simp; omega); have hs1 := hgrow1.cell (a := ⟨w.heap.size, 1, none⟩) (v := .int .i64 L) (by simp) (by have := Hp.out.lM.1; have := Hx.out.size; simp; omega); have hcf := hx1.cf; have hcl := hx1.cl; rw [HA.out] at hcl; clear hown1 hgrow1 hm1 hx1 ho1))
      · have hcc : 0 < cc := by assumption
        have hfl : dfs p.l p.fst (f + 1) o = none := by
          rcases HQ.out o Hf.out (HS.out o Hf.out cc Hat.out hcc) with h | h
          · omega
          · unfold Fails at h
            rwa [show p.l.length + 1 - o.length = f + 1 from by omega] at h
        have Hfl := Lib.hid hfl
        clear hfl
        go_ret
        refine ⟨Hx.out.moved Hp.out (.of_below (below_alloc1 _ _)), .of_below (below_alloc1 _ _), ov, .inr ⟨Hfl.out, rfl, Ho.out.below (below_alloc1 _ _), D, HD1.out.mono (Nat.le_add_right _ _), HS.out.imp (fun o' _ h => .inl h)⟩⟩
      · have Hbe := Lib.hid hce
        clear hce hct hand hend
        have hcc : cc ≤ 0 := by assumption
        simp only [show decide (0 < cc) = false from by simp; omega]
        simp only [show decide (0 ≤ L) = false from by simp; omega]
        have hri : RI p f o (w.alloc (.cells #[.int .i64 (bitsOf o : Nat), .int .i64 L] 50)) N Q 0 w1 := ri_start Hp.out Hf.out Hx1.out Hm1.out Ho1.out Hown1.out HS.out
        have Hri := Lib.hid hri
        clear hri hs0 hs1 hcf hcl  hcc
        go_loopw [38, 11, 12, 13] (fun i _ _ _ wr => ∃ k : Nat, k ≤ p.l.length ∧ i = .int .i64 k ∧ Hid (RI p f o (w.alloc (.cells #[.int .i64 (bitsOf o : Nat), .int .i64 L] 50)) N Q k wr)) (fun i _ _ _ _ => p.l.length - (intOf i).toNat)
        case atStart => exact ⟨0, by omega, rfl, Hri.out⟩
        case round =>
          obtain ⟨k, hk, rfl, hr⟩ := hrel
          by_cases hlt : k < p.l.length
          · obtain ⟨hx, hm, ovr, hh, htr, hno⟩ := hr.out
            have Hx2 := Lib.hid hx
            have Hm2 := Lib.hid hm
            have Hh2 := Lib.hid hh
            have Htr2 := Lib.hid htr
            have Hno2 := Lib.hid hno
            obtain ⟨h0, ⟨g, h1, h1'⟩, h2, h3⟩ := (Hop.out k hlt).below hx.below
            have hs0 := hm.cell (a := ⟨w.heap.size, 0, none⟩) (v := .int .i64 (bitsOf o : Nat)) (by simp) (by have := Hp.out.lbo.1; have := Hx.out.size; simp; omega) (by have := Hp.out.lM.1; have := Hx.out.size; simp; omega) (.inr (by intro cs; rw [heap_new]; simp))
            have hs1 := hm.cell (a := ⟨w.heap.size, 1, none⟩) (v := .int .i64 L) (by simp) (by have := Hp.out.lbo.1; have := Hx.out.size; simp; omega) (by have := Hp.out.lM.1; have := Hx.out.size; simp; omega) (.inr (by intro cs; rw [heap_new]; simp))
            have hsz : w.heap.size < wr.heap.size := by have := hm.size; simp at this; omega
            have hX := below_alloc1 wr (.cells #[.bool (opAt p.l k).wr, .slice (some ⟨g, 0, none⟩) 1 1, .int .i64 (opAt p.l k).beg, .int .i64 (opAt p.l k).fin] 25)
            have hbb := cell_later hX (hx.cb hn0)
            have hBB := cell_later hX (hx.cB k hlt)
            have hs0' := cell_later hX hs0
            have hs1' := cell_later hX hs1
            have hg1 := cell_later hX h1'
            have hG1 := cell_later hX (cell_later hx.below hGc)
            have hsm : bitsOf o < 4611686018427387904 := bitsOf_small (n := 14) (fun i hi => by have := Hf.out.2 i hi; omega) (by omega)
            have hdm := fun h => dkid_not (p := p) (f := f) (o := o) (i := k) h
            have Hdm := Lib.hid hdm
            clear hX hx hm hh htr hno hdm
            have d1 := bit_in (k := k) hsm
            have d2 := ahead_out (k := k) hn14 hsm
            clear hsm
            have hskip : dkid p f o k = none → ∀ n, RI p f o (w.alloc (.cells #[.int .i64 (bitsOf o : Nat), .int .i64 L] 50)) N Q (k + 1) ((wr.alloc (.cells #[.bool (opAt p.l k).wr, .slice (some ⟨g, 0, none⟩) 1 1, .int .i64 (opAt p.l k).beg, .int .i64 (opAt p.l k).fin] 25)).drewN n) := by
              intro h n
              exact ri_skip Hp.out hr.out h (below_drewN (below_alloc1 _ _) n)
            have Hskip := Lib.hid hskip
            clear hskip
            by_cases c1 : k ∈ o
            · rw [decide_eq_true c1] at d1
              have C1 := Lib.hid c1
              clear c1 d2
              go_wp2_with fail
              go_quiet (fail)
              go_wp2_with fail
              go_roundw
              case rel => exact ⟨k + 1, by omega, by go_num, Hskip.out (Hdm.out (fun h => h.1 C1.out)) _⟩
              case measure => simp [intOf]; omega
            · rw [decide_eq_false c1] at d1
              have C1 := Lib.hid c1
              clear c1
              by_cases c2 : ∃ j, j < p.l.length ∧ isAhead p.l k j = true ∧ j ∉ o
              · rw [decide_eq_true c2] at d2
                have C2 := Lib.hid c2
                clear c2
                go_wp2_with fail
                go_quiet (fail)
                go_wp2_with fail
                go_roundw
                case rel => exact ⟨k + 1, by omega, by go_num, Hskip.out (Hdm.out (fun h => by
                  obtain ⟨j, hj, ha, hjo⟩ := C2.out
                  unfold isAhead at ha
                  simp at ha
                  exact hjo (h.2.1 j hj ha.1 ha.2))) _⟩
                case measure => simp [intOf]; omega
              · rw [decide_eq_false c2] at d2
                have C2 := Lib.hid c2
                clear c2
                by_cases c3 : (opAt p.l k).wr = true
                · have C3 := Lib.hid c3
                  have hnx : Next p.l p.fst o k := next_of C1.out C2.out (.inl c3)
                  have Hnx := Lib.hid hnx
                  rw [c3] at h0 hbb hBB hs0' hs1' hg1 hG1
                  clear c3 hnx
                  go_wp2_with fail
                  go_quiet (fail)
                  obtain ⟨wd, hwd⟩ : ∃ wd, wd = (wr.alloc (.cells #[.bool true, .slice (some ⟨g, 0, none⟩) 1 1, .int .i64 (opAt p.l k).beg, .int .i64 (opAt p.l k).fin] 25)).drewN nq := ⟨_, rfl⟩
                  have hbd : Below wr.heap.size wr wd := by rw [hwd]; exact below_drewN (below_alloc1 _ _) nq
                  have hx0 : wd.cell? ⟨wr.heap.size, 0, none⟩ = some (.bool true) := by rw [hwd]; exact World.cell?_alloc_at _ _ _ _ rfl
                  have hds : wd.heap.size = wr.heap.size + 1 := by rw [hwd]; simp
                  have hszd : w.heap.size < wd.heap.size := by rw [hds]; omega
                  have hs0d := cell_later hbd hs0
                  have hs1d := cell_later hbd hs1
                  have Hbd := Lib.hid hbd
                  have Hds := Lib.hid hds
                  rw [← hwd]
                  have hbits := bits_more (o := o) (q := k) (n := 14) (fun i hi => by have := Hf.out.2 i hi; omega) (by omega) (by omega)
                  have hxd := cell_later (below_alloc1 wd (.cells #[.int .i64 (bitsOf (o ++ [k]) : Nat), .int .i64 L] 50)) hx0
                  have hxd : (wd.alloc (.cells #[.int .i64 (bitsOf (o ++ [k]) : Nat), .int .i64 L] 50)).drew.cell? ⟨wr.heap.size, 0, none⟩ = some (.bool true) := hxd
                  clear hwd hbd hds hs0' hs1' hbb hBB hg1 hG1 h1 h1' h2 h3 h0 hs0 hs1
                  go_wp2_with fail
                  go_region
                  obtain ⟨wn, hwn⟩ : ∃ wn, wn = (wd.alloc (.cells #[.int .i64 (bitsOf (o ++ [k]) : Nat), .int .i64 L] 50)).drew := ⟨_, rfl⟩
                  rw [← hwn] at hxd ⊢
                  have hbn : Below wr.heap.size wr wn := by rw [hwn]; exact Hbd.out.trans (((below_alloc1 _ _).drew).mono Hbd.out.size)
                  have hblk : wn.heap[wd.heap.size]? = some (.cells #[.int .i64 (bitsOf (o ++ [k]) : Nat), .int .i64 L] 50 (0, 0)) := by rw [hwn]; exact heap_new wd _
                  have hnn := cell_of2 hblk
                  have hbe : Below wr.heap.size wr (wn.setCell ⟨wd.heap.size, 1, none⟩ (.int .i64 (k : Int))) := hbn.setCell (by have := Hds.out; simp; omega) _
                  have hblke : (wn.setCell ⟨wd.heap.size, 1, none⟩ (.int .i64 (k : Int))).heap[wd.heap.size]? = some (.cells #[.int .i64 (bitsOf (o ++ [k]) : Nat), .int .i64 (k : Int)] 50 (0, 0)) := set2 hblk _
                  have hns : wn.heap.size = wd.heap.size + 1 := by rw [hwn]; simp
                  have Hns := Lib.hid hns
                  obtain ⟨i0, hi, hz0, hz1, hz2⟩ := info_parts Try.info3
                  have hown := own_below Hh2.out.2 (hbe.trans ((below_alloc1 _ (.cells #[.int .i64 (k : Int)] 3)).mono hbe.size))
                  have Hown := Lib.hid hown
                  have hbo := cell_of_one (hbe.block _ (lt_of_block Hh2.out.1) |>.trans Hh2.out.1)
                  have Hbe2 := Lib.hid hbe
                  have Hblk := Lib.hid hblke
                  have hol := Hf.out.length_le
                  have hpw := pow_room (k := k) (by omega) HN.out
                  have Hpw := Lib.hid hpw
                  have hob := Hx2.out.size
                  have Hob := Lib.hid hob
                  clear hwn hns hown hbe hblke hbn hblk hszd hs0d hs1d d1 d2 hbits hpw hob hx0
                  go_wp2_with (first | (at_builtin; go_must (refine wpList_append_own _ rfl (.tmp 83) (.tmp 85) 35 rfl p.ob 3 i0 (.int .i64 0) 1 8 Try.underlying35 hi hz0 hz1 hz2 rfl (by decide) ovr o.length (nats o) rfl Hown.out ⟨wn.heap.size, 0, none⟩ 1 1 [.int .i64 k] rfl rfl (cell_one_at _ _ _ _ (by simp)) (by intro u hu; simp at hu; subst hu; rfl) (by unfold maxLen; omega) (by omega) (by have := Hds.out; have := Hns.out; have := Hob.out; simp; omega) ?_); intro v' w2 hown2 hgrow2 hnil; clear hnil; obtain ⟨g2, cap2, rfl, hcap2⟩ := own_shape hown2; obtain ⟨t1, t2, t3, t4, t5, T6⟩ := tail_facts Hp.out Hx2.out Hh2.out Htr2.out Hbe2.out Hblk.out (by have := Hds.out; have := Hob.out; omega) hgrow2 hown2; unfold Par.caps at0 at t3; clear hown2 hgrow2))
                  have Hcall : Hid (Calls Try.prog 14 #[.agg #[.int .i64 (bitsOf (o ++ [k]) : Nat), .int .i64 k], .pointer (some ⟨p.be, 0, none⟩), .pointer (some ⟨p.bt, 0, none⟩), .pointer (some ⟨p.bf, 0, none⟩), .pointer (some ⟨p.bl, 0, none⟩), .pointer (some ⟨p.bb, 0, none⟩), .pointer (some ⟨p.bo, 0, none⟩), .pointer (some ⟨p.bd, 0, none⟩)] (w2.setCell ⟨p.bo, 0, none⟩ (.slice (some ⟨g2, 0, none⟩) (o.length + 1) cap2)) (FindPost p f (o ++ [k]) (w2.setCell ⟨p.bo, 0, none⟩ (.slice (some ⟨g2, 0, none⟩) (o.length + 1) cap2)) (N + 1 + k * 15 ^ f) (Under p o Q))) := by
                    have := ih.out (o ++ [k]) _ _ _ _ (by simp; omega) (Hf.out.snoc hlt C1.out) T6.out.1 T6.out.2.2.1 T6.out.2.2.2 Hpw.out (under_room Hf.out HQ.out)
                    rw [lw_yes C3.out] at this
                    exact this
                  clear t1 t2 t3 t4 t5
                  with_reducible refine Hcall.out.mono ?_
                  rintro e w4 ⟨hx4, hm4, ov4, ⟨r, hr, rfl, hh4⟩ | ⟨hr, rfl, hh4, ht4⟩⟩
                  · have Hfin := Lib.hid (post_found (N := N) (Q := Q) HE.out (below_alloc1 _ _) Hm2.out hlt Hno2.out Hnx.out T6.out.2.1 hm4 hx4 hr hh4)
                    clear hx4 hm4 hr hh4
                    go_wp2_with fail
                    go_ret
                    exact Hfin.out
                  · obtain ⟨g4, cap4, rfl, hcap4⟩ := own_shape (n := o.length) (by have := hh4.2; rwa [List.length_append, List.length_singleton] at this)
                    have hb4 := cell_of_one hh4.1
                    have hf4 := free_of_one hh4.1
                    have Hfin := Lib.hid (ri_kid Hp.out Hm2.out Hno2.out (T6.out.2.1.trans hm4) hx4 (by unfold dkid; rw [if_pos Hnx.out]; exact hr) ht4 (.of_set _ _) (holds_pop Hp.out hh4) (tried_set Hp.out))
                    clear hx4 hm4 hr hh4 ht4
                    go_wp2_with fail
                    go_roundw
                    case rel => exact ⟨k + 1, by omega, by go_num, Hfin.out⟩
                    case measure => simp [intOf]; omega
                · have c3' : (opAt p.l k).wr = false := by simpa using c3
                  have C3 := Lib.hid c3'
                  have hskip := Hskip.out
                  rw [c3'] at h0 hbb hBB hs0' hs1' hg1 hG1 hskip
                  have Hskip := Lib.hid hskip
                  clear c3 c3' hskip
                  by_cases c4 : ((opAt p.l k).val == xs) = true
                  · have hnx : Next p.l p.fst o k := next_of C1.out C2.out (.inr (by rw [← Hxs.out]; simpa using c4))
                    have Hnx := Lib.hid hnx
                    clear hnx
                    go_wp2_with fail
                    go_quiet ((go_at_call 15; exact Calls.quiet_of_same (equal_any _ _ _ _ _ _ _ hg1 hG1)))
                    obtain ⟨wd, hwd⟩ : ∃ wd, wd = (wr.alloc (.cells #[.bool false, .slice (some ⟨g, 0, none⟩) 1 1, .int .i64 (opAt p.l k).beg, .int .i64 (opAt p.l k).fin] 25)).drewN nq := ⟨_, rfl⟩
                    have hbd : Below wr.heap.size wr wd := by rw [hwd]; exact below_drewN (below_alloc1 _ _) nq
                    have hx0 : wd.cell? ⟨wr.heap.size, 0, none⟩ = some (.bool false) := by rw [hwd]; exact World.cell?_alloc_at _ _ _ _ rfl
                    have hds : wd.heap.size = wr.heap.size + 1 := by rw [hwd]; simp
                    have hszd : w.heap.size < wd.heap.size := by rw [hds]; omega
                    have hs0d := cell_later hbd hs0
                    have hs1d := cell_later hbd hs1
                    have Hbd := Lib.hid hbd
                    have Hds := Lib.hid hds
                    rw [← hwd]
                    have hbits := bits_more (o := o) (q := k) (n := 14) (fun i hi => by have := Hf.out.2 i hi; omega) (by omega) (by omega)
                    have hxd := cell_later (below_alloc1 wd (.cells #[.int .i64 (bitsOf (o ++ [k]) : Nat), .int .i64 L] 50)) hx0
                    have hxd : (wd.alloc (.cells #[.int .i64 (bitsOf (o ++ [k]) : Nat), .int .i64 L] 50)).drew.cell? ⟨wr.heap.size, 0, none⟩ = some (.bool false) := hxd
                    clear hwd hbd hds hs0' hs1' hbb hBB hg1 hG1 h1 h1' h2 h3 h0 hs0 hs1
                    go_wp2_with fail
                    go_region
                    obtain ⟨wn, hwn⟩ : ∃ wn, wn = (wd.alloc (.cells #[.int .i64 (bitsOf (o ++ [k]) : Nat), .int .i64 L] 50)).drew := ⟨_, rfl⟩
                    rw [← hwn] at hxd ⊢
                    have hbn : Below wr.heap.size wr wn := by rw [hwn]; exact Hbd.out.trans (((below_alloc1 _ _).drew).mono Hbd.out.size)
                    have hblk : wn.heap[wd.heap.size]? = some (.cells #[.int .i64 (bitsOf (o ++ [k]) : Nat), .int .i64 L] 50 (0, 0)) := by rw [hwn]; exact heap_new wd _
                    have hbe := hbn
                    have hblke := hblk
                    have hns : wn.heap.size = wd.heap.size + 1 := by rw [hwn]; simp
                    have Hns := Lib.hid hns
                    obtain ⟨i0, hi, hz0, hz1, hz2⟩ := info_parts Try.info3
                    have hown := own_below Hh2.out.2 (hbe.trans ((below_alloc1 _ (.cells #[.int .i64 (k : Int)] 3)).mono hbe.size))
                    have Hown := Lib.hid hown
                    have hbo := cell_of_one (hbe.block _ (lt_of_block Hh2.out.1) |>.trans Hh2.out.1)
                    have Hbe2 := Lib.hid hbe
                    have Hblk := Lib.hid hblke
                    have hol := Hf.out.length_le
                    have hpw := pow_room (k := k) (by omega) HN.out
                    have Hpw := Lib.hid hpw
                    have hob := Hx2.out.size
                    have Hob := Lib.hid hob
                    clear hwn hns hown hbe hblke hbn hblk hszd hs0d hs1d d1 d2 hbits hpw hob hx0
                    go_wp2_with (first | (at_builtin; go_must (refine wpList_append_own _ rfl (.tmp 83) (.tmp 85) 35 rfl p.ob 3 i0 (.int .i64 0) 1 8 Try.underlying35 hi hz0 hz1 hz2 rfl (by decide) ovr o.length (nats o) rfl Hown.out ⟨wn.heap.size, 0, none⟩ 1 1 [.int .i64 k] rfl rfl (cell_one_at _ _ _ _ (by simp)) (by intro u hu; simp at hu; subst hu; rfl) (by unfold maxLen; omega) (by omega) (by have := Hds.out; have := Hns.out; have := Hob.out; simp; omega) ?_); intro v' w2 hown2 hgrow2 hnil; clear hnil; obtain ⟨g2, cap2, rfl, hcap2⟩ := own_shape hown2; obtain ⟨t1, t2, t3, t4, t5, T6⟩ := tail_facts Hp.out Hx2.out Hh2.out Htr2.out Hbe2.out Hblk.out (by have := Hds.out; have := Hob.out; omega) hgrow2 hown2; unfold Par.caps at0 at t3; clear hown2 hgrow2))
                    have Hcall : Hid (Calls Try.prog 14 #[.agg #[.int .i64 (bitsOf (o ++ [k]) : Nat), .int .i64 L], .pointer (some ⟨p.be, 0, none⟩), .pointer (some ⟨p.bt, 0, none⟩), .pointer (some ⟨p.bf, 0, none⟩), .pointer (some ⟨p.bl, 0, none⟩), .pointer (some ⟨p.bb, 0, none⟩), .pointer (some ⟨p.bo, 0, none⟩), .pointer (some ⟨p.bd, 0, none⟩)] (w2.setCell ⟨p.bo, 0, none⟩ (.slice (some ⟨g2, 0, none⟩) (o.length + 1) cap2)) (FindPost p f (o ++ [k]) (w2.setCell ⟨p.bo, 0, none⟩ (.slice (some ⟨g2, 0, none⟩) (o.length + 1) cap2)) (N + 1 + k * 15 ^ f) (Under p o Q))) := by
                      have := ih.out (o ++ [k]) _ _ _ _ (by simp; omega) (Hf.out.snoc hlt C1.out) T6.out.1 T6.out.2.2.1 T6.out.2.2.2 Hpw.out (under_room Hf.out HQ.out)
                      rw [lw_no C3.out, ← HL.out] at this
                      exact this
                    clear t1 t2 t3 t4 t5
                    with_reducible refine Hcall.out.mono ?_
                    rintro e w4 ⟨hx4, hm4, ov4, ⟨r, hr, rfl, hh4⟩ | ⟨hr, rfl, hh4, ht4⟩⟩
                    · have Hfin := Lib.hid (post_found (N := N) (Q := Q) HE.out (below_alloc1 _ _) Hm2.out hlt Hno2.out Hnx.out T6.out.2.1 hm4 hx4 hr hh4)
                      clear hx4 hm4 hr hh4
                      go_wp2_with fail
                      go_ret
                      exact Hfin.out
                    · obtain ⟨g4, cap4, rfl, hcap4⟩ := own_shape (n := o.length) (by have := hh4.2; rwa [List.length_append, List.length_singleton] at this)
                      have hb4 := cell_of_one hh4.1
                      have hf4 := free_of_one hh4.1
                      have Hfin := Lib.hid (ri_kid Hp.out Hm2.out Hno2.out (T6.out.2.1.trans hm4) hx4 (by unfold dkid; rw [if_pos Hnx.out]; exact hr) ht4 (.of_set _ _) (holds_pop Hp.out hh4) (tried_set Hp.out))
                      clear hx4 hm4 hr hh4 ht4
                      go_wp2_with fail
                      go_roundw
                      case rel => exact ⟨k + 1, by omega, by go_num, Hfin.out⟩
                      case measure => simp [intOf]; omega
                  · have c4' : ((opAt p.l k).val == xs) = false := by simpa using c4
                    have C4 := Lib.hid c4'
                    clear c4
                    go_wp2_with fail
                    go_quiet ((go_at_call 15; exact Calls.quiet_of_same (equal_any _ _ _ _ _ _ _ hg1 hG1)))
                    go_wp2_with fail
                    go_roundw
                    case rel => exact ⟨k + 1, by omega, by go_num, Hskip.out (Hdm.out (fun h => by
                      rcases h.2.2 with h | h
                      · rw [C3.out] at h; cases h
                      · have := C4.out; rw [h, Hxs.out] at this; simp at this)) _⟩
                    case measure => simp [intOf]; omega
          · have hk' : k = p.l.length := by omega
            have hr2 := hr.out
            rw [hk'] at hr2
            have Hfin := Lib.hid (post_none Hp.out hlen Hf.out HE.out (below_alloc1 _ _) hr2)
            clear hk' hr2
            go_wp2_with fail
            go_ret
            exact Hfin.out

end Go.Proofs.Ytbegeijofpgliaa
