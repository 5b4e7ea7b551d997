/-
  The walks of the doings: Vector.
-/
import Derived.Test.YtbegeijofpgliabTagW
import Derived.Test.YtbegeijofpgliabVector
import Derived.Deep.RegionHeld3
namespace Go.Proofs.Ytbegeijofpgliab
open Go.RowKit Go.Maps
set_option linter.unusedVariables false

set_option maxRecDepth 100000 in
set_option maxHeartbeats 2000000 in
/-- Tags for two. -/
theorem vec7y {a : Act} (w0 w : World) (F : Four) (bx be bg bd k : Nat) (S : St) (A1 : Option Addr) (c1 : Nat) (A2 : Option Addr) (c2 n n2 : Nat) (sl : Value) (x : Note5) (th : Bool) (due : Value) (hfr : Fr 425 a [(0, sl), (5, .pointer (some ⟨F.b, 0, none⟩)), (6, .pointer (some ⟨F.t, 0, none⟩)), (7, .slice A2 S.L.length c2), (8, .int .i64 S.s), (9, .int .i64 S.l), (10, .map (some F.N)), (11, .func (.func 7) #[] #[]), (12, .int .i64 k), (13, .int .i64 k), (14, .pointer (some ⟨bx, 0, none⟩)), (15, .pointer (some ⟨be, 0, none⟩)), (16, .int .i64 ((x.q : Int) - 1)), (17, .bool th), (18, due), (19, .bool true), (20, .pointer (some ⟨bd, 0, none⟩)), (100, .int .u8 7)]) (hinv : Inv w0 F w A1 c1 S.L S.s S.l A2 c2 S.L n S.T k n2 S.T) (hloc : Loc F A1 A2 w bx be bg bd x k) (hok : S.Ok k) (hk : k < 40) (hn : n ≤ 2 * k) (hn2 : n2 ≤ 2 * k) (hop : x.op = 7) (hc : 1 ≤ x.f ∧ x.f ≤ 34 ∧ 1 ≤ x.t ∧ x.t ≤ 34 ∧ 1 ≤ x.r ∧ x.r ≤ 34)  :
    (part [1, 1, 1, 1, 1, 1, 1, 1, 0, 1] cB).wp Try.prog (Only (Sw w0 F sl k (S.step k x) bx be bg bd x)) a w := by
  have hst : S.step k x = { S with T := ins (ins S.T ⟨x.f, x.t, x.d⟩) ⟨x.f, x.r, x.d⟩ } := by simp [St.step, hop, Note5.names, named, hc.1, hc.2.1, hc.2.2.1, hc.2.2.2.1, hc.2.2.2.2.2]
  rw [hst]
  clear hst
  obtain ⟨t, rfl⟩ := hfr.lit
  change Code.wp _ _ _ ⟨#[sl, t 1, t 2, t 3, t 4, .pointer (some ⟨F.b, 0, none⟩), .pointer (some ⟨F.t, 0, none⟩), .slice A2 S.L.length c2, .int .i64 S.s, .int .i64 S.l, .map (some F.N), .func (.func 7) #[] #[], .int .i64 k, .int .i64 k, .pointer (some ⟨bx, 0, none⟩), .pointer (some ⟨be, 0, none⟩), .int .i64 ((x.q : Int) - 1), .bool th, due, .bool true, .pointer (some ⟨bd, 0, none⟩), t 21, t 22, t 23, t 24, t 25, t 26, t 27, t 28, t 29, t 30, t 31, t 32, t 33, t 34, t 35, t 36, t 37, t 38, t 39, t 40, t 41, t 42, t 43, t 44, t 45, t 46, t 47, t 48, t 49, t 50, t 51, t 52, t 53, t 54, t 55, t 56, t 57, t 58, t 59, t 60, t 61, t 62, t 63, t 64, t 65, t 66, t 67, t 68, t 69, t 70, t 71, t 72, t 73, t 74, t 75, t 76, t 77, t 78, t 79, t 80, t 81, t 82, t 83, t 84, t 85, t 86, t 87, t 88, t 89, t 90, t 91, t 92, t 93, t 94, t 95, t 96, t 97, t 98, t 99, .int .u8 7, t 101, t 102, t 103, t 104, t 105, t 106, t 107, t 108, t 109, t 110, t 111, t 112, t 113, t 114, t 115, t 116, t 117, t 118, t 119, t 120, t 121, t 122, t 123, t 124, t 125, t 126, t 127, t 128, t 129, t 130, t 131, t 132, t 133, t 134, t 135, t 136, t 137, t 138, t 139, t 140, t 141, t 142, t 143, t 144, t 145, t 146, t 147, t 148, t 149, t 150, t 151, t 152, t 153, t 154, t 155, t 156, t 157, t 158, t 159, t 160, t 161, t 162, t 163, t 164, t 165, t 166, t 167, t 168, t 169, t 170, t 171, t 172, t 173, t 174, t 175, t 176, t 177, t 178, t 179, t 180, t 181, t 182, t 183, t 184, t 185, t 186, t 187, t 188, t 189, t 190, t 191, t 192, t 193, t 194, t 195, t 196, t 197, t 198, t 199, t 200, t 201, t 202, t 203, t 204, t 205, t 206, t 207, t 208, t 209, t 210, t 211, t 212, t 213, t 214, t 215, t 216, t 217, t 218, t 219, t 220, t 221, t 222, t 223, t 224, t 225, t 226, t 227, t 228, t 229, t 230, t 231, t 232, t 233, t 234, t 235, t 236, t 237, t 238, t 239, t 240, t 241, t 242, t 243, t 244, t 245, t 246, t 247, t 248, t 249, t 250, t 251, t 252, t 253, t 254, t 255, t 256, t 257, t 258, t 259, t 260, t 261, t 262, t 263, t 264, t 265, t 266, t 267, t 268, t 269, t 270, t 271, t 272, t 273, t 274, t 275, t 276, t 277, t 278, t 279, t 280, t 281, t 282, t 283, t 284, t 285, t 286, t 287, t 288, t 289, t 290, t 291, t 292, t 293, t 294, t 295, t 296, t 297, t 298, t 299, t 300, t 301, t 302, t 303, t 304, t 305, t 306, t 307, t 308, t 309, t 310, t 311, t 312, t 313, t 314, t 315, t 316, t 317, t 318, t 319, t 320, t 321, t 322, t 323, t 324, t 325, t 326, t 327, t 328, t 329, t 330, t 331, t 332, t 333, t 334, t 335, t 336, t 337, t 338, t 339, t 340, t 341, t 342, t 343, t 344, t 345, t 346, t 347, t 348, t 349, t 350, t 351, t 352, t 353, t 354, t 355, t 356, t 357, t 358, t 359, t 360, t 361, t 362, t 363, t 364, t 365, t 366, t 367, t 368, t 369, t 370, t 371, t 372, t 373, t 374, t 375, t 376, t 377, t 378, t 379, t 380, t 381, t 382, t 383, t 384, t 385, t 386, t 387, t 388, t 389, t 390, t 391, t 392, t 393, t 394, t 395, t 396, t 397, t 398, t 399, t 400, t 401, t 402, t 403, t 404, t 405, t 406, t 407, t 408, t 409, t 410, t 411, t 412, t 413, t 414, t 415, t 416, t 417, t 418, t 419, t 420, t 421, t 422, t 423, t 424], []⟩ _
  have Hr : Hid (∀ a' w', Sw w0 F sl k ({ S with T := ins (ins S.T ⟨x.f, x.t, x.d⟩) ⟨x.f, x.r, x.d⟩ }) bx be bg bd x a' w' → Only (Sw w0 F sl k ({ S with T := ins (ins S.T ⟨x.f, x.t, x.d⟩) ⟨x.f, x.r, x.d⟩ }) bx be bg bd x) .normal a' w') := fun a' w' h => h
  have Hinv := Lib.hid hinv
  have Hloc := Lib.hid hloc
  have Hok := Lib.hid hok
  have Hop := Lib.hid hop
  have Hn := Lib.hid hn
  have Hn2 := Lib.hid hn2
  clear hfr hinv hloc hok hop hn hn2
  have zi := x.i.toNat_lt
  obtain ⟨e0, e1, -, -, -, -, x3, -⟩ := Hloc.out.cells
  have hbe : be < w.heap.size := Hloc.out.oe.lt
  have hbx : bx < w.heap.size := Hloc.out.ox.lt
  have hbd : bd < w.heap.size := Hloc.out.od.lt
  obtain ⟨wr, hwr⟩ : ∃ wr, wr = w.alloc (.cells #[.int .i64 (x.t : Int), .int .i64 (x.r : Int)] 3) := ⟨_, rfl⟩
  have hbr : Below w.heap.size w wr := by rw [hwr]; exact (Below.refl _ w).alloc (Nat.le_refl _) _
  have hrd : wr.heap[w.heap.size]? = some (.cells #[.int .i64 (x.t : Int), .int .i64 (x.r : Int)] 3 (0, 0)) := by rw [hwr]; exact heap_alloc_new w _
  have hwr' : w.alloc (.cells #[.int .i64 (x.t : Int), .int .i64 (1 + (x.i.toNat : Int) % 40)] 3) = wr := by rw [hwr]; rfl
  have hinvr := Hinv.out.later hbr
  have hlocr := Hloc.out.turn (turn_below hbr)
  have hor : Out F A1 A2 wr w.heap.size := Hinv.out.new (Nat.le_refl _) (Array.getElem?_eq_some_iff.1 hrd).1
  have hr0 := cell_of_row wr w.heap.size 0 _ _ _ hrd
  have hr1 := cell_of_row wr w.heap.size 1 _ _ _ hrd
  simp only [List.getElem?_toArray, List.getElem?_cons_zero, List.getElem?_cons_succ] at hr0 hr1
  obtain ⟨f0, f1, -, -, -, -, -, -⟩ := hlocr.cells
  have hdr := hlocr.cd
  have d0 := hdr.cells.1
  have Hwr := Lib.hid hwr'
  have hsz := size40 x.d
  have hTx : (⟨x.f, x.t, x.d⟩ : Tg).Ok := ⟨by have := x.f_lt; show x.f ≤ 40; omega, by have := x.t_lt; show x.t ≤ 40; omega, x.d_lt⟩
  have hTy : (⟨x.f, x.r, x.d⟩ : Tg).Ok := ⟨by have := x.f_lt; show x.f ≤ 40; omega, by have := x.r_lt; show x.r ≤ 40; omega, x.d_lt⟩
  obtain ⟨v1, st1, u1, u2, hm1, hs1, htg1, hg1, hg2⟩ := (hinvr.tags.other (w' := wr.drew) rfl).store hTx (by have := Hn2.out; omega)
  obtain ⟨v2, st2, u3, u4, hm2, hs2, htg2, hg3, hg4⟩ := htg1.store hTy (by have := Hn2.out; omega)
  have hinvd := hinvr.later ((Below.refl _ wr).drew)
  have hturnd : Turn F A1 A2 wr A1 A2 wr.drew := turn_below ((Below.refl _ wr).drew)
  obtain ⟨hinv2, hturn2⟩ := hinvd.tagT htg1 hg2
  obtain ⟨hinv4, hturn4⟩ := hinv2.tagT htg2 hg4
  have hloc4 := (hlocr.turn hturnd).turn (hturn2.trans hturn4)
  have hrd4 := ((hturnd.trans (hturn2.trans hturn4)) _ hor).1.trans hrd
  have hvec : Calls Try.prog 13 #[.pointer (some ⟨F.t, 0, none⟩), .int .i64 (x.f : Int), .slice (some ⟨w.heap.size, 0, none⟩) 2 2, .agg (digA x.d)] u4 fun e w' => e = .returned (.int .i64 0) ∧ Led w' F.t F.M (n + 2) (ins (ins S.T ⟨x.f, x.t, x.d⟩) ⟨x.f, x.r, x.d⟩) k ∧ KeptL F.t F.M u4 w' :=
    vector13_both hinv4.led ⟨x.f, x.t, x.d⟩ x.r hTx hTy (by have := Hn.out; omega) (by unfold named; simp; omega) (by unfold named; simp; omega) (by unfold named; simp; omega) w.heap.size hrd4
  have cS : ∀ w' : World, w'.heap[be]? = wr.heap[be]? → w'.heap[w.heap.size]? = wr.heap[w.heap.size]? → w'.heap[bd]? = wr.heap[bd]? → w'.cell? ⟨be, 0, none⟩ = some (.int .i64 (x.f : Int)) ∧ w'.cell? ⟨w.heap.size, 0, none⟩ = some (.int .i64 (x.t : Int)) ∧ w'.cell? ⟨w.heap.size, 1, none⟩ = some (.int .i64 (x.r : Int)) ∧ w'.cell? ⟨bd, 0, none⟩ = some (.int .u8 (x.d : Int)) := fun w' h1 h2 h3 =>
    ⟨(World.cell?_of_block (a := ⟨be, 0, none⟩) h1).trans f0, (World.cell?_of_block (a := ⟨w.heap.size, 0, none⟩) h2).trans hr0, (World.cell?_of_block (a := ⟨w.heap.size, 1, none⟩) h2).trans hr1, (World.cell?_of_block (a := ⟨bd, 0, none⟩) h3).trans d0⟩
  have k0 := cS wr rfl rfl rfl
  have oN : ∀ {b : Nat}, Out F A1 A2 wr b → u1.heap[b]? = wr.heap[b]? ∧ u2.heap[b]? = wr.heap[b]? ∧ u3.heap[b]? = wr.heap[b]? ∧ u4.heap[b]? = wr.heap[b]? := fun {b} ho => by
    have h1 : u1.heap[b]? = wr.heap[b]? := hg1.block b ho.lt (by simpa using ho.N)
    have h2 : u2.heap[b]? = wr.heap[b]? := hg2.block b ho.lt (by simpa using ho.N)
    have hl2 : b < u2.heap.size := Nat.lt_of_lt_of_le ho.lt hg2.size
    exact ⟨h1, h2, (hg3.block b hl2 (by simpa using ho.N)).trans h2, (hg4.block b hl2 (by simpa using ho.N)).trans h2⟩
  have oe := oN hlocr.oe
  have od := oN hlocr.od
  have og := oN hor
  have k1 := cS u1 oe.1 og.1 od.1
  have k2 := cS u2 oe.2.1 og.2.1 od.2.1
  have k3 := cS u3 oe.2.2.1 og.2.2.1 od.2.2.1
  have k4 := cS u4 oe.2.2.2 og.2.2.2 od.2.2.2
  have g0 := k4.1
  have Hd := Lib.hid hloc4.cd
  have Hvec := Lib.hid hvec
  have Hinv4 := Lib.hid hinv4
  have Hloc4 := Lib.hid hloc4
  have z0 : decide ((x.r : Int) ≤ 34) = true := by simp; omega
  have z0' : decide ((1 : Int) + (x.i.toNat : Int) % 40 ≤ 34) = true := by simp; have : x.r = 1 + x.i.toNat % 40 := rfl; omega
  have zd := x.d_lt
  clear hwr hbr hrd hinvr hlocr hor hdr hvec hinv4 hloc4 hinv2 hturn2 hturn4 hinvd hturnd hrd4 cS oN oe od og hg1 hg2 hg3 hg4 htg1 htg2 hTx hTy hc hwr'
  conv => arg 2; whnf
  go_wp2_with fail
  rw [Hwr.out]
  clear hr0 hr1 f0 f1 d0 e0 e1 x3
  have hwd : IntKind.i64.wrap (x.d : Int) = (x.d : Int) := by rw [IntKind.wrap_i64]; omega
  go_region_held3 (fun w' => w'.cell? ⟨be, 0, none⟩ = some (.int .i64 (x.f : Int)) ∧ w'.cell? ⟨w.heap.size, 0, none⟩ = some (.int .i64 (x.t : Int)) ∧ w'.cell? ⟨w.heap.size, 1, none⟩ = some (.int .i64 (x.r : Int)) ∧ w'.cell? ⟨bd, 0, none⟩ = some (.int .u8 (x.d : Int))) (first | exact k0 | exact k1 | exact k2 | exact k3 | exact k4) (fail)
  all_goals
    clear hm1 hs1 hm2 hs2 hwd k0 k1 k2 k3 k4
    go_wp2_with (refine wpList_load_row rfl 40 _ rfl bd rfl 40 _ _ _ Hd.out Try.underlying40 rfl hsz ?_)
    with_reducible refine Hvec.out.mono ?_
    rintro e w2 ⟨rfl, hl, hkp⟩
    obtain ⟨hinv5, hturn5⟩ := Hinv4.out.ledT hl hkp
    have Hinv5 := Lib.hid hinv5
    have Hloc5 := Lib.hid (Hloc4.out.turn hturn5)
    clear hl hkp hinv5 hturn5
    go_wp2_with fail
    exact Hr.out _ _ ⟨A1, c1, A2, c2, n + 2, n2 + 1 + 1, _, by have := Hn.out; omega, by have := Hn2.out; omega, rfl, (fr_cons rfl (fr_cons rfl (fr_cons rfl (fr_cons rfl (fr_cons rfl (fr_cons rfl (fr_cons rfl (fr_cons rfl (fr_cons rfl (fr_cons rfl (fr_cons rfl (fr_cons rfl (fr_cons rfl (fr_nil rfl)))))))))))))), Hinv5.out, Hloc5.out⟩

set_option maxRecDepth 100000 in
set_option maxHeartbeats 2000000 in
/-- No writer. -/
theorem vec7a {a : Act} (w0 w : World) (F : Four) (bx be bg bd k : Nat) (S : St) (A1 : Option Addr) (c1 : Nat) (A2 : Option Addr) (c2 n n2 : Nat) (sl : Value) (x : Note5) (th : Bool) (due : Value) (hfr : Fr 425 a [(0, sl), (5, .pointer (some ⟨F.b, 0, none⟩)), (6, .pointer (some ⟨F.t, 0, none⟩)), (7, .slice A2 S.L.length c2), (8, .int .i64 S.s), (9, .int .i64 S.l), (10, .map (some F.N)), (11, .func (.func 7) #[] #[]), (12, .int .i64 k), (13, .int .i64 k), (14, .pointer (some ⟨bx, 0, none⟩)), (15, .pointer (some ⟨be, 0, none⟩)), (16, .int .i64 ((x.q : Int) - 1)), (17, .bool th), (18, due), (19, .bool false), (20, .pointer (some ⟨bd, 0, none⟩)), (100, .int .u8 7)]) (hinv : Inv w0 F w A1 c1 S.L S.s S.l A2 c2 S.L n S.T k n2 S.T) (hloc : Loc F A1 A2 w bx be bg bd x k) (hok : S.Ok k) (hk : k < 40) (hn : n ≤ 2 * k) (hn2 : n2 ≤ 2 * k) (hop : x.op = 7) (hc : named x.f = false)  :
    (part [1, 1, 1, 1, 1, 1, 1, 1, 0, 1] cB).wp Try.prog (Only (Sw w0 F sl k (S.step k x) bx be bg bd x)) a w := by
  have hst : S.step k x = S := by simp [St.step, hop, Note5.names, hc]
  rw [hst]
  clear hst
  obtain ⟨t, rfl⟩ := hfr.lit
  change Code.wp _ _ _ ⟨#[sl, t 1, t 2, t 3, t 4, .pointer (some ⟨F.b, 0, none⟩), .pointer (some ⟨F.t, 0, none⟩), .slice A2 S.L.length c2, .int .i64 S.s, .int .i64 S.l, .map (some F.N), .func (.func 7) #[] #[], .int .i64 k, .int .i64 k, .pointer (some ⟨bx, 0, none⟩), .pointer (some ⟨be, 0, none⟩), .int .i64 ((x.q : Int) - 1), .bool th, due, .bool false, .pointer (some ⟨bd, 0, none⟩), t 21, t 22, t 23, t 24, t 25, t 26, t 27, t 28, t 29, t 30, t 31, t 32, t 33, t 34, t 35, t 36, t 37, t 38, t 39, t 40, t 41, t 42, t 43, t 44, t 45, t 46, t 47, t 48, t 49, t 50, t 51, t 52, t 53, t 54, t 55, t 56, t 57, t 58, t 59, t 60, t 61, t 62, t 63, t 64, t 65, t 66, t 67, t 68, t 69, t 70, t 71, t 72, t 73, t 74, t 75, t 76, t 77, t 78, t 79, t 80, t 81, t 82, t 83, t 84, t 85, t 86, t 87, t 88, t 89, t 90, t 91, t 92, t 93, t 94, t 95, t 96, t 97, t 98, t 99, .int .u8 7, t 101, t 102, t 103, t 104, t 105, t 106, t 107, t 108, t 109, t 110, t 111, t 112, t 113, t 114, t 115, t 116, t 117, t 118, t 119, t 120, t 121, t 122, t 123, t 124, t 125, t 126, t 127, t 128, t 129, t 130, t 131, t 132, t 133, t 134, t 135, t 136, t 137, t 138, t 139, t 140, t 141, t 142, t 143, t 144, t 145, t 146, t 147, t 148, t 149, t 150, t 151, t 152, t 153, t 154, t 155, t 156, t 157, t 158, t 159, t 160, t 161, t 162, t 163, t 164, t 165, t 166, t 167, t 168, t 169, t 170, t 171, t 172, t 173, t 174, t 175, t 176, t 177, t 178, t 179, t 180, t 181, t 182, t 183, t 184, t 185, t 186, t 187, t 188, t 189, t 190, t 191, t 192, t 193, t 194, t 195, t 196, t 197, t 198, t 199, t 200, t 201, t 202, t 203, t 204, t 205, t 206, t 207, t 208, t 209, t 210, t 211, t 212, t 213, t 214, t 215, t 216, t 217, t 218, t 219, t 220, t 221, t 222, t 223, t 224, t 225, t 226, t 227, t 228, t 229, t 230, t 231, t 232, t 233, t 234, t 235, t 236, t 237, t 238, t 239, t 240, t 241, t 242, t 243, t 244, t 245, t 246, t 247, t 248, t 249, t 250, t 251, t 252, t 253, t 254, t 255, t 256, t 257, t 258, t 259, t 260, t 261, t 262, t 263, t 264, t 265, t 266, t 267, t 268, t 269, t 270, t 271, t 272, t 273, t 274, t 275, t 276, t 277, t 278, t 279, t 280, t 281, t 282, t 283, t 284, t 285, t 286, t 287, t 288, t 289, t 290, t 291, t 292, t 293, t 294, t 295, t 296, t 297, t 298, t 299, t 300, t 301, t 302, t 303, t 304, t 305, t 306, t 307, t 308, t 309, t 310, t 311, t 312, t 313, t 314, t 315, t 316, t 317, t 318, t 319, t 320, t 321, t 322, t 323, t 324, t 325, t 326, t 327, t 328, t 329, t 330, t 331, t 332, t 333, t 334, t 335, t 336, t 337, t 338, t 339, t 340, t 341, t 342, t 343, t 344, t 345, t 346, t 347, t 348, t 349, t 350, t 351, t 352, t 353, t 354, t 355, t 356, t 357, t 358, t 359, t 360, t 361, t 362, t 363, t 364, t 365, t 366, t 367, t 368, t 369, t 370, t 371, t 372, t 373, t 374, t 375, t 376, t 377, t 378, t 379, t 380, t 381, t 382, t 383, t 384, t 385, t 386, t 387, t 388, t 389, t 390, t 391, t 392, t 393, t 394, t 395, t 396, t 397, t 398, t 399, t 400, t 401, t 402, t 403, t 404, t 405, t 406, t 407, t 408, t 409, t 410, t 411, t 412, t 413, t 414, t 415, t 416, t 417, t 418, t 419, t 420, t 421, t 422, t 423, t 424], []⟩ _
  have Hr : Hid (∀ a' w', Sw w0 F sl k (S) bx be bg bd x a' w' → Only (Sw w0 F sl k (S) bx be bg bd x) .normal a' w') := fun a' w' h => h
  have Hinv := Lib.hid hinv
  have Hloc := Lib.hid hloc
  have Hok := Lib.hid hok
  have Hop := Lib.hid hop
  have Hn := Lib.hid hn
  have Hn2 := Lib.hid hn2
  clear hfr hinv hloc hok hop hn hn2
  have zi := x.i.toNat_lt
  obtain ⟨e0, e1, -, -, -, -, x3, -⟩ := Hloc.out.cells
  have hbe : be < w.heap.size := Hloc.out.oe.lt
  have hbx : bx < w.heap.size := Hloc.out.ox.lt
  have hbd : bd < w.heap.size := Hloc.out.od.lt
  obtain ⟨wr, hwr⟩ : ∃ wr, wr = w.alloc (.cells #[.int .i64 (x.t : Int), .int .i64 (x.r : Int)] 3) := ⟨_, rfl⟩
  have hbr : Below w.heap.size w wr := by rw [hwr]; exact (Below.refl _ w).alloc (Nat.le_refl _) _
  have hrd : wr.heap[w.heap.size]? = some (.cells #[.int .i64 (x.t : Int), .int .i64 (x.r : Int)] 3 (0, 0)) := by rw [hwr]; exact heap_alloc_new w _
  have hwr' : w.alloc (.cells #[.int .i64 (x.t : Int), .int .i64 (1 + (x.i.toNat : Int) % 40)] 3) = wr := by rw [hwr]; rfl
  have hinvr := Hinv.out.later hbr
  have hlocr := Hloc.out.turn (turn_below hbr)
  have hor : Out F A1 A2 wr w.heap.size := Hinv.out.new (Nat.le_refl _) (Array.getElem?_eq_some_iff.1 hrd).1
  have hr0 := cell_of_row wr w.heap.size 0 _ _ _ hrd
  have hr1 := cell_of_row wr w.heap.size 1 _ _ _ hrd
  simp only [List.getElem?_toArray, List.getElem?_cons_zero, List.getElem?_cons_succ] at hr0 hr1
  obtain ⟨f0, f1, -, -, -, -, -, -⟩ := hlocr.cells
  have hdr := hlocr.cd
  have d0 := hdr.cells.1
  have Hwr := Lib.hid hwr'
  have hsz := size40 x.d
  have g0 := f0
  have hvec : Calls Try.prog 13 #[.pointer (some ⟨F.t, 0, none⟩), .int .i64 (x.f : Int), .slice (some ⟨w.heap.size, 0, none⟩) 2 2, .agg (digA x.d)] wr fun e w' => e = .returned (.int .i64 2) ∧ Below wr.heap.size wr w' := vector13_off hinvr.led ⟨x.f, x.t, x.d⟩ x.r hc w.heap.size hrd
  have hdw : DigAt (w.alloc (.cells #[.int .i64 (x.t : Int), .int .i64 (1 + (x.i.toNat : Int) % 40)] 3)) bd x.d := by rw [hwr']; exact hdr
  have Hd := Lib.hid hdw
  clear hdw
  have Hvec := Lib.hid hvec
  have Hinv4 := Lib.hid hinvr
  have Hloc4 := Lib.hid hlocr
  clear hwr hbr hrd hinvr hlocr hor hdr hvec hc
  clear hr0 f0 f1 d0
  clear hr1 hwr'
  conv => arg 2; whnf
  go_wp2_with (refine wpList_load_row rfl 40 _ rfl bd rfl 40 _ _ _ Hd.out Try.underlying40 rfl hsz ?_)
  rw [Hwr.out]
  with_reducible refine Hvec.out.mono ?_
  rintro e w2 ⟨rfl, hb⟩
  have Hinv5 := Lib.hid (Hinv4.out.later hb)
  have Hloc5 := Lib.hid (Hloc4.out.turn (turn_below hb))
  clear hb
  go_wp2_with fail
  exact Hr.out _ _ ⟨A1, c1, A2, c2, n, n2, _, by have := Hn.out; omega, by have := Hn2.out; omega, rfl, (fr_cons rfl (fr_cons rfl (fr_cons rfl (fr_cons rfl (fr_cons rfl (fr_cons rfl (fr_cons rfl (fr_cons rfl (fr_cons rfl (fr_cons rfl (fr_cons rfl (fr_cons rfl (fr_cons rfl (fr_nil rfl)))))))))))))), Hinv5.out, Hloc5.out⟩

set_option maxRecDepth 100000 in
set_option maxHeartbeats 2000000 in
/-- No reader. -/
theorem vec7b {a : Act} (w0 w : World) (F : Four) (bx be bg bd k : Nat) (S : St) (A1 : Option Addr) (c1 : Nat) (A2 : Option Addr) (c2 n n2 : Nat) (sl : Value) (x : Note5) (th : Bool) (due : Value) (hfr : Fr 425 a [(0, sl), (5, .pointer (some ⟨F.b, 0, none⟩)), (6, .pointer (some ⟨F.t, 0, none⟩)), (7, .slice A2 S.L.length c2), (8, .int .i64 S.s), (9, .int .i64 S.l), (10, .map (some F.N)), (11, .func (.func 7) #[] #[]), (12, .int .i64 k), (13, .int .i64 k), (14, .pointer (some ⟨bx, 0, none⟩)), (15, .pointer (some ⟨be, 0, none⟩)), (16, .int .i64 ((x.q : Int) - 1)), (17, .bool th), (18, due), (19, .bool false), (20, .pointer (some ⟨bd, 0, none⟩)), (100, .int .u8 7)]) (hinv : Inv w0 F w A1 c1 S.L S.s S.l A2 c2 S.L n S.T k n2 S.T) (hloc : Loc F A1 A2 w bx be bg bd x k) (hok : S.Ok k) (hk : k < 40) (hn : n ≤ 2 * k) (hn2 : n2 ≤ 2 * k) (hop : x.op = 7) (hc : named x.f = true ∧ named x.t = false)  :
    (part [1, 1, 1, 1, 1, 1, 1, 1, 0, 1] cB).wp Try.prog (Only (Sw w0 F sl k (S.step k x) bx be bg bd x)) a w := by
  have hst : S.step k x = S := by simp [St.step, hop, Note5.names, hc.2]
  rw [hst]
  clear hst
  obtain ⟨t, rfl⟩ := hfr.lit
  change Code.wp _ _ _ ⟨#[sl, t 1, t 2, t 3, t 4, .pointer (some ⟨F.b, 0, none⟩), .pointer (some ⟨F.t, 0, none⟩), .slice A2 S.L.length c2, .int .i64 S.s, .int .i64 S.l, .map (some F.N), .func (.func 7) #[] #[], .int .i64 k, .int .i64 k, .pointer (some ⟨bx, 0, none⟩), .pointer (some ⟨be, 0, none⟩), .int .i64 ((x.q : Int) - 1), .bool th, due, .bool false, .pointer (some ⟨bd, 0, none⟩), t 21, t 22, t 23, t 24, t 25, t 26, t 27, t 28, t 29, t 30, t 31, t 32, t 33, t 34, t 35, t 36, t 37, t 38, t 39, t 40, t 41, t 42, t 43, t 44, t 45, t 46, t 47, t 48, t 49, t 50, t 51, t 52, t 53, t 54, t 55, t 56, t 57, t 58, t 59, t 60, t 61, t 62, t 63, t 64, t 65, t 66, t 67, t 68, t 69, t 70, t 71, t 72, t 73, t 74, t 75, t 76, t 77, t 78, t 79, t 80, t 81, t 82, t 83, t 84, t 85, t 86, t 87, t 88, t 89, t 90, t 91, t 92, t 93, t 94, t 95, t 96, t 97, t 98, t 99, .int .u8 7, t 101, t 102, t 103, t 104, t 105, t 106, t 107, t 108, t 109, t 110, t 111, t 112, t 113, t 114, t 115, t 116, t 117, t 118, t 119, t 120, t 121, t 122, t 123, t 124, t 125, t 126, t 127, t 128, t 129, t 130, t 131, t 132, t 133, t 134, t 135, t 136, t 137, t 138, t 139, t 140, t 141, t 142, t 143, t 144, t 145, t 146, t 147, t 148, t 149, t 150, t 151, t 152, t 153, t 154, t 155, t 156, t 157, t 158, t 159, t 160, t 161, t 162, t 163, t 164, t 165, t 166, t 167, t 168, t 169, t 170, t 171, t 172, t 173, t 174, t 175, t 176, t 177, t 178, t 179, t 180, t 181, t 182, t 183, t 184, t 185, t 186, t 187, t 188, t 189, t 190, t 191, t 192, t 193, t 194, t 195, t 196, t 197, t 198, t 199, t 200, t 201, t 202, t 203, t 204, t 205, t 206, t 207, t 208, t 209, t 210, t 211, t 212, t 213, t 214, t 215, t 216, t 217, t 218, t 219, t 220, t 221, t 222, t 223, t 224, t 225, t 226, t 227, t 228, t 229, t 230, t 231, t 232, t 233, t 234, t 235, t 236, t 237, t 238, t 239, t 240, t 241, t 242, t 243, t 244, t 245, t 246, t 247, t 248, t 249, t 250, t 251, t 252, t 253, t 254, t 255, t 256, t 257, t 258, t 259, t 260, t 261, t 262, t 263, t 264, t 265, t 266, t 267, t 268, t 269, t 270, t 271, t 272, t 273, t 274, t 275, t 276, t 277, t 278, t 279, t 280, t 281, t 282, t 283, t 284, t 285, t 286, t 287, t 288, t 289, t 290, t 291, t 292, t 293, t 294, t 295, t 296, t 297, t 298, t 299, t 300, t 301, t 302, t 303, t 304, t 305, t 306, t 307, t 308, t 309, t 310, t 311, t 312, t 313, t 314, t 315, t 316, t 317, t 318, t 319, t 320, t 321, t 322, t 323, t 324, t 325, t 326, t 327, t 328, t 329, t 330, t 331, t 332, t 333, t 334, t 335, t 336, t 337, t 338, t 339, t 340, t 341, t 342, t 343, t 344, t 345, t 346, t 347, t 348, t 349, t 350, t 351, t 352, t 353, t 354, t 355, t 356, t 357, t 358, t 359, t 360, t 361, t 362, t 363, t 364, t 365, t 366, t 367, t 368, t 369, t 370, t 371, t 372, t 373, t 374, t 375, t 376, t 377, t 378, t 379, t 380, t 381, t 382, t 383, t 384, t 385, t 386, t 387, t 388, t 389, t 390, t 391, t 392, t 393, t 394, t 395, t 396, t 397, t 398, t 399, t 400, t 401, t 402, t 403, t 404, t 405, t 406, t 407, t 408, t 409, t 410, t 411, t 412, t 413, t 414, t 415, t 416, t 417, t 418, t 419, t 420, t 421, t 422, t 423, t 424], []⟩ _
  have Hr : Hid (∀ a' w', Sw w0 F sl k (S) bx be bg bd x a' w' → Only (Sw w0 F sl k (S) bx be bg bd x) .normal a' w') := fun a' w' h => h
  have Hinv := Lib.hid hinv
  have Hloc := Lib.hid hloc
  have Hok := Lib.hid hok
  have Hop := Lib.hid hop
  have Hn := Lib.hid hn
  have Hn2 := Lib.hid hn2
  clear hfr hinv hloc hok hop hn hn2
  have zi := x.i.toNat_lt
  obtain ⟨e0, e1, -, -, -, -, x3, -⟩ := Hloc.out.cells
  have hbe : be < w.heap.size := Hloc.out.oe.lt
  have hbx : bx < w.heap.size := Hloc.out.ox.lt
  have hbd : bd < w.heap.size := Hloc.out.od.lt
  obtain ⟨wr, hwr⟩ : ∃ wr, wr = w.alloc (.cells #[.int .i64 (x.t : Int), .int .i64 (x.r : Int)] 3) := ⟨_, rfl⟩
  have hbr : Below w.heap.size w wr := by rw [hwr]; exact (Below.refl _ w).alloc (Nat.le_refl _) _
  have hrd : wr.heap[w.heap.size]? = some (.cells #[.int .i64 (x.t : Int), .int .i64 (x.r : Int)] 3 (0, 0)) := by rw [hwr]; exact heap_alloc_new w _
  have hwr' : w.alloc (.cells #[.int .i64 (x.t : Int), .int .i64 (1 + (x.i.toNat : Int) % 40)] 3) = wr := by rw [hwr]; rfl
  have hinvr := Hinv.out.later hbr
  have hlocr := Hloc.out.turn (turn_below hbr)
  have hor : Out F A1 A2 wr w.heap.size := Hinv.out.new (Nat.le_refl _) (Array.getElem?_eq_some_iff.1 hrd).1
  have hr0 := cell_of_row wr w.heap.size 0 _ _ _ hrd
  have hr1 := cell_of_row wr w.heap.size 1 _ _ _ hrd
  simp only [List.getElem?_toArray, List.getElem?_cons_zero, List.getElem?_cons_succ] at hr0 hr1
  obtain ⟨f0, f1, -, -, -, -, -, -⟩ := hlocr.cells
  have hdr := hlocr.cd
  have d0 := hdr.cells.1
  have Hwr := Lib.hid hwr'
  have hsz := size40 x.d
  have g0 := f0
  have hvec : Calls Try.prog 13 #[.pointer (some ⟨F.t, 0, none⟩), .int .i64 (x.f : Int), .slice (some ⟨w.heap.size, 0, none⟩) 2 2, .agg (digA x.d)] wr fun e w' => e = .returned (.int .i64 2) ∧ Below wr.heap.size wr w' := vector13_far hinvr.led ⟨x.f, x.t, x.d⟩ x.r hc.1 hc.2 w.heap.size hrd
  have hdw : DigAt (w.alloc (.cells #[.int .i64 (x.t : Int), .int .i64 (1 + (x.i.toNat : Int) % 40)] 3)) bd x.d := by rw [hwr']; exact hdr
  have Hd := Lib.hid hdw
  clear hdw
  have Hvec := Lib.hid hvec
  have Hinv4 := Lib.hid hinvr
  have Hloc4 := Lib.hid hlocr
  clear hwr hbr hrd hinvr hlocr hor hdr hvec hc
  clear hr0 f0 f1 d0
  clear hr1 hwr'
  conv => arg 2; whnf
  go_wp2_with (refine wpList_load_row rfl 40 _ rfl bd rfl 40 _ _ _ Hd.out Try.underlying40 rfl hsz ?_)
  rw [Hwr.out]
  with_reducible refine Hvec.out.mono ?_
  rintro e w2 ⟨rfl, hb⟩
  have Hinv5 := Lib.hid (Hinv4.out.later hb)
  have Hloc5 := Lib.hid (Hloc4.out.turn (turn_below hb))
  clear hb
  go_wp2_with fail
  exact Hr.out _ _ ⟨A1, c1, A2, c2, n, n2, _, by have := Hn.out; omega, by have := Hn2.out; omega, rfl, (fr_cons rfl (fr_cons rfl (fr_cons rfl (fr_cons rfl (fr_cons rfl (fr_cons rfl (fr_cons rfl (fr_cons rfl (fr_cons rfl (fr_cons rfl (fr_cons rfl (fr_cons rfl (fr_cons rfl (fr_nil rfl)))))))))))))), Hinv5.out, Hloc5.out⟩

set_option maxRecDepth 100000 in
set_option maxHeartbeats 2000000 in
/-- No second reader. -/
theorem vec7c {a : Act} (w0 w : World) (F : Four) (bx be bg bd k : Nat) (S : St) (A1 : Option Addr) (c1 : Nat) (A2 : Option Addr) (c2 n n2 : Nat) (sl : Value) (x : Note5) (th : Bool) (due : Value) (hfr : Fr 425 a [(0, sl), (5, .pointer (some ⟨F.b, 0, none⟩)), (6, .pointer (some ⟨F.t, 0, none⟩)), (7, .slice A2 S.L.length c2), (8, .int .i64 S.s), (9, .int .i64 S.l), (10, .map (some F.N)), (11, .func (.func 7) #[] #[]), (12, .int .i64 k), (13, .int .i64 k), (14, .pointer (some ⟨bx, 0, none⟩)), (15, .pointer (some ⟨be, 0, none⟩)), (16, .int .i64 ((x.q : Int) - 1)), (17, .bool th), (18, due), (19, .bool true), (20, .pointer (some ⟨bd, 0, none⟩)), (100, .int .u8 7)]) (hinv : Inv w0 F w A1 c1 S.L S.s S.l A2 c2 S.L n S.T k n2 S.T) (hloc : Loc F A1 A2 w bx be bg bd x k) (hok : S.Ok k) (hk : k < 40) (hn : n ≤ 2 * k) (hn2 : n2 ≤ 2 * k) (hop : x.op = 7) (hc : named x.f = true ∧ named x.t = true ∧ 34 < x.r)  :
    (part [1, 1, 1, 1, 1, 1, 1, 1, 0, 1] cB).wp Try.prog (Only (Sw w0 F sl k (S.step k x) bx be bg bd x)) a w := by
  have hst : S.step k x = S := by simp [St.step, hop, Nat.not_le.2 hc.2.2]
  rw [hst]
  clear hst
  obtain ⟨t, rfl⟩ := hfr.lit
  change Code.wp _ _ _ ⟨#[sl, t 1, t 2, t 3, t 4, .pointer (some ⟨F.b, 0, none⟩), .pointer (some ⟨F.t, 0, none⟩), .slice A2 S.L.length c2, .int .i64 S.s, .int .i64 S.l, .map (some F.N), .func (.func 7) #[] #[], .int .i64 k, .int .i64 k, .pointer (some ⟨bx, 0, none⟩), .pointer (some ⟨be, 0, none⟩), .int .i64 ((x.q : Int) - 1), .bool th, due, .bool true, .pointer (some ⟨bd, 0, none⟩), t 21, t 22, t 23, t 24, t 25, t 26, t 27, t 28, t 29, t 30, t 31, t 32, t 33, t 34, t 35, t 36, t 37, t 38, t 39, t 40, t 41, t 42, t 43, t 44, t 45, t 46, t 47, t 48, t 49, t 50, t 51, t 52, t 53, t 54, t 55, t 56, t 57, t 58, t 59, t 60, t 61, t 62, t 63, t 64, t 65, t 66, t 67, t 68, t 69, t 70, t 71, t 72, t 73, t 74, t 75, t 76, t 77, t 78, t 79, t 80, t 81, t 82, t 83, t 84, t 85, t 86, t 87, t 88, t 89, t 90, t 91, t 92, t 93, t 94, t 95, t 96, t 97, t 98, t 99, .int .u8 7, t 101, t 102, t 103, t 104, t 105, t 106, t 107, t 108, t 109, t 110, t 111, t 112, t 113, t 114, t 115, t 116, t 117, t 118, t 119, t 120, t 121, t 122, t 123, t 124, t 125, t 126, t 127, t 128, t 129, t 130, t 131, t 132, t 133, t 134, t 135, t 136, t 137, t 138, t 139, t 140, t 141, t 142, t 143, t 144, t 145, t 146, t 147, t 148, t 149, t 150, t 151, t 152, t 153, t 154, t 155, t 156, t 157, t 158, t 159, t 160, t 161, t 162, t 163, t 164, t 165, t 166, t 167, t 168, t 169, t 170, t 171, t 172, t 173, t 174, t 175, t 176, t 177, t 178, t 179, t 180, t 181, t 182, t 183, t 184, t 185, t 186, t 187, t 188, t 189, t 190, t 191, t 192, t 193, t 194, t 195, t 196, t 197, t 198, t 199, t 200, t 201, t 202, t 203, t 204, t 205, t 206, t 207, t 208, t 209, t 210, t 211, t 212, t 213, t 214, t 215, t 216, t 217, t 218, t 219, t 220, t 221, t 222, t 223, t 224, t 225, t 226, t 227, t 228, t 229, t 230, t 231, t 232, t 233, t 234, t 235, t 236, t 237, t 238, t 239, t 240, t 241, t 242, t 243, t 244, t 245, t 246, t 247, t 248, t 249, t 250, t 251, t 252, t 253, t 254, t 255, t 256, t 257, t 258, t 259, t 260, t 261, t 262, t 263, t 264, t 265, t 266, t 267, t 268, t 269, t 270, t 271, t 272, t 273, t 274, t 275, t 276, t 277, t 278, t 279, t 280, t 281, t 282, t 283, t 284, t 285, t 286, t 287, t 288, t 289, t 290, t 291, t 292, t 293, t 294, t 295, t 296, t 297, t 298, t 299, t 300, t 301, t 302, t 303, t 304, t 305, t 306, t 307, t 308, t 309, t 310, t 311, t 312, t 313, t 314, t 315, t 316, t 317, t 318, t 319, t 320, t 321, t 322, t 323, t 324, t 325, t 326, t 327, t 328, t 329, t 330, t 331, t 332, t 333, t 334, t 335, t 336, t 337, t 338, t 339, t 340, t 341, t 342, t 343, t 344, t 345, t 346, t 347, t 348, t 349, t 350, t 351, t 352, t 353, t 354, t 355, t 356, t 357, t 358, t 359, t 360, t 361, t 362, t 363, t 364, t 365, t 366, t 367, t 368, t 369, t 370, t 371, t 372, t 373, t 374, t 375, t 376, t 377, t 378, t 379, t 380, t 381, t 382, t 383, t 384, t 385, t 386, t 387, t 388, t 389, t 390, t 391, t 392, t 393, t 394, t 395, t 396, t 397, t 398, t 399, t 400, t 401, t 402, t 403, t 404, t 405, t 406, t 407, t 408, t 409, t 410, t 411, t 412, t 413, t 414, t 415, t 416, t 417, t 418, t 419, t 420, t 421, t 422, t 423, t 424], []⟩ _
  have Hr : Hid (∀ a' w', Sw w0 F sl k (S) bx be bg bd x a' w' → Only (Sw w0 F sl k (S) bx be bg bd x) .normal a' w') := fun a' w' h => h
  have Hinv := Lib.hid hinv
  have Hloc := Lib.hid hloc
  have Hok := Lib.hid hok
  have Hop := Lib.hid hop
  have Hn := Lib.hid hn
  have Hn2 := Lib.hid hn2
  clear hfr hinv hloc hok hop hn hn2
  have zi := x.i.toNat_lt
  obtain ⟨e0, e1, -, -, -, -, x3, -⟩ := Hloc.out.cells
  have hbe : be < w.heap.size := Hloc.out.oe.lt
  have hbx : bx < w.heap.size := Hloc.out.ox.lt
  have hbd : bd < w.heap.size := Hloc.out.od.lt
  obtain ⟨wr, hwr⟩ : ∃ wr, wr = w.alloc (.cells #[.int .i64 (x.t : Int), .int .i64 (x.r : Int)] 3) := ⟨_, rfl⟩
  have hbr : Below w.heap.size w wr := by rw [hwr]; exact (Below.refl _ w).alloc (Nat.le_refl _) _
  have hrd : wr.heap[w.heap.size]? = some (.cells #[.int .i64 (x.t : Int), .int .i64 (x.r : Int)] 3 (0, 0)) := by rw [hwr]; exact heap_alloc_new w _
  have hwr' : w.alloc (.cells #[.int .i64 (x.t : Int), .int .i64 (1 + (x.i.toNat : Int) % 40)] 3) = wr := by rw [hwr]; rfl
  have hinvr := Hinv.out.later hbr
  have hlocr := Hloc.out.turn (turn_below hbr)
  have hor : Out F A1 A2 wr w.heap.size := Hinv.out.new (Nat.le_refl _) (Array.getElem?_eq_some_iff.1 hrd).1
  have hr0 := cell_of_row wr w.heap.size 0 _ _ _ hrd
  have hr1 := cell_of_row wr w.heap.size 1 _ _ _ hrd
  simp only [List.getElem?_toArray, List.getElem?_cons_zero, List.getElem?_cons_succ] at hr0 hr1
  obtain ⟨f0, f1, -, -, -, -, -, -⟩ := hlocr.cells
  have hdr := hlocr.cd
  have d0 := hdr.cells.1
  have Hwr := Lib.hid hwr'
  have hsz := size40 x.d
  have g0 := f0
  have hvec : Calls Try.prog 13 #[.pointer (some ⟨F.t, 0, none⟩), .int .i64 (x.f : Int), .slice (some ⟨w.heap.size, 0, none⟩) 2 2, .agg (digA x.d)] wr fun e w' => e = .returned (.int .i64 2) ∧ Below wr.heap.size wr w' := vector13_last hinvr.led ⟨x.f, x.t, x.d⟩ x.r hc.1 hc.2.1 (by have := hc.2.2; unfold named; simp; omega) w.heap.size hrd
  have hdw : DigAt (w.alloc (.cells #[.int .i64 (x.t : Int), .int .i64 (1 + (x.i.toNat : Int) % 40)] 3)) bd x.d := by rw [hwr']; exact hdr
  have Hd := Lib.hid hdw
  clear hdw
  have Hvec := Lib.hid hvec
  have Hinv4 := Lib.hid hinvr
  have Hloc4 := Lib.hid hlocr
  have z0 : decide ((x.r : Int) ≤ 34) = false := by simp; omega
  have z0' : decide ((1 : Int) + (x.i.toNat : Int) % 40 ≤ 34) = false := by simp; have : x.r = 1 + x.i.toNat % 40 := rfl; omega
  clear hwr hbr hrd hinvr hlocr hor hdr hvec hc
  clear hr0 f0 f1 d0
  clear hr1 hwr'
  conv => arg 2; whnf
  go_wp2_with (refine wpList_load_row rfl 40 _ rfl bd rfl 40 _ _ _ Hd.out Try.underlying40 rfl hsz ?_)
  rw [Hwr.out]
  with_reducible refine Hvec.out.mono ?_
  rintro e w2 ⟨rfl, hb⟩
  have Hinv5 := Lib.hid (Hinv4.out.later hb)
  have Hloc5 := Lib.hid (Hloc4.out.turn (turn_below hb))
  clear hb
  go_wp2_with fail
  exact Hr.out _ _ ⟨A1, c1, A2, c2, n, n2, _, by have := Hn.out; omega, by have := Hn2.out; omega, rfl, (fr_cons rfl (fr_cons rfl (fr_cons rfl (fr_cons rfl (fr_cons rfl (fr_cons rfl (fr_cons rfl (fr_cons rfl (fr_cons rfl (fr_cons rfl (fr_cons rfl (fr_cons rfl (fr_cons rfl (fr_nil rfl)))))))))))))), Hinv5.out, Hloc5.out⟩

end Go.Proofs.Ytbegeijofpgliab
