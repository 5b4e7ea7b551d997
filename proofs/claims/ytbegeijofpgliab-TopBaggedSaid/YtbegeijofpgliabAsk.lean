/-
  What a round asks of the ledger.
-/
import Derived.Test.YtbegeijofpgliabSwitch
import Derived.Deep.RegionHeld3
namespace Go.Proofs.Ytbegeijofpgliab
open Go.RowKit Go.Maps

set_option maxRecDepth 100000 in
set_option maxHeartbeats 4000000 in
/-- The ledger is asked. -/
theorem tail1y {a : Act} (w0 w : World) (F : Four) (bx be bg bd k : Nat) (S : St) (A1 : Option Addr) (c1 : Nat) (A2 : Option Addr) (c2 n n2 m : Nat) (sl : Value) (x : Note5) (hfr : Fr 425 a [(0, sl), (5, .pointer (some ⟨F.b, 0, none⟩)), (6, .pointer (some ⟨F.t, 0, none⟩)), (7, .slice A2 m c2), (8, .int .i64 S.s), (9, .int .i64 S.l), (10, .map (some F.N)), (11, .func (.func 7) #[] #[]), (12, .int .i64 ((k + 1 : Nat) : Int)), (13, .int .i64 k), (14, .pointer (some ⟨bx, 0, none⟩)), (15, .pointer (some ⟨be, 0, none⟩)), (20, .pointer (some ⟨bd, 0, none⟩))])
    (hinv : Inv w0 F w A1 c1 S.L S.s S.l A2 c2 S.L n S.T k n2 S.T) (hloc : Loc F A1 A2 w bx be bg bd x k) (hk : k < 40) (b2 : Bool) (h1 : decide ((⟨x.f, x.t, x.d⟩ : Tg) ∈ S.T) = true) (hb2 : decide ((⟨x.f, 0, x.d⟩ : Tg) ∈ S.T) = b2)  :
    (part [1, 1, 1, 1, 1, 1, 1, 1, 1, 1, 0] cB).wp Try.prog (Only fun a' w' => Fr 425 a' [(0, sl), (5, .pointer (some ⟨F.b, 0, none⟩)), (6, .pointer (some ⟨F.t, 0, none⟩)), (7, .slice A2 m c2), (8, .int .i64 S.s), (9, .int .i64 S.l), (10, .map (some F.N)), (11, .func (.func 7) #[] #[]), (12, .int .i64 ((k + 1 : Nat) : Int)), (13, .int .i64 k), (14, .pointer (some ⟨bx, 0, none⟩))] ∧ Inv w0 F w' A1 c1 S.L S.s S.l A2 c2 S.L n S.T (k + 1) n2 S.T ∧ Loc F A1 A2 w' bx be bg bd x k) a w := by
  obtain ⟨t, rfl⟩ := hfr.lit
  change Code.wp _ _ _ ⟨#[sl, t 1, t 2, t 3, t 4, .pointer (some ⟨F.b, 0, none⟩), .pointer (some ⟨F.t, 0, none⟩), .slice A2 m c2, .int .i64 S.s, .int .i64 S.l, .map (some F.N), .func (.func 7) #[] #[], .int .i64 ((k + 1 : Nat) : Int), .int .i64 k, .pointer (some ⟨bx, 0, none⟩), .pointer (some ⟨be, 0, none⟩), t 16, t 17, t 18, t 19, .pointer (some ⟨bd, 0, none⟩), t 21, t 22, t 23, t 24, t 25, t 26, t 27, t 28, t 29, t 30, t 31, t 32, t 33, t 34, t 35, t 36, t 37, t 38, t 39, t 40, t 41, t 42, t 43, t 44, t 45, t 46, t 47, t 48, t 49, t 50, t 51, t 52, t 53, t 54, t 55, t 56, t 57, t 58, t 59, t 60, t 61, t 62, t 63, t 64, t 65, t 66, t 67, t 68, t 69, t 70, t 71, t 72, t 73, t 74, t 75, t 76, t 77, t 78, t 79, t 80, t 81, t 82, t 83, t 84, t 85, t 86, t 87, t 88, t 89, t 90, t 91, t 92, t 93, t 94, t 95, t 96, t 97, t 98, t 99, t 100, t 101, t 102, t 103, t 104, t 105, t 106, t 107, t 108, t 109, t 110, t 111, t 112, t 113, t 114, t 115, t 116, t 117, t 118, t 119, t 120, t 121, t 122, t 123, t 124, t 125, t 126, t 127, t 128, t 129, t 130, t 131, t 132, t 133, t 134, t 135, t 136, t 137, t 138, t 139, t 140, t 141, t 142, t 143, t 144, t 145, t 146, t 147, t 148, t 149, t 150, t 151, t 152, t 153, t 154, t 155, t 156, t 157, t 158, t 159, t 160, t 161, t 162, t 163, t 164, t 165, t 166, t 167, t 168, t 169, t 170, t 171, t 172, t 173, t 174, t 175, t 176, t 177, t 178, t 179, t 180, t 181, t 182, t 183, t 184, t 185, t 186, t 187, t 188, t 189, t 190, t 191, t 192, t 193, t 194, t 195, t 196, t 197, t 198, t 199, t 200, t 201, t 202, t 203, t 204, t 205, t 206, t 207, t 208, t 209, t 210, t 211, t 212, t 213, t 214, t 215, t 216, t 217, t 218, t 219, t 220, t 221, t 222, t 223, t 224, t 225, t 226, t 227, t 228, t 229, t 230, t 231, t 232, t 233, t 234, t 235, t 236, t 237, t 238, t 239, t 240, t 241, t 242, t 243, t 244, t 245, t 246, t 247, t 248, t 249, t 250, t 251, t 252, t 253, t 254, t 255, t 256, t 257, t 258, t 259, t 260, t 261, t 262, t 263, t 264, t 265, t 266, t 267, t 268, t 269, t 270, t 271, t 272, t 273, t 274, t 275, t 276, t 277, t 278, t 279, t 280, t 281, t 282, t 283, t 284, t 285, t 286, t 287, t 288, t 289, t 290, t 291, t 292, t 293, t 294, t 295, t 296, t 297, t 298, t 299, t 300, t 301, t 302, t 303, t 304, t 305, t 306, t 307, t 308, t 309, t 310, t 311, t 312, t 313, t 314, t 315, t 316, t 317, t 318, t 319, t 320, t 321, t 322, t 323, t 324, t 325, t 326, t 327, t 328, t 329, t 330, t 331, t 332, t 333, t 334, t 335, t 336, t 337, t 338, t 339, t 340, t 341, t 342, t 343, t 344, t 345, t 346, t 347, t 348, t 349, t 350, t 351, t 352, t 353, t 354, t 355, t 356, t 357, t 358, t 359, t 360, t 361, t 362, t 363, t 364, t 365, t 366, t 367, t 368, t 369, t 370, t 371, t 372, t 373, t 374, t 375, t 376, t 377, t 378, t 379, t 380, t 381, t 382, t 383, t 384, t 385, t 386, t 387, t 388, t 389, t 390, t 391, t 392, t 393, t 394, t 395, t 396, t 397, t 398, t 399, t 400, t 401, t 402, t 403, t 404, t 405, t 406, t 407, t 408, t 409, t 410, t 411, t 412, t 413, t 414, t 415, t 416, t 417, t 418, t 419, t 420, t 421, t 422, t 423, t 424], []⟩ _
  clear hfr
  have hTx : (⟨x.f, x.t, x.d⟩ : Tg).Ok := ⟨by have := x.f_lt; show x.f ≤ 40; omega, by have := x.t_lt; show x.t ≤ 40; omega, x.d_lt⟩
  have hTy : (⟨x.f, 0, x.d⟩ : Tg).Ok := ⟨by have := x.f_lt; show x.f ≤ 40; omega, by show 0 ≤ 40; omega, x.d_lt⟩
  obtain ⟨cs, hcs⟩ : ∃ cs, cs = dig x.d := ⟨_, rfl⟩
  have hu := Try.underlying40
  have hi : (Try.prog.info? 40).map (fun i => i.size) = some cs.length := by rw [Try.size40, hcs]; rfl
  have hcl : cs.length = 32 := by rw [hcs]; rfl
  have hck : Calls Try.prog 14 #[.pointer (some ⟨F.t, 0, none⟩), .int .i64 (x.f : Int), .int .i64 (x.t : Int), .agg cs.toArray] w.drew fun e w' => e = .returned (.bool true) ∧ Led w' F.t F.M n S.T (k + 1) ∧ KeptL F.t F.M w.drew w' := by
    rw [hcs]
    refine (check14 (hinv.led.other (w' := w.drew) fun _ _ => rfl) ⟨x.f, x.t, x.d⟩ hTx (by omega)).mono ?_
    rintro e w' ⟨rfl, r1, r2⟩
    exact ⟨ret_b (by rw [h1]; rfl), r1, r2⟩
  have mk : ∀ w' : World, Inv w0 F w' A1 c1 S.L S.s S.l A2 c2 S.L n S.T (k + 1) n2 S.T ∨ Inv w0 F w' A1 c1 S.L S.s S.l A2 c2 S.L n S.T k n2 S.T → Loc F A1 A2 w' bx be bg bd x k → w'.cell? ⟨be, 0, none⟩ = some (.int .i64 (x.f : Int)) ∧ w'.cell? ⟨be, 1, none⟩ = some (.int .i64 (x.t : Int)) ∧ w'.cell? ⟨bd, 0, none⟩ = some (.int .u8 (x.d : Int)) ∧ w'.rangeAt bd 0 cs ∧ ((Instr.lookup 33 (.map (some F.N)) (.agg #[.int .i64 (x.f : Int), .int .i64 (x.t : Int), .int .i64 (x.d : Int)]) false).run Try.prog w' = .ok (.bool true) w') ∧ ((Instr.lookup 33 (.map (some F.N)) (.agg #[.int .i64 (x.f : Int), .int .i64 0, .int .i64 (x.d : Int)]) false).run Try.prog w' = .ok (.bool b2) w') ∧ (Builtin.len_ #[33] 3 #[.map (some F.N)]).run Try.prog w' = .ok (.int .i64 S.T.length) w' := by
    intro w' hi' hl'
    have htg : Tgs w' F.N n2 S.T := by rcases hi' with h | h <;> exact h.tags
    obtain ⟨q0, q1, -, -, -, -, -, -⟩ := hl'.cells
    have l1 := htg.look hTx
    have l2 := htg.look hTy
    rw [h1] at l1; rw [hb2] at l2
    exact ⟨q0, q1, hl'.cd.cells.1, digAt_range hl'.cd hcs, l1, l2, htg.len⟩
  have hturnd : Turn F A1 A2 w A1 A2 w.drew := turn_below ((Below.refl _ w).drew)
  have hinvd := hinv.later ((Below.refl _ w).drew)
  have hlocd := hloc.turn hturnd
  have k0 := mk w.drew (.inr hinvd) hlocd
  have step2 : ∀ w' : World, Led w' F.t F.M n S.T (k + 1) → KeptL F.t F.M w.drew w' → Inv w0 F w' A1 c1 S.L S.s S.l A2 c2 S.L n S.T (k + 1) n2 S.T ∧ Loc F A1 A2 w' bx be bg bd x k := fun w' h1 h2 =>
    ⟨(hinvd.ledT h1 h2).1, hlocd.turn (hinvd.ledT h1 h2).2⟩
  have mk2 : ∀ w' : World, Led w' F.t F.M n S.T (k + 1) → KeptL F.t F.M w.drew w' → w'.cell? ⟨be, 0, none⟩ = some (.int .i64 (x.f : Int)) ∧ w'.cell? ⟨be, 1, none⟩ = some (.int .i64 (x.t : Int)) ∧ w'.cell? ⟨bd, 0, none⟩ = some (.int .u8 (x.d : Int)) ∧ w'.rangeAt bd 0 cs ∧ ((Instr.lookup 33 (.map (some F.N)) (.agg #[.int .i64 (x.f : Int), .int .i64 (x.t : Int), .int .i64 (x.d : Int)]) false).run Try.prog w' = .ok (.bool true) w') ∧ ((Instr.lookup 33 (.map (some F.N)) (.agg #[.int .i64 (x.f : Int), .int .i64 0, .int .i64 (x.d : Int)]) false).run Try.prog w' = .ok (.bool b2) w') ∧ (Builtin.len_ #[33] 3 #[.map (some F.N)]).run Try.prog w' = .ok (.int .i64 S.T.length) w' := fun w' h1 h2 => mk w' (.inl (step2 w' h1 h2).1) (step2 w' h1 h2).2
  have Hck := Lib.hid hck
  have Mk2 := Lib.hid mk2
  have Step2 := Lib.hid step2
  have zd := x.d_lt
  have hwd : IntKind.i64.wrap (x.d : Int) = (x.d : Int) := by rw [IntKind.wrap_i64]; omega
  have hwk : IntKind.i64.wrap ((k : Int) + 1) = (k : Int) + 1 := by rw [IntKind.wrap_i64]; omega
  clear hck mk mk2 step2 hinvd hlocd hturnd hinv hloc hTx hTy hcs
  clear h1
  clear hb2
  conv => arg 2; whnf
  go_wp2_with fail
  refine wp_region_held_drew (S := (fun w' => w'.cell? ⟨be, 0, none⟩ = some (.int .i64 (x.f : Int)) ∧ w'.cell? ⟨be, 1, none⟩ = some (.int .i64 (x.t : Int)) ∧ w'.cell? ⟨bd, 0, none⟩ = some (.int .u8 (x.d : Int)) ∧ w'.rangeAt bd 0 cs ∧ ((Instr.lookup 33 (.map (some F.N)) (.agg #[.int .i64 (x.f : Int), .int .i64 (x.t : Int), .int .i64 (x.d : Int)]) false).run Try.prog w' = .ok (.bool true) w') ∧ ((Instr.lookup 33 (.map (some F.N)) (.agg #[.int .i64 (x.f : Int), .int .i64 0, .int .i64 (x.d : Int)]) false).run Try.prog w' = .ok (.bool b2) w') ∧ (Builtin.len_ #[33] 3 #[.map (some F.N)]).run Try.prog w' = .ok (.int .i64 S.T.length) w')) (by kernel_rfl) k0 (fun hHeld => ?_)
  refine wpAnyH_take (i := 0) (oi := { dst := some 271, op := Op.move (Operand.tmp 6), type := 30, pos := "top05x.go:565", after := #[], guard := none }) (v := ?_) rfl (by kernel_rfl) (by kernel_rfl) (by kernel_rfl) (fun _ _ _ h => h) (Or.inl ⟨by rfl, ?_⟩) hHeld ?_
  rotate_left
  · (intro w hSw; (try dsimp only at hSw); go_simp; try with_reducible rfl)
  simp only [Act.put, List.setIfInBounds_toArray, List.set_cons_zero, List.set_cons_succ]
  refine wpAnyH_take (i := 1) (oi := { dst := some 272, op := Op.fieldAddr 36 (Operand.tmp 15) 0, type := 0, pos := "top05x.go:565", after := #[], guard := none }) (v := ?_) rfl (by kernel_rfl) (by kernel_rfl) (by kernel_rfl) (fun _ _ _ h => h) (Or.inl ⟨by rfl, ?_⟩) hHeld ?_
  rotate_left
  · (intro w hSw; (try dsimp only at hSw); go_simp; try with_reducible rfl)
  simp only [Act.put, List.setIfInBounds_toArray, List.set_cons_zero, List.set_cons_succ]
  refine wpAnyH_take (i := 2) (oi := { dst := some 273, op := Op.load 3 (Operand.tmp 272), type := 3, pos := "top05x.go:565", after := #[{ on := 1, ground := Ground.data }], guard := none }) (v := ?_) rfl (by kernel_rfl) (by kernel_rfl) (by kernel_rfl) (fun _ _ _ h => h) (Or.inl ⟨by rfl, ?_⟩) hHeld ?_
  rotate_left
  · (intro w hSw; (try dsimp only at hSw); go_simp; try with_reducible rfl)
  simp only [Act.put, List.setIfInBounds_toArray, List.set_cons_zero, List.set_cons_succ]
  refine wpAnyH_take (i := 3) (oi := { dst := some 274, op := Op.fieldAddr 36 (Operand.tmp 15) 1, type := 0, pos := "top05x.go:565", after := #[], guard := none }) (v := ?_) rfl (by kernel_rfl) (by kernel_rfl) (by kernel_rfl) (fun _ _ _ h => h) (Or.inl ⟨by rfl, ?_⟩) hHeld ?_
  rotate_left
  · (intro w hSw; (try dsimp only at hSw); go_simp; try with_reducible rfl)
  simp only [Act.put, List.setIfInBounds_toArray, List.set_cons_zero, List.set_cons_succ]
  refine wpAnyH_take (i := 4) (oi := { dst := some 275, op := Op.load 3 (Operand.tmp 274), type := 3, pos := "top05x.go:565", after := #[{ on := 3, ground := Ground.data }], guard := none }) (v := ?_) rfl (by kernel_rfl) (by kernel_rfl) (by kernel_rfl) (fun _ _ _ h => h) (Or.inl ⟨by rfl, ?_⟩) hHeld ?_
  rotate_left
  · (intro w hSw; (try dsimp only at hSw); go_simp; try with_reducible rfl)
  simp only [Act.put, List.setIfInBounds_toArray, List.set_cons_zero, List.set_cons_succ]
  refine' wpAnyH_take (i := 5) (oi := { dst := some 276, op := Op.load 40 (Operand.tmp 20), type := 40, pos := "top05x.go:565", after := #[], guard := none }) (v := _) rfl (by kernel_rfl) (by kernel_rfl) (by kernel_rfl) (fun _ _ _ h => h) (yieldsIf_load_mid (by rfl) _ _ rfl _ _ rfl cs _ ?hS hu rfl hi) hHeld ?rest
  case hS => (intro w hSw; (try dsimp only at hSw); go_split_ands; assumption)
  simp only [Act.put, List.setIfInBounds_toArray, List.set_cons_zero, List.set_cons_succ]
  refine wpAnyH_take (i := 7) (oi := { dst := some 278, op := Op.move (Operand.tmp 10), type := 33, pos := "top05x.go:565", after := #[], guard := none }) (v := ?_) rfl (by kernel_rfl) (by kernel_rfl) (by kernel_rfl) (fun _ _ _ h => h) (Or.inl ⟨by rfl, ?_⟩) hHeld ?_
  rotate_left
  · (intro w hSw; (try dsimp only at hSw); go_simp; try with_reducible rfl)
  simp only [Act.put, List.setIfInBounds_toArray, List.set_cons_zero, List.set_cons_succ]
  refine wpAnyH_take (i := 8) (oi := { dst := some 279, op := Op.fieldAddr 36 (Operand.tmp 15) 0, type := 0, pos := "top05x.go:565", after := #[], guard := none }) (v := ?_) rfl (by kernel_rfl) (by kernel_rfl) (by kernel_rfl) (fun _ _ _ h => h) (Or.inl ⟨by rfl, ?_⟩) hHeld ?_
  rotate_left
  · (intro w hSw; (try dsimp only at hSw); go_simp; try with_reducible rfl)
  simp only [Act.put, List.setIfInBounds_toArray, List.set_cons_zero, List.set_cons_succ]
  refine wpAnyH_take (i := 9) (oi := { dst := some 280, op := Op.load 3 (Operand.tmp 279), type := 3, pos := "top05x.go:565", after := #[{ on := 8, ground := Ground.data }], guard := none }) (v := ?_) rfl (by kernel_rfl) (by kernel_rfl) (by kernel_rfl) (fun _ _ _ h => h) (Or.inl ⟨by rfl, ?_⟩) hHeld ?_
  rotate_left
  · (intro w hSw; (try dsimp only at hSw); go_simp; try with_reducible rfl)
  simp only [Act.put, List.setIfInBounds_toArray, List.set_cons_zero, List.set_cons_succ]
  refine wpAnyH_take (i := 10) (oi := { dst := some 281, op := Op.fieldAddr 36 (Operand.tmp 15) 1, type := 0, pos := "top05x.go:565", after := #[], guard := none }) (v := ?_) rfl (by kernel_rfl) (by kernel_rfl) (by kernel_rfl) (fun _ _ _ h => h) (Or.inl ⟨by rfl, ?_⟩) hHeld ?_
  rotate_left
  · (intro w hSw; (try dsimp only at hSw); go_simp; try with_reducible rfl)
  simp only [Act.put, List.setIfInBounds_toArray, List.set_cons_zero, List.set_cons_succ]
  refine wpAnyH_take (i := 11) (oi := { dst := some 282, op := Op.load 3 (Operand.tmp 281), type := 3, pos := "top05x.go:565", after := #[{ on := 10, ground := Ground.data }], guard := none }) (v := ?_) rfl (by kernel_rfl) (by kernel_rfl) (by kernel_rfl) (fun _ _ _ h => h) (Or.inl ⟨by rfl, ?_⟩) hHeld ?_
  rotate_left
  · (intro w hSw; (try dsimp only at hSw); go_simp; try with_reducible rfl)
  simp only [Act.put, List.setIfInBounds_toArray, List.set_cons_zero, List.set_cons_succ]
  refine wpAnyH_take (i := 12) (oi := { dst := some 283, op := Op.indexAddr 40 (Operand.tmp 20) (Operand.const (Value.int IntKind.i64 0)), type := 0, pos := "top05x.go:565", after := #[], guard := none }) (v := ?_) rfl (by kernel_rfl) (by kernel_rfl) (by kernel_rfl) (fun _ _ _ h => h) (Or.inl ⟨by rfl, ?_⟩) hHeld ?_
  rotate_left
  · (intro w hSw; (try dsimp only at hSw); go_simp; try with_reducible rfl)
  simp only [Act.put, List.setIfInBounds_toArray, List.set_cons_zero, List.set_cons_succ]
  refine wpAnyH_take (i := 13) (oi := { dst := some 284, op := Op.load 5 (Operand.tmp 283), type := 5, pos := "top05x.go:565", after := #[{ on := 12, ground := Ground.data }], guard := none }) (v := ?_) rfl (by kernel_rfl) (by kernel_rfl) (by kernel_rfl) (fun _ _ _ h => h) (Or.inl ⟨by rfl, ?_⟩) hHeld ?_
  rotate_left
  · (intro w hSw; (try dsimp only at hSw); go_simp; try with_reducible rfl)
  simp only [Act.put, List.setIfInBounds_toArray, List.set_cons_zero, List.set_cons_succ]
  refine wpAnyH_take (i := 14) (oi := { dst := some 285, op := Op.convert 5 3 (Operand.tmp 284), type := 3, pos := "top05x.go:565", after := #[{ on := 13, ground := Ground.data }], guard := none }) (v := ?_) rfl (by kernel_rfl) (by kernel_rfl) (by kernel_rfl) (fun _ _ _ h => h) (Or.inl ⟨by rfl, ?_⟩) hHeld ?_
  rotate_left
  · (intro w hSw; (try dsimp only at hSw); go_simp; try with_reducible rfl)
  simp only [Act.put, List.setIfInBounds_toArray, List.set_cons_zero, List.set_cons_succ]
  refine wpAnyH_take (i := 15) (oi := { dst := some 286, op := Op.build 45 #[(0, Operand.tmp 280), (1, Operand.tmp 282), (2, Operand.tmp 285)], type := 45, pos := "top05x.go:565", after := #[{ on := 9, ground := Ground.data }, { on := 11, ground := Ground.data }, { on := 14, ground := Ground.data }], guard := none }) (v := ?_) rfl (by kernel_rfl) (by kernel_rfl) (by kernel_rfl) (fun _ _ _ h => h) (Or.inl ⟨by rfl, ?_⟩) hHeld ?_
  rotate_left
  · (intro w hSw; (try dsimp only at hSw); go_simp; try with_reducible rfl)
  simp only [Act.put, List.setIfInBounds_toArray, List.set_cons_zero, List.set_cons_succ]
  refine wpAnyH_take (i := 16) (oi := { dst := some 287, op := Op.lookup 33 (Operand.tmp 278) (Operand.tmp 286) false, type := 4, pos := "top05x.go:565", after := #[{ on := 7, ground := Ground.data }, { on := 15, ground := Ground.data }], guard := none }) (v := ?_) rfl (by kernel_rfl) (by kernel_rfl) (by kernel_rfl) (fun _ _ _ h => h) (Or.inl ⟨by rfl, ?_⟩) hHeld ?_
  rotate_left
  · (intro w hSw; (try dsimp only at hSw); go_simp; try with_reducible rfl)
  simp only [Act.put, List.setIfInBounds_toArray, List.set_cons_zero, List.set_cons_succ]
  refine wpAnyH_ready (rs := [6]) (by kernel_rfl) (by simp) ?_
  refine AllReadyH.cons (o := { dst := some 277, op := Op.call { callee := Callee.value (Operand.func 14), args := #[Operand.tmp 271, Operand.tmp 273, Operand.tmp 275, Operand.tmp 276], argTypes := #[30, 3, 3, 40] }, type := 4, pos := "top05x.go:565", after := #[{ on := 0, ground := Ground.data }, { on := 2, ground := Ground.data }, { on := 4, ground := Ground.data }, { on := 5, ground := Ground.data }], guard := none }) rfl (fun K hK => ?_) AllReadyH.nil
  go_simp
  with_reducible refine Hck.out.mono ?_
  rintro e w2 ⟨rfl, hl, hkp⟩
  refine hK.out _ _ ?_ (fun hHeld => ?_)
  · exact Mk2.out _ hl hkp
  clear hK K
  (try simp only [Act.put, List.setIfInBounds_toArray, List.set_cons_zero, List.set_cons_succ])
  refine wpAnyH_take (i := 17) (oi := { dst := some 288, op := Op.move (Operand.tmp 287), type := 4, pos := "top05x.go:565", after := #[{ on := 16, ground := Ground.data }, { on := 6, ground := Ground.chain }], guard := none }) (v := ?_) rfl (by kernel_rfl) (by kernel_rfl) (by kernel_rfl) (fun _ _ _ h => h) (Or.inl ⟨by rfl, ?_⟩) hHeld ?_
  rotate_left
  · (intro w hSw; (try dsimp only at hSw); go_simp; try with_reducible rfl)
  simp only [Act.put, List.setIfInBounds_toArray, List.set_cons_zero, List.set_cons_succ]
  refine wpAnyH_take (i := 18) (oi := { dst := some 289, op := Op.move (Operand.tmp 10), type := 33, pos := "top05x.go:565", after := #[{ on := 17, ground := Ground.guard }], guard := some (17, false) }) (v := undef) rfl (by kernel_rfl) (by kernel_rfl) (by kernel_rfl) (fun _ _ _ h => h) (Or.inr ⟨by rfl, rfl⟩) hHeld ?_
  simp only [Act.put, List.setIfInBounds_toArray, List.set_cons_zero, List.set_cons_succ]
  refine wpAnyH_take (i := 19) (oi := { dst := some 290, op := Op.fieldAddr 36 (Operand.tmp 15) 0, type := 0, pos := "top05x.go:565", after := #[{ on := 17, ground := Ground.guard }], guard := some (17, false) }) (v := undef) rfl (by kernel_rfl) (by kernel_rfl) (by kernel_rfl) (fun _ _ _ h => h) (Or.inr ⟨by rfl, rfl⟩) hHeld ?_
  simp only [Act.put, List.setIfInBounds_toArray, List.set_cons_zero, List.set_cons_succ]
  refine wpAnyH_take (i := 20) (oi := { dst := some 291, op := Op.load 3 (Operand.tmp 290), type := 3, pos := "top05x.go:565", after := #[{ on := 19, ground := Ground.data }, { on := 17, ground := Ground.guard }], guard := some (17, false) }) (v := undef) rfl (by kernel_rfl) (by kernel_rfl) (by kernel_rfl) (fun _ _ _ h => h) (Or.inr ⟨by rfl, rfl⟩) hHeld ?_
  simp only [Act.put, List.setIfInBounds_toArray, List.set_cons_zero, List.set_cons_succ]
  refine wpAnyH_take (i := 21) (oi := { dst := some 292, op := Op.indexAddr 40 (Operand.tmp 20) (Operand.const (Value.int IntKind.i64 0)), type := 0, pos := "top05x.go:565", after := #[{ on := 17, ground := Ground.guard }], guard := some (17, false) }) (v := undef) rfl (by kernel_rfl) (by kernel_rfl) (by kernel_rfl) (fun _ _ _ h => h) (Or.inr ⟨by rfl, rfl⟩) hHeld ?_
  simp only [Act.put, List.setIfInBounds_toArray, List.set_cons_zero, List.set_cons_succ]
  refine wpAnyH_take (i := 22) (oi := { dst := some 293, op := Op.load 5 (Operand.tmp 292), type := 5, pos := "top05x.go:565", after := #[{ on := 21, ground := Ground.data }, { on := 17, ground := Ground.guard }], guard := some (17, false) }) (v := undef) rfl (by kernel_rfl) (by kernel_rfl) (by kernel_rfl) (fun _ _ _ h => h) (Or.inr ⟨by rfl, rfl⟩) hHeld ?_
  simp only [Act.put, List.setIfInBounds_toArray, List.set_cons_zero, List.set_cons_succ]
  refine wpAnyH_take (i := 23) (oi := { dst := some 294, op := Op.convert 5 3 (Operand.tmp 293), type := 3, pos := "top05x.go:565", after := #[{ on := 22, ground := Ground.data }, { on := 17, ground := Ground.guard }], guard := some (17, false) }) (v := undef) rfl (by kernel_rfl) (by kernel_rfl) (by kernel_rfl) (fun _ _ _ h => h) (Or.inr ⟨by rfl, rfl⟩) hHeld ?_
  simp only [Act.put, List.setIfInBounds_toArray, List.set_cons_zero, List.set_cons_succ]
  refine wpAnyH_take (i := 24) (oi := { dst := some 295, op := Op.build 45 #[(0, Operand.tmp 291), (1, Operand.const (Value.int IntKind.i64 0)), (2, Operand.tmp 294)], type := 45, pos := "top05x.go:565", after := #[{ on := 20, ground := Ground.data }, { on := 23, ground := Ground.data }, { on := 17, ground := Ground.guard }], guard := some (17, false) }) (v := undef) rfl (by kernel_rfl) (by kernel_rfl) (by kernel_rfl) (fun _ _ _ h => h) (Or.inr ⟨by rfl, rfl⟩) hHeld ?_
  simp only [Act.put, List.setIfInBounds_toArray, List.set_cons_zero, List.set_cons_succ]
  refine wpAnyH_take (i := 25) (oi := { dst := some 296, op := Op.lookup 33 (Operand.tmp 289) (Operand.tmp 295) false, type := 4, pos := "top05x.go:565", after := #[{ on := 18, ground := Ground.data }, { on := 24, ground := Ground.data }, { on := 17, ground := Ground.guard }], guard := some (17, false) }) (v := undef) rfl (by kernel_rfl) (by kernel_rfl) (by kernel_rfl) (fun _ _ _ h => h) (Or.inr ⟨by rfl, rfl⟩) hHeld ?_
  simp only [Act.put, List.setIfInBounds_toArray, List.set_cons_zero, List.set_cons_succ]
  refine wpAnyH_take (i := 26) (oi := { dst := some 297, op := Op.pick (Operand.tmp 288) (Operand.const (Value.bool true)) (Operand.tmp 296), type := 4, pos := "top05x.go:565", after := #[{ on := 17, ground := Ground.data }, { on := 25, ground := Ground.data }], guard := none }) (v := ?_) rfl (by kernel_rfl) (by kernel_rfl) (by kernel_rfl) (fun _ _ _ h => h) (Or.inl ⟨by rfl, ?_⟩) hHeld ?_
  rotate_left
  · (intro w hSw; (try dsimp only at hSw); go_simp; try with_reducible rfl)
  simp only [Act.put, List.setIfInBounds_toArray, List.set_cons_zero, List.set_cons_succ]
  refine wpAnyH_take (i := 27) (oi := { dst := some 298, op := Op.binOp BinOp.neq 4 (Operand.tmp 277) (Operand.tmp 297) 4, type := 4, pos := "top05x.go:565", after := #[{ on := 6, ground := Ground.data }, { on := 26, ground := Ground.data }], guard := none }) (v := ?_) rfl (by kernel_rfl) (by kernel_rfl) (by kernel_rfl) (fun _ _ _ h => h) (Or.inl ⟨by rfl, ?_⟩) hHeld ?_
  rotate_left
  · (intro w hSw; (try dsimp only at hSw); go_simp; try with_reducible rfl)
  simp only [Act.put, List.setIfInBounds_toArray, List.set_cons_zero, List.set_cons_succ]
  refine wpAnyH_take (i := 28) (oi := { dst := some 299, op := Op.move (Operand.tmp 298), type := 4, pos := "top05x.go:565", after := #[{ on := 27, ground := Ground.data }, { on := 17, ground := Ground.chain }], guard := none }) (v := ?_) rfl (by kernel_rfl) (by kernel_rfl) (by kernel_rfl) (fun _ _ _ h => h) (Or.inl ⟨by rfl, ?_⟩) hHeld ?_
  rotate_left
  · (intro w hSw; (try dsimp only at hSw); go_simp; try with_reducible rfl)
  simp only [Act.put, List.setIfInBounds_toArray, List.set_cons_zero, List.set_cons_succ]
  refine wpAnyH_take (i := 29) (oi := { dst := some 300, op := Op.move (Operand.tmp 6), type := 30, pos := "top05x.go:565", after := #[{ on := 28, ground := Ground.guard }], guard := some (28, false) }) (v := ?_) rfl (by kernel_rfl) (by kernel_rfl) (by kernel_rfl) (fun _ _ _ h => h) (Or.inl ⟨by rfl, ?_⟩) hHeld ?_
  rotate_left
  · (intro w hSw; (try dsimp only at hSw); go_simp; try with_reducible rfl)
  simp only [Act.put, List.setIfInBounds_toArray, List.set_cons_zero, List.set_cons_succ]
  refine wpAnyH_take (i := 31) (oi := { dst := some 302, op := Op.move (Operand.tmp 10), type := 33, pos := "top05x.go:565", after := #[{ on := 28, ground := Ground.guard }], guard := some (28, false) }) (v := ?_) rfl (by kernel_rfl) (by kernel_rfl) (by kernel_rfl) (fun _ _ _ h => h) (Or.inl ⟨by rfl, ?_⟩) hHeld ?_
  rotate_left
  · (intro w hSw; (try dsimp only at hSw); go_simp; try with_reducible rfl)
  simp only [Act.put, List.setIfInBounds_toArray, List.set_cons_zero, List.set_cons_succ]
  refine wpAnyH_ready (rs := [30]) (by kernel_rfl) (by simp) ?_
  refine AllReadyH.cons (o := { dst := some 301, op := Op.call { callee := Callee.value (Operand.func 15), args := #[Operand.tmp 300], argTypes := #[30] }, type := 3, pos := "top05x.go:565", after := #[{ on := 29, ground := Ground.data }, { on := 28, ground := Ground.chain }, { on := 28, ground := Ground.guard }], guard := some (28, false) }) rfl (fun K hK => ?_) AllReadyH.nil
  go_simp
  with_reducible refine (len15 hl).mono ?_
  rintro e w3 ⟨rfl, rfl⟩
  refine hK.out _ _ ?_ (fun hHeld => ?_)
  · exact Mk2.out _ hl hkp
  clear hK K
  (try simp only [Act.put, List.setIfInBounds_toArray, List.set_cons_zero, List.set_cons_succ])
  refine wpAnyH_take (i := 32) (oi := { dst := some 303, op := Op.call { callee := Callee.builtin Builtin.len, args := #[Operand.tmp 302], argTypes := #[33] }, type := 3, pos := "top05x.go:565", after := #[{ on := 31, ground := Ground.data }, { on := 30, ground := Ground.chain }, { on := 28, ground := Ground.guard }], guard := some (28, false) }) (v := ?_) rfl (by kernel_rfl) (by kernel_rfl) (by kernel_rfl) (fun _ _ _ h => h) (Or.inl ⟨by rfl, ?_⟩) hHeld ?_
  rotate_left
  · (intro w hSw; (try dsimp only at hSw); go_simp; try with_reducible rfl)
  simp only [Act.put, List.setIfInBounds_toArray, List.set_cons_zero, List.set_cons_succ]
  refine wpAnyH_take (i := 33) (oi := { dst := some 304, op := Op.binOp BinOp.neq 3 (Operand.tmp 301) (Operand.tmp 303) 3, type := 4, pos := "top05x.go:565", after := #[{ on := 30, ground := Ground.data }, { on := 32, ground := Ground.data }, { on := 28, ground := Ground.guard }], guard := some (28, false) }) (v := ?_) rfl (by kernel_rfl) (by kernel_rfl) (by kernel_rfl) (fun _ _ _ h => h) (Or.inl ⟨by rfl, ?_⟩) hHeld ?_
  rotate_left
  · (intro w hSw; (try dsimp only at hSw); go_simp; try with_reducible rfl)
  simp only [Act.put, List.setIfInBounds_toArray, List.set_cons_zero, List.set_cons_succ]
  refine wpAnyH_take (i := 34) (oi := { dst := some 305, op := Op.pick (Operand.tmp 299) (Operand.const (Value.bool true)) (Operand.tmp 304), type := 4, pos := "top05x.go:565", after := #[{ on := 28, ground := Ground.data }, { on := 33, ground := Ground.data }], guard := none }) (v := ?_) rfl (by kernel_rfl) (by kernel_rfl) (by kernel_rfl) (fun _ _ _ h => h) (Or.inl ⟨by rfl, ?_⟩) hHeld ?_
  rotate_left
  · (intro w hSw; (try dsimp only at hSw); go_simp; try with_reducible rfl)
  simp only [Act.put, List.setIfInBounds_toArray, List.set_cons_zero, List.set_cons_succ]
  refine wpAnyH_take (i := 35) (oi := { dst := some 306, op := Op.move (Operand.tmp 305), type := 4, pos := "top05x.go:565", after := #[{ on := 34, ground := Ground.data }, { on := 32, ground := Ground.chain }], guard := none }) (v := ?_) rfl (by kernel_rfl) (by kernel_rfl) (by kernel_rfl) (fun _ _ _ h => h) (Or.inl ⟨by rfl, ?_⟩) hHeld ?_
  rotate_left
  · (intro w hSw; (try dsimp only at hSw); go_simp; try with_reducible rfl)
  simp only [Act.put, List.setIfInBounds_toArray, List.set_cons_zero, List.set_cons_succ]
  refine wpAnyH_take (i := 36) (oi := { dst := some 307, op := Op.move (Operand.tmp 6), type := 30, pos := "top05x.go:565", after := #[{ on := 35, ground := Ground.guard }], guard := some (35, false) }) (v := ?_) rfl (by kernel_rfl) (by kernel_rfl) (by kernel_rfl) (fun _ _ _ h => h) (Or.inl ⟨by rfl, ?_⟩) hHeld ?_
  rotate_left
  · (intro w hSw; (try dsimp only at hSw); go_simp; try with_reducible rfl)
  simp only [Act.put, List.setIfInBounds_toArray, List.set_cons_zero, List.set_cons_succ]
  refine wpAnyH_take (i := 38) (oi := { dst := some 309, op := Op.move (Operand.tmp 12), type := 3, pos := "top05x.go:565", after := #[{ on := 35, ground := Ground.guard }], guard := some (35, false) }) (v := ?_) rfl (by kernel_rfl) (by kernel_rfl) (by kernel_rfl) (fun _ _ _ h => h) (Or.inl ⟨by rfl, ?_⟩) hHeld ?_
  rotate_left
  · (intro w hSw; (try dsimp only at hSw); go_simp; try with_reducible rfl)
  simp only [Act.put, List.setIfInBounds_toArray, List.set_cons_zero, List.set_cons_succ]
  refine wpAnyH_ready (rs := [37]) (by kernel_rfl) (by simp) ?_
  refine AllReadyH.cons (o := { dst := some 308, op := Op.call { callee := Callee.value (Operand.func 16), args := #[Operand.tmp 307], argTypes := #[30] }, type := 3, pos := "top05x.go:565", after := #[{ on := 36, ground := Ground.data }, { on := 35, ground := Ground.chain }, { on := 35, ground := Ground.guard }], guard := some (35, false) }) rfl (fun K hK => ?_) AllReadyH.nil
  go_simp
  with_reducible refine (asked16 hl).mono ?_
  rintro e w4 ⟨rfl, rfl⟩
  refine hK.out _ _ ?_ (fun hHeld => ?_)
  · exact Mk2.out _ hl hkp
  clear hK K
  (try simp only [Act.put, List.setIfInBounds_toArray, List.set_cons_zero, List.set_cons_succ])
  refine wpAnyH_take (i := 39) (oi := { dst := some 310, op := Op.binOp BinOp.neq 3 (Operand.tmp 308) (Operand.tmp 309) 3, type := 4, pos := "top05x.go:565", after := #[{ on := 37, ground := Ground.data }, { on := 38, ground := Ground.data }, { on := 35, ground := Ground.guard }], guard := some (35, false) }) (v := ?_) rfl (by kernel_rfl) (by kernel_rfl) (by kernel_rfl) (fun _ _ _ h => h) (Or.inl ⟨by rfl, ?_⟩) hHeld ?_
  rotate_left
  · (intro w hSw; (try dsimp only at hSw); go_simp; try with_reducible rfl)
  simp only [Act.put, List.setIfInBounds_toArray, List.set_cons_zero, List.set_cons_succ]
  refine wpAnyH_take (i := 40) (oi := { dst := some 311, op := Op.pick (Operand.tmp 306) (Operand.const (Value.bool true)) (Operand.tmp 310), type := 4, pos := "top05x.go:565", after := #[{ on := 35, ground := Ground.data }, { on := 39, ground := Ground.data }], guard := none }) (v := ?_) rfl (by kernel_rfl) (by kernel_rfl) (by kernel_rfl) (fun _ _ _ h => h) (Or.inl ⟨by rfl, ?_⟩) hHeld ?_
  rotate_left
  · (intro w hSw; (try dsimp only at hSw); go_simp; try with_reducible rfl)
  simp only [Act.put, List.setIfInBounds_toArray, List.set_cons_zero, List.set_cons_succ]
  refine wpAnyH_done (by kernel_rfl) ?_ _
  go_wp2_with fail
  exact ⟨(fr_cons rfl (fr_cons rfl (fr_cons rfl (fr_cons rfl (fr_cons rfl (fr_cons rfl (fr_cons rfl (fr_cons rfl (fr_cons rfl (fr_cons rfl (fr_cons rfl (fr_nil rfl)))))))))))), (Step2.out _ hl hkp).1, (Step2.out _ hl hkp).2⟩

set_option maxRecDepth 100000 in
set_option maxHeartbeats 4000000 in
/-- The ledger is asked. -/
theorem tail1a {a : Act} (w0 w : World) (F : Four) (bx be bg bd k : Nat) (S : St) (A1 : Option Addr) (c1 : Nat) (A2 : Option Addr) (c2 n n2 m : Nat) (sl : Value) (x : Note5) (hfr : Fr 425 a [(0, sl), (5, .pointer (some ⟨F.b, 0, none⟩)), (6, .pointer (some ⟨F.t, 0, none⟩)), (7, .slice A2 m c2), (8, .int .i64 S.s), (9, .int .i64 S.l), (10, .map (some F.N)), (11, .func (.func 7) #[] #[]), (12, .int .i64 ((k + 1 : Nat) : Int)), (13, .int .i64 k), (14, .pointer (some ⟨bx, 0, none⟩)), (15, .pointer (some ⟨be, 0, none⟩)), (20, .pointer (some ⟨bd, 0, none⟩))])
    (hinv : Inv w0 F w A1 c1 S.L S.s S.l A2 c2 S.L n S.T k n2 S.T) (hloc : Loc F A1 A2 w bx be bg bd x k) (hk : k < 40) (h1 : decide ((⟨x.f, x.t, x.d⟩ : Tg) ∈ S.T) = false) (h2 : decide ((⟨x.f, 0, x.d⟩ : Tg) ∈ S.T) = true)  :
    (part [1, 1, 1, 1, 1, 1, 1, 1, 1, 1, 0] cB).wp Try.prog (Only fun a' w' => Fr 425 a' [(0, sl), (5, .pointer (some ⟨F.b, 0, none⟩)), (6, .pointer (some ⟨F.t, 0, none⟩)), (7, .slice A2 m c2), (8, .int .i64 S.s), (9, .int .i64 S.l), (10, .map (some F.N)), (11, .func (.func 7) #[] #[]), (12, .int .i64 ((k + 1 : Nat) : Int)), (13, .int .i64 k), (14, .pointer (some ⟨bx, 0, none⟩))] ∧ Inv w0 F w' A1 c1 S.L S.s S.l A2 c2 S.L n S.T (k + 1) n2 S.T ∧ Loc F A1 A2 w' bx be bg bd x k) a w := by
  obtain ⟨t, rfl⟩ := hfr.lit
  change Code.wp _ _ _ ⟨#[sl, t 1, t 2, t 3, t 4, .pointer (some ⟨F.b, 0, none⟩), .pointer (some ⟨F.t, 0, none⟩), .slice A2 m c2, .int .i64 S.s, .int .i64 S.l, .map (some F.N), .func (.func 7) #[] #[], .int .i64 ((k + 1 : Nat) : Int), .int .i64 k, .pointer (some ⟨bx, 0, none⟩), .pointer (some ⟨be, 0, none⟩), t 16, t 17, t 18, t 19, .pointer (some ⟨bd, 0, none⟩), t 21, t 22, t 23, t 24, t 25, t 26, t 27, t 28, t 29, t 30, t 31, t 32, t 33, t 34, t 35, t 36, t 37, t 38, t 39, t 40, t 41, t 42, t 43, t 44, t 45, t 46, t 47, t 48, t 49, t 50, t 51, t 52, t 53, t 54, t 55, t 56, t 57, t 58, t 59, t 60, t 61, t 62, t 63, t 64, t 65, t 66, t 67, t 68, t 69, t 70, t 71, t 72, t 73, t 74, t 75, t 76, t 77, t 78, t 79, t 80, t 81, t 82, t 83, t 84, t 85, t 86, t 87, t 88, t 89, t 90, t 91, t 92, t 93, t 94, t 95, t 96, t 97, t 98, t 99, t 100, t 101, t 102, t 103, t 104, t 105, t 106, t 107, t 108, t 109, t 110, t 111, t 112, t 113, t 114, t 115, t 116, t 117, t 118, t 119, t 120, t 121, t 122, t 123, t 124, t 125, t 126, t 127, t 128, t 129, t 130, t 131, t 132, t 133, t 134, t 135, t 136, t 137, t 138, t 139, t 140, t 141, t 142, t 143, t 144, t 145, t 146, t 147, t 148, t 149, t 150, t 151, t 152, t 153, t 154, t 155, t 156, t 157, t 158, t 159, t 160, t 161, t 162, t 163, t 164, t 165, t 166, t 167, t 168, t 169, t 170, t 171, t 172, t 173, t 174, t 175, t 176, t 177, t 178, t 179, t 180, t 181, t 182, t 183, t 184, t 185, t 186, t 187, t 188, t 189, t 190, t 191, t 192, t 193, t 194, t 195, t 196, t 197, t 198, t 199, t 200, t 201, t 202, t 203, t 204, t 205, t 206, t 207, t 208, t 209, t 210, t 211, t 212, t 213, t 214, t 215, t 216, t 217, t 218, t 219, t 220, t 221, t 222, t 223, t 224, t 225, t 226, t 227, t 228, t 229, t 230, t 231, t 232, t 233, t 234, t 235, t 236, t 237, t 238, t 239, t 240, t 241, t 242, t 243, t 244, t 245, t 246, t 247, t 248, t 249, t 250, t 251, t 252, t 253, t 254, t 255, t 256, t 257, t 258, t 259, t 260, t 261, t 262, t 263, t 264, t 265, t 266, t 267, t 268, t 269, t 270, t 271, t 272, t 273, t 274, t 275, t 276, t 277, t 278, t 279, t 280, t 281, t 282, t 283, t 284, t 285, t 286, t 287, t 288, t 289, t 290, t 291, t 292, t 293, t 294, t 295, t 296, t 297, t 298, t 299, t 300, t 301, t 302, t 303, t 304, t 305, t 306, t 307, t 308, t 309, t 310, t 311, t 312, t 313, t 314, t 315, t 316, t 317, t 318, t 319, t 320, t 321, t 322, t 323, t 324, t 325, t 326, t 327, t 328, t 329, t 330, t 331, t 332, t 333, t 334, t 335, t 336, t 337, t 338, t 339, t 340, t 341, t 342, t 343, t 344, t 345, t 346, t 347, t 348, t 349, t 350, t 351, t 352, t 353, t 354, t 355, t 356, t 357, t 358, t 359, t 360, t 361, t 362, t 363, t 364, t 365, t 366, t 367, t 368, t 369, t 370, t 371, t 372, t 373, t 374, t 375, t 376, t 377, t 378, t 379, t 380, t 381, t 382, t 383, t 384, t 385, t 386, t 387, t 388, t 389, t 390, t 391, t 392, t 393, t 394, t 395, t 396, t 397, t 398, t 399, t 400, t 401, t 402, t 403, t 404, t 405, t 406, t 407, t 408, t 409, t 410, t 411, t 412, t 413, t 414, t 415, t 416, t 417, t 418, t 419, t 420, t 421, t 422, t 423, t 424], []⟩ _
  clear hfr
  have hTx : (⟨x.f, x.t, x.d⟩ : Tg).Ok := ⟨by have := x.f_lt; show x.f ≤ 40; omega, by have := x.t_lt; show x.t ≤ 40; omega, x.d_lt⟩
  have hTy : (⟨x.f, 0, x.d⟩ : Tg).Ok := ⟨by have := x.f_lt; show x.f ≤ 40; omega, by show 0 ≤ 40; omega, x.d_lt⟩
  obtain ⟨cs, hcs⟩ : ∃ cs, cs = dig x.d := ⟨_, rfl⟩
  have hu := Try.underlying40
  have hi : (Try.prog.info? 40).map (fun i => i.size) = some cs.length := by rw [Try.size40, hcs]; rfl
  have hcl : cs.length = 32 := by rw [hcs]; rfl
  have hck : Calls Try.prog 14 #[.pointer (some ⟨F.t, 0, none⟩), .int .i64 (x.f : Int), .int .i64 (x.t : Int), .agg cs.toArray] w.drew fun e w' => e = .returned (.bool true) ∧ Led w' F.t F.M n S.T (k + 1) ∧ KeptL F.t F.M w.drew w' := by
    rw [hcs]
    refine (check14 (hinv.led.other (w' := w.drew) fun _ _ => rfl) ⟨x.f, x.t, x.d⟩ hTx (by omega)).mono ?_
    rintro e w' ⟨rfl, r1, r2⟩
    exact ⟨ret_b (by rw [h1, h2]; rfl), r1, r2⟩
  have mk : ∀ w' : World, Inv w0 F w' A1 c1 S.L S.s S.l A2 c2 S.L n S.T (k + 1) n2 S.T ∨ Inv w0 F w' A1 c1 S.L S.s S.l A2 c2 S.L n S.T k n2 S.T → Loc F A1 A2 w' bx be bg bd x k → w'.cell? ⟨be, 0, none⟩ = some (.int .i64 (x.f : Int)) ∧ w'.cell? ⟨be, 1, none⟩ = some (.int .i64 (x.t : Int)) ∧ w'.cell? ⟨bd, 0, none⟩ = some (.int .u8 (x.d : Int)) ∧ w'.rangeAt bd 0 cs ∧ ((Instr.lookup 33 (.map (some F.N)) (.agg #[.int .i64 (x.f : Int), .int .i64 (x.t : Int), .int .i64 (x.d : Int)]) false).run Try.prog w' = .ok (.bool false) w') ∧ ((Instr.lookup 33 (.map (some F.N)) (.agg #[.int .i64 (x.f : Int), .int .i64 0, .int .i64 (x.d : Int)]) false).run Try.prog w' = .ok (.bool true) w') ∧ (Builtin.len_ #[33] 3 #[.map (some F.N)]).run Try.prog w' = .ok (.int .i64 S.T.length) w' := by
    intro w' hi' hl'
    have htg : Tgs w' F.N n2 S.T := by rcases hi' with h | h <;> exact h.tags
    obtain ⟨q0, q1, -, -, -, -, -, -⟩ := hl'.cells
    have l1 := htg.look hTx
    have l2 := htg.look hTy
    rw [h1] at l1; rw [h2] at l2
    exact ⟨q0, q1, hl'.cd.cells.1, digAt_range hl'.cd hcs, l1, l2, htg.len⟩
  have hturnd : Turn F A1 A2 w A1 A2 w.drew := turn_below ((Below.refl _ w).drew)
  have hinvd := hinv.later ((Below.refl _ w).drew)
  have hlocd := hloc.turn hturnd
  have k0 := mk w.drew (.inr hinvd) hlocd
  have step2 : ∀ w' : World, Led w' F.t F.M n S.T (k + 1) → KeptL F.t F.M w.drew w' → Inv w0 F w' A1 c1 S.L S.s S.l A2 c2 S.L n S.T (k + 1) n2 S.T ∧ Loc F A1 A2 w' bx be bg bd x k := fun w' h1 h2 =>
    ⟨(hinvd.ledT h1 h2).1, hlocd.turn (hinvd.ledT h1 h2).2⟩
  have mk2 : ∀ w' : World, Led w' F.t F.M n S.T (k + 1) → KeptL F.t F.M w.drew w' → w'.cell? ⟨be, 0, none⟩ = some (.int .i64 (x.f : Int)) ∧ w'.cell? ⟨be, 1, none⟩ = some (.int .i64 (x.t : Int)) ∧ w'.cell? ⟨bd, 0, none⟩ = some (.int .u8 (x.d : Int)) ∧ w'.rangeAt bd 0 cs ∧ ((Instr.lookup 33 (.map (some F.N)) (.agg #[.int .i64 (x.f : Int), .int .i64 (x.t : Int), .int .i64 (x.d : Int)]) false).run Try.prog w' = .ok (.bool false) w') ∧ ((Instr.lookup 33 (.map (some F.N)) (.agg #[.int .i64 (x.f : Int), .int .i64 0, .int .i64 (x.d : Int)]) false).run Try.prog w' = .ok (.bool true) w') ∧ (Builtin.len_ #[33] 3 #[.map (some F.N)]).run Try.prog w' = .ok (.int .i64 S.T.length) w' := fun w' h1 h2 => mk w' (.inl (step2 w' h1 h2).1) (step2 w' h1 h2).2
  have Hck := Lib.hid hck
  have Mk2 := Lib.hid mk2
  have Step2 := Lib.hid step2
  have zd := x.d_lt
  have hwd : IntKind.i64.wrap (x.d : Int) = (x.d : Int) := by rw [IntKind.wrap_i64]; omega
  have hwk : IntKind.i64.wrap ((k : Int) + 1) = (k : Int) + 1 := by rw [IntKind.wrap_i64]; omega
  clear hck mk mk2 step2 hinvd hlocd hturnd hinv hloc hTx hTy hcs
  clear h1
  clear h2
  conv => arg 2; whnf
  go_wp2_with fail
  refine wp_region_held_drew (S := (fun w' => w'.cell? ⟨be, 0, none⟩ = some (.int .i64 (x.f : Int)) ∧ w'.cell? ⟨be, 1, none⟩ = some (.int .i64 (x.t : Int)) ∧ w'.cell? ⟨bd, 0, none⟩ = some (.int .u8 (x.d : Int)) ∧ w'.rangeAt bd 0 cs ∧ ((Instr.lookup 33 (.map (some F.N)) (.agg #[.int .i64 (x.f : Int), .int .i64 (x.t : Int), .int .i64 (x.d : Int)]) false).run Try.prog w' = .ok (.bool false) w') ∧ ((Instr.lookup 33 (.map (some F.N)) (.agg #[.int .i64 (x.f : Int), .int .i64 0, .int .i64 (x.d : Int)]) false).run Try.prog w' = .ok (.bool true) w') ∧ (Builtin.len_ #[33] 3 #[.map (some F.N)]).run Try.prog w' = .ok (.int .i64 S.T.length) w')) (by kernel_rfl) k0 (fun hHeld => ?_)
  refine wpAnyH_take (i := 0) (oi := { dst := some 271, op := Op.move (Operand.tmp 6), type := 30, pos := "top05x.go:565", after := #[], guard := none }) (v := ?_) rfl (by kernel_rfl) (by kernel_rfl) (by kernel_rfl) (fun _ _ _ h => h) (Or.inl ⟨by rfl, ?_⟩) hHeld ?_
  rotate_left
  · (intro w hSw; (try dsimp only at hSw); go_simp; try with_reducible rfl)
  simp only [Act.put, List.setIfInBounds_toArray, List.set_cons_zero, List.set_cons_succ]
  refine wpAnyH_take (i := 1) (oi := { dst := some 272, op := Op.fieldAddr 36 (Operand.tmp 15) 0, type := 0, pos := "top05x.go:565", after := #[], guard := none }) (v := ?_) rfl (by kernel_rfl) (by kernel_rfl) (by kernel_rfl) (fun _ _ _ h => h) (Or.inl ⟨by rfl, ?_⟩) hHeld ?_
  rotate_left
  · (intro w hSw; (try dsimp only at hSw); go_simp; try with_reducible rfl)
  simp only [Act.put, List.setIfInBounds_toArray, List.set_cons_zero, List.set_cons_succ]
  refine wpAnyH_take (i := 2) (oi := { dst := some 273, op := Op.load 3 (Operand.tmp 272), type := 3, pos := "top05x.go:565", after := #[{ on := 1, ground := Ground.data }], guard := none }) (v := ?_) rfl (by kernel_rfl) (by kernel_rfl) (by kernel_rfl) (fun _ _ _ h => h) (Or.inl ⟨by rfl, ?_⟩) hHeld ?_
  rotate_left
  · (intro w hSw; (try dsimp only at hSw); go_simp; try with_reducible rfl)
  simp only [Act.put, List.setIfInBounds_toArray, List.set_cons_zero, List.set_cons_succ]
  refine wpAnyH_take (i := 3) (oi := { dst := some 274, op := Op.fieldAddr 36 (Operand.tmp 15) 1, type := 0, pos := "top05x.go:565", after := #[], guard := none }) (v := ?_) rfl (by kernel_rfl) (by kernel_rfl) (by kernel_rfl) (fun _ _ _ h => h) (Or.inl ⟨by rfl, ?_⟩) hHeld ?_
  rotate_left
  · (intro w hSw; (try dsimp only at hSw); go_simp; try with_reducible rfl)
  simp only [Act.put, List.setIfInBounds_toArray, List.set_cons_zero, List.set_cons_succ]
  refine wpAnyH_take (i := 4) (oi := { dst := some 275, op := Op.load 3 (Operand.tmp 274), type := 3, pos := "top05x.go:565", after := #[{ on := 3, ground := Ground.data }], guard := none }) (v := ?_) rfl (by kernel_rfl) (by kernel_rfl) (by kernel_rfl) (fun _ _ _ h => h) (Or.inl ⟨by rfl, ?_⟩) hHeld ?_
  rotate_left
  · (intro w hSw; (try dsimp only at hSw); go_simp; try with_reducible rfl)
  simp only [Act.put, List.setIfInBounds_toArray, List.set_cons_zero, List.set_cons_succ]
  refine' wpAnyH_take (i := 5) (oi := { dst := some 276, op := Op.load 40 (Operand.tmp 20), type := 40, pos := "top05x.go:565", after := #[], guard := none }) (v := _) rfl (by kernel_rfl) (by kernel_rfl) (by kernel_rfl) (fun _ _ _ h => h) (yieldsIf_load_mid (by rfl) _ _ rfl _ _ rfl cs _ ?hS hu rfl hi) hHeld ?rest
  case hS => (intro w hSw; (try dsimp only at hSw); go_split_ands; assumption)
  simp only [Act.put, List.setIfInBounds_toArray, List.set_cons_zero, List.set_cons_succ]
  refine wpAnyH_take (i := 7) (oi := { dst := some 278, op := Op.move (Operand.tmp 10), type := 33, pos := "top05x.go:565", after := #[], guard := none }) (v := ?_) rfl (by kernel_rfl) (by kernel_rfl) (by kernel_rfl) (fun _ _ _ h => h) (Or.inl ⟨by rfl, ?_⟩) hHeld ?_
  rotate_left
  · (intro w hSw; (try dsimp only at hSw); go_simp; try with_reducible rfl)
  simp only [Act.put, List.setIfInBounds_toArray, List.set_cons_zero, List.set_cons_succ]
  refine wpAnyH_take (i := 8) (oi := { dst := some 279, op := Op.fieldAddr 36 (Operand.tmp 15) 0, type := 0, pos := "top05x.go:565", after := #[], guard := none }) (v := ?_) rfl (by kernel_rfl) (by kernel_rfl) (by kernel_rfl) (fun _ _ _ h => h) (Or.inl ⟨by rfl, ?_⟩) hHeld ?_
  rotate_left
  · (intro w hSw; (try dsimp only at hSw); go_simp; try with_reducible rfl)
  simp only [Act.put, List.setIfInBounds_toArray, List.set_cons_zero, List.set_cons_succ]
  refine wpAnyH_take (i := 9) (oi := { dst := some 280, op := Op.load 3 (Operand.tmp 279), type := 3, pos := "top05x.go:565", after := #[{ on := 8, ground := Ground.data }], guard := none }) (v := ?_) rfl (by kernel_rfl) (by kernel_rfl) (by kernel_rfl) (fun _ _ _ h => h) (Or.inl ⟨by rfl, ?_⟩) hHeld ?_
  rotate_left
  · (intro w hSw; (try dsimp only at hSw); go_simp; try with_reducible rfl)
  simp only [Act.put, List.setIfInBounds_toArray, List.set_cons_zero, List.set_cons_succ]
  refine wpAnyH_take (i := 10) (oi := { dst := some 281, op := Op.fieldAddr 36 (Operand.tmp 15) 1, type := 0, pos := "top05x.go:565", after := #[], guard := none }) (v := ?_) rfl (by kernel_rfl) (by kernel_rfl) (by kernel_rfl) (fun _ _ _ h => h) (Or.inl ⟨by rfl, ?_⟩) hHeld ?_
  rotate_left
  · (intro w hSw; (try dsimp only at hSw); go_simp; try with_reducible rfl)
  simp only [Act.put, List.setIfInBounds_toArray, List.set_cons_zero, List.set_cons_succ]
  refine wpAnyH_take (i := 11) (oi := { dst := some 282, op := Op.load 3 (Operand.tmp 281), type := 3, pos := "top05x.go:565", after := #[{ on := 10, ground := Ground.data }], guard := none }) (v := ?_) rfl (by kernel_rfl) (by kernel_rfl) (by kernel_rfl) (fun _ _ _ h => h) (Or.inl ⟨by rfl, ?_⟩) hHeld ?_
  rotate_left
  · (intro w hSw; (try dsimp only at hSw); go_simp; try with_reducible rfl)
  simp only [Act.put, List.setIfInBounds_toArray, List.set_cons_zero, List.set_cons_succ]
  refine wpAnyH_take (i := 12) (oi := { dst := some 283, op := Op.indexAddr 40 (Operand.tmp 20) (Operand.const (Value.int IntKind.i64 0)), type := 0, pos := "top05x.go:565", after := #[], guard := none }) (v := ?_) rfl (by kernel_rfl) (by kernel_rfl) (by kernel_rfl) (fun _ _ _ h => h) (Or.inl ⟨by rfl, ?_⟩) hHeld ?_
  rotate_left
  · (intro w hSw; (try dsimp only at hSw); go_simp; try with_reducible rfl)
  simp only [Act.put, List.setIfInBounds_toArray, List.set_cons_zero, List.set_cons_succ]
  refine wpAnyH_take (i := 13) (oi := { dst := some 284, op := Op.load 5 (Operand.tmp 283), type := 5, pos := "top05x.go:565", after := #[{ on := 12, ground := Ground.data }], guard := none }) (v := ?_) rfl (by kernel_rfl) (by kernel_rfl) (by kernel_rfl) (fun _ _ _ h => h) (Or.inl ⟨by rfl, ?_⟩) hHeld ?_
  rotate_left
  · (intro w hSw; (try dsimp only at hSw); go_simp; try with_reducible rfl)
  simp only [Act.put, List.setIfInBounds_toArray, List.set_cons_zero, List.set_cons_succ]
  refine wpAnyH_take (i := 14) (oi := { dst := some 285, op := Op.convert 5 3 (Operand.tmp 284), type := 3, pos := "top05x.go:565", after := #[{ on := 13, ground := Ground.data }], guard := none }) (v := ?_) rfl (by kernel_rfl) (by kernel_rfl) (by kernel_rfl) (fun _ _ _ h => h) (Or.inl ⟨by rfl, ?_⟩) hHeld ?_
  rotate_left
  · (intro w hSw; (try dsimp only at hSw); go_simp; try with_reducible rfl)
  simp only [Act.put, List.setIfInBounds_toArray, List.set_cons_zero, List.set_cons_succ]
  refine wpAnyH_take (i := 15) (oi := { dst := some 286, op := Op.build 45 #[(0, Operand.tmp 280), (1, Operand.tmp 282), (2, Operand.tmp 285)], type := 45, pos := "top05x.go:565", after := #[{ on := 9, ground := Ground.data }, { on := 11, ground := Ground.data }, { on := 14, ground := Ground.data }], guard := none }) (v := ?_) rfl (by kernel_rfl) (by kernel_rfl) (by kernel_rfl) (fun _ _ _ h => h) (Or.inl ⟨by rfl, ?_⟩) hHeld ?_
  rotate_left
  · (intro w hSw; (try dsimp only at hSw); go_simp; try with_reducible rfl)
  simp only [Act.put, List.setIfInBounds_toArray, List.set_cons_zero, List.set_cons_succ]
  refine wpAnyH_take (i := 16) (oi := { dst := some 287, op := Op.lookup 33 (Operand.tmp 278) (Operand.tmp 286) false, type := 4, pos := "top05x.go:565", after := #[{ on := 7, ground := Ground.data }, { on := 15, ground := Ground.data }], guard := none }) (v := ?_) rfl (by kernel_rfl) (by kernel_rfl) (by kernel_rfl) (fun _ _ _ h => h) (Or.inl ⟨by rfl, ?_⟩) hHeld ?_
  rotate_left
  · (intro w hSw; (try dsimp only at hSw); go_simp; try with_reducible rfl)
  simp only [Act.put, List.setIfInBounds_toArray, List.set_cons_zero, List.set_cons_succ]
  refine wpAnyH_ready (rs := [6]) (by kernel_rfl) (by simp) ?_
  refine AllReadyH.cons (o := { dst := some 277, op := Op.call { callee := Callee.value (Operand.func 14), args := #[Operand.tmp 271, Operand.tmp 273, Operand.tmp 275, Operand.tmp 276], argTypes := #[30, 3, 3, 40] }, type := 4, pos := "top05x.go:565", after := #[{ on := 0, ground := Ground.data }, { on := 2, ground := Ground.data }, { on := 4, ground := Ground.data }, { on := 5, ground := Ground.data }], guard := none }) rfl (fun K hK => ?_) AllReadyH.nil
  go_simp
  with_reducible refine Hck.out.mono ?_
  rintro e w2 ⟨rfl, hl, hkp⟩
  refine hK.out _ _ ?_ (fun hHeld => ?_)
  · exact Mk2.out _ hl hkp
  clear hK K
  (try simp only [Act.put, List.setIfInBounds_toArray, List.set_cons_zero, List.set_cons_succ])
  refine wpAnyH_take (i := 17) (oi := { dst := some 288, op := Op.move (Operand.tmp 287), type := 4, pos := "top05x.go:565", after := #[{ on := 16, ground := Ground.data }, { on := 6, ground := Ground.chain }], guard := none }) (v := ?_) rfl (by kernel_rfl) (by kernel_rfl) (by kernel_rfl) (fun _ _ _ h => h) (Or.inl ⟨by rfl, ?_⟩) hHeld ?_
  rotate_left
  · (intro w hSw; (try dsimp only at hSw); go_simp; try with_reducible rfl)
  simp only [Act.put, List.setIfInBounds_toArray, List.set_cons_zero, List.set_cons_succ]
  refine wpAnyH_take (i := 18) (oi := { dst := some 289, op := Op.move (Operand.tmp 10), type := 33, pos := "top05x.go:565", after := #[{ on := 17, ground := Ground.guard }], guard := some (17, false) }) (v := ?_) rfl (by kernel_rfl) (by kernel_rfl) (by kernel_rfl) (fun _ _ _ h => h) (Or.inl ⟨by rfl, ?_⟩) hHeld ?_
  rotate_left
  · (intro w hSw; (try dsimp only at hSw); go_simp; try with_reducible rfl)
  simp only [Act.put, List.setIfInBounds_toArray, List.set_cons_zero, List.set_cons_succ]
  refine wpAnyH_take (i := 19) (oi := { dst := some 290, op := Op.fieldAddr 36 (Operand.tmp 15) 0, type := 0, pos := "top05x.go:565", after := #[{ on := 17, ground := Ground.guard }], guard := some (17, false) }) (v := ?_) rfl (by kernel_rfl) (by kernel_rfl) (by kernel_rfl) (fun _ _ _ h => h) (Or.inl ⟨by rfl, ?_⟩) hHeld ?_
  rotate_left
  · (intro w hSw; (try dsimp only at hSw); go_simp; try with_reducible rfl)
  simp only [Act.put, List.setIfInBounds_toArray, List.set_cons_zero, List.set_cons_succ]
  refine wpAnyH_take (i := 20) (oi := { dst := some 291, op := Op.load 3 (Operand.tmp 290), type := 3, pos := "top05x.go:565", after := #[{ on := 19, ground := Ground.data }, { on := 17, ground := Ground.guard }], guard := some (17, false) }) (v := ?_) rfl (by kernel_rfl) (by kernel_rfl) (by kernel_rfl) (fun _ _ _ h => h) (Or.inl ⟨by rfl, ?_⟩) hHeld ?_
  rotate_left
  · (intro w hSw; (try dsimp only at hSw); go_simp; try with_reducible rfl)
  simp only [Act.put, List.setIfInBounds_toArray, List.set_cons_zero, List.set_cons_succ]
  refine wpAnyH_take (i := 21) (oi := { dst := some 292, op := Op.indexAddr 40 (Operand.tmp 20) (Operand.const (Value.int IntKind.i64 0)), type := 0, pos := "top05x.go:565", after := #[{ on := 17, ground := Ground.guard }], guard := some (17, false) }) (v := ?_) rfl (by kernel_rfl) (by kernel_rfl) (by kernel_rfl) (fun _ _ _ h => h) (Or.inl ⟨by rfl, ?_⟩) hHeld ?_
  rotate_left
  · (intro w hSw; (try dsimp only at hSw); go_simp; try with_reducible rfl)
  simp only [Act.put, List.setIfInBounds_toArray, List.set_cons_zero, List.set_cons_succ]
  refine wpAnyH_take (i := 22) (oi := { dst := some 293, op := Op.load 5 (Operand.tmp 292), type := 5, pos := "top05x.go:565", after := #[{ on := 21, ground := Ground.data }, { on := 17, ground := Ground.guard }], guard := some (17, false) }) (v := ?_) rfl (by kernel_rfl) (by kernel_rfl) (by kernel_rfl) (fun _ _ _ h => h) (Or.inl ⟨by rfl, ?_⟩) hHeld ?_
  rotate_left
  · (intro w hSw; (try dsimp only at hSw); go_simp; try with_reducible rfl)
  simp only [Act.put, List.setIfInBounds_toArray, List.set_cons_zero, List.set_cons_succ]
  refine wpAnyH_take (i := 23) (oi := { dst := some 294, op := Op.convert 5 3 (Operand.tmp 293), type := 3, pos := "top05x.go:565", after := #[{ on := 22, ground := Ground.data }, { on := 17, ground := Ground.guard }], guard := some (17, false) }) (v := ?_) rfl (by kernel_rfl) (by kernel_rfl) (by kernel_rfl) (fun _ _ _ h => h) (Or.inl ⟨by rfl, ?_⟩) hHeld ?_
  rotate_left
  · (intro w hSw; (try dsimp only at hSw); go_simp; try with_reducible rfl)
  simp only [Act.put, List.setIfInBounds_toArray, List.set_cons_zero, List.set_cons_succ]
  refine wpAnyH_take (i := 24) (oi := { dst := some 295, op := Op.build 45 #[(0, Operand.tmp 291), (1, Operand.const (Value.int IntKind.i64 0)), (2, Operand.tmp 294)], type := 45, pos := "top05x.go:565", after := #[{ on := 20, ground := Ground.data }, { on := 23, ground := Ground.data }, { on := 17, ground := Ground.guard }], guard := some (17, false) }) (v := ?_) rfl (by kernel_rfl) (by kernel_rfl) (by kernel_rfl) (fun _ _ _ h => h) (Or.inl ⟨by rfl, ?_⟩) hHeld ?_
  rotate_left
  · (intro w hSw; (try dsimp only at hSw); go_simp; try with_reducible rfl)
  simp only [Act.put, List.setIfInBounds_toArray, List.set_cons_zero, List.set_cons_succ]
  refine wpAnyH_take (i := 25) (oi := { dst := some 296, op := Op.lookup 33 (Operand.tmp 289) (Operand.tmp 295) false, type := 4, pos := "top05x.go:565", after := #[{ on := 18, ground := Ground.data }, { on := 24, ground := Ground.data }, { on := 17, ground := Ground.guard }], guard := some (17, false) }) (v := ?_) rfl (by kernel_rfl) (by kernel_rfl) (by kernel_rfl) (fun _ _ _ h => h) (Or.inl ⟨by rfl, ?_⟩) hHeld ?_
  rotate_left
  · (intro w hSw; (try dsimp only at hSw); go_simp; try with_reducible rfl)
  simp only [Act.put, List.setIfInBounds_toArray, List.set_cons_zero, List.set_cons_succ]
  refine wpAnyH_take (i := 26) (oi := { dst := some 297, op := Op.pick (Operand.tmp 288) (Operand.const (Value.bool true)) (Operand.tmp 296), type := 4, pos := "top05x.go:565", after := #[{ on := 17, ground := Ground.data }, { on := 25, ground := Ground.data }], guard := none }) (v := ?_) rfl (by kernel_rfl) (by kernel_rfl) (by kernel_rfl) (fun _ _ _ h => h) (Or.inl ⟨by rfl, ?_⟩) hHeld ?_
  rotate_left
  · (intro w hSw; (try dsimp only at hSw); go_simp; try with_reducible rfl)
  simp only [Act.put, List.setIfInBounds_toArray, List.set_cons_zero, List.set_cons_succ]
  refine wpAnyH_take (i := 27) (oi := { dst := some 298, op := Op.binOp BinOp.neq 4 (Operand.tmp 277) (Operand.tmp 297) 4, type := 4, pos := "top05x.go:565", after := #[{ on := 6, ground := Ground.data }, { on := 26, ground := Ground.data }], guard := none }) (v := ?_) rfl (by kernel_rfl) (by kernel_rfl) (by kernel_rfl) (fun _ _ _ h => h) (Or.inl ⟨by rfl, ?_⟩) hHeld ?_
  rotate_left
  · (intro w hSw; (try dsimp only at hSw); go_simp; try with_reducible rfl)
  simp only [Act.put, List.setIfInBounds_toArray, List.set_cons_zero, List.set_cons_succ]
  refine wpAnyH_take (i := 28) (oi := { dst := some 299, op := Op.move (Operand.tmp 298), type := 4, pos := "top05x.go:565", after := #[{ on := 27, ground := Ground.data }, { on := 17, ground := Ground.chain }], guard := none }) (v := ?_) rfl (by kernel_rfl) (by kernel_rfl) (by kernel_rfl) (fun _ _ _ h => h) (Or.inl ⟨by rfl, ?_⟩) hHeld ?_
  rotate_left
  · (intro w hSw; (try dsimp only at hSw); go_simp; try with_reducible rfl)
  simp only [Act.put, List.setIfInBounds_toArray, List.set_cons_zero, List.set_cons_succ]
  refine wpAnyH_take (i := 29) (oi := { dst := some 300, op := Op.move (Operand.tmp 6), type := 30, pos := "top05x.go:565", after := #[{ on := 28, ground := Ground.guard }], guard := some (28, false) }) (v := ?_) rfl (by kernel_rfl) (by kernel_rfl) (by kernel_rfl) (fun _ _ _ h => h) (Or.inl ⟨by rfl, ?_⟩) hHeld ?_
  rotate_left
  · (intro w hSw; (try dsimp only at hSw); go_simp; try with_reducible rfl)
  simp only [Act.put, List.setIfInBounds_toArray, List.set_cons_zero, List.set_cons_succ]
  refine wpAnyH_take (i := 31) (oi := { dst := some 302, op := Op.move (Operand.tmp 10), type := 33, pos := "top05x.go:565", after := #[{ on := 28, ground := Ground.guard }], guard := some (28, false) }) (v := ?_) rfl (by kernel_rfl) (by kernel_rfl) (by kernel_rfl) (fun _ _ _ h => h) (Or.inl ⟨by rfl, ?_⟩) hHeld ?_
  rotate_left
  · (intro w hSw; (try dsimp only at hSw); go_simp; try with_reducible rfl)
  simp only [Act.put, List.setIfInBounds_toArray, List.set_cons_zero, List.set_cons_succ]
  refine wpAnyH_ready (rs := [30]) (by kernel_rfl) (by simp) ?_
  refine AllReadyH.cons (o := { dst := some 301, op := Op.call { callee := Callee.value (Operand.func 15), args := #[Operand.tmp 300], argTypes := #[30] }, type := 3, pos := "top05x.go:565", after := #[{ on := 29, ground := Ground.data }, { on := 28, ground := Ground.chain }, { on := 28, ground := Ground.guard }], guard := some (28, false) }) rfl (fun K hK => ?_) AllReadyH.nil
  go_simp
  with_reducible refine (len15 hl).mono ?_
  rintro e w3 ⟨rfl, rfl⟩
  refine hK.out _ _ ?_ (fun hHeld => ?_)
  · exact Mk2.out _ hl hkp
  clear hK K
  (try simp only [Act.put, List.setIfInBounds_toArray, List.set_cons_zero, List.set_cons_succ])
  refine wpAnyH_take (i := 32) (oi := { dst := some 303, op := Op.call { callee := Callee.builtin Builtin.len, args := #[Operand.tmp 302], argTypes := #[33] }, type := 3, pos := "top05x.go:565", after := #[{ on := 31, ground := Ground.data }, { on := 30, ground := Ground.chain }, { on := 28, ground := Ground.guard }], guard := some (28, false) }) (v := ?_) rfl (by kernel_rfl) (by kernel_rfl) (by kernel_rfl) (fun _ _ _ h => h) (Or.inl ⟨by rfl, ?_⟩) hHeld ?_
  rotate_left
  · (intro w hSw; (try dsimp only at hSw); go_simp; try with_reducible rfl)
  simp only [Act.put, List.setIfInBounds_toArray, List.set_cons_zero, List.set_cons_succ]
  refine wpAnyH_take (i := 33) (oi := { dst := some 304, op := Op.binOp BinOp.neq 3 (Operand.tmp 301) (Operand.tmp 303) 3, type := 4, pos := "top05x.go:565", after := #[{ on := 30, ground := Ground.data }, { on := 32, ground := Ground.data }, { on := 28, ground := Ground.guard }], guard := some (28, false) }) (v := ?_) rfl (by kernel_rfl) (by kernel_rfl) (by kernel_rfl) (fun _ _ _ h => h) (Or.inl ⟨by rfl, ?_⟩) hHeld ?_
  rotate_left
  · (intro w hSw; (try dsimp only at hSw); go_simp; try with_reducible rfl)
  simp only [Act.put, List.setIfInBounds_toArray, List.set_cons_zero, List.set_cons_succ]
  refine wpAnyH_take (i := 34) (oi := { dst := some 305, op := Op.pick (Operand.tmp 299) (Operand.const (Value.bool true)) (Operand.tmp 304), type := 4, pos := "top05x.go:565", after := #[{ on := 28, ground := Ground.data }, { on := 33, ground := Ground.data }], guard := none }) (v := ?_) rfl (by kernel_rfl) (by kernel_rfl) (by kernel_rfl) (fun _ _ _ h => h) (Or.inl ⟨by rfl, ?_⟩) hHeld ?_
  rotate_left
  · (intro w hSw; (try dsimp only at hSw); go_simp; try with_reducible rfl)
  simp only [Act.put, List.setIfInBounds_toArray, List.set_cons_zero, List.set_cons_succ]
  refine wpAnyH_take (i := 35) (oi := { dst := some 306, op := Op.move (Operand.tmp 305), type := 4, pos := "top05x.go:565", after := #[{ on := 34, ground := Ground.data }, { on := 32, ground := Ground.chain }], guard := none }) (v := ?_) rfl (by kernel_rfl) (by kernel_rfl) (by kernel_rfl) (fun _ _ _ h => h) (Or.inl ⟨by rfl, ?_⟩) hHeld ?_
  rotate_left
  · (intro w hSw; (try dsimp only at hSw); go_simp; try with_reducible rfl)
  simp only [Act.put, List.setIfInBounds_toArray, List.set_cons_zero, List.set_cons_succ]
  refine wpAnyH_take (i := 36) (oi := { dst := some 307, op := Op.move (Operand.tmp 6), type := 30, pos := "top05x.go:565", after := #[{ on := 35, ground := Ground.guard }], guard := some (35, false) }) (v := ?_) rfl (by kernel_rfl) (by kernel_rfl) (by kernel_rfl) (fun _ _ _ h => h) (Or.inl ⟨by rfl, ?_⟩) hHeld ?_
  rotate_left
  · (intro w hSw; (try dsimp only at hSw); go_simp; try with_reducible rfl)
  simp only [Act.put, List.setIfInBounds_toArray, List.set_cons_zero, List.set_cons_succ]
  refine wpAnyH_take (i := 38) (oi := { dst := some 309, op := Op.move (Operand.tmp 12), type := 3, pos := "top05x.go:565", after := #[{ on := 35, ground := Ground.guard }], guard := some (35, false) }) (v := ?_) rfl (by kernel_rfl) (by kernel_rfl) (by kernel_rfl) (fun _ _ _ h => h) (Or.inl ⟨by rfl, ?_⟩) hHeld ?_
  rotate_left
  · (intro w hSw; (try dsimp only at hSw); go_simp; try with_reducible rfl)
  simp only [Act.put, List.setIfInBounds_toArray, List.set_cons_zero, List.set_cons_succ]
  refine wpAnyH_ready (rs := [37]) (by kernel_rfl) (by simp) ?_
  refine AllReadyH.cons (o := { dst := some 308, op := Op.call { callee := Callee.value (Operand.func 16), args := #[Operand.tmp 307], argTypes := #[30] }, type := 3, pos := "top05x.go:565", after := #[{ on := 36, ground := Ground.data }, { on := 35, ground := Ground.chain }, { on := 35, ground := Ground.guard }], guard := some (35, false) }) rfl (fun K hK => ?_) AllReadyH.nil
  go_simp
  with_reducible refine (asked16 hl).mono ?_
  rintro e w4 ⟨rfl, rfl⟩
  refine hK.out _ _ ?_ (fun hHeld => ?_)
  · exact Mk2.out _ hl hkp
  clear hK K
  (try simp only [Act.put, List.setIfInBounds_toArray, List.set_cons_zero, List.set_cons_succ])
  refine wpAnyH_take (i := 39) (oi := { dst := some 310, op := Op.binOp BinOp.neq 3 (Operand.tmp 308) (Operand.tmp 309) 3, type := 4, pos := "top05x.go:565", after := #[{ on := 37, ground := Ground.data }, { on := 38, ground := Ground.data }, { on := 35, ground := Ground.guard }], guard := some (35, false) }) (v := ?_) rfl (by kernel_rfl) (by kernel_rfl) (by kernel_rfl) (fun _ _ _ h => h) (Or.inl ⟨by rfl, ?_⟩) hHeld ?_
  rotate_left
  · (intro w hSw; (try dsimp only at hSw); go_simp; try with_reducible rfl)
  simp only [Act.put, List.setIfInBounds_toArray, List.set_cons_zero, List.set_cons_succ]
  refine wpAnyH_take (i := 40) (oi := { dst := some 311, op := Op.pick (Operand.tmp 306) (Operand.const (Value.bool true)) (Operand.tmp 310), type := 4, pos := "top05x.go:565", after := #[{ on := 35, ground := Ground.data }, { on := 39, ground := Ground.data }], guard := none }) (v := ?_) rfl (by kernel_rfl) (by kernel_rfl) (by kernel_rfl) (fun _ _ _ h => h) (Or.inl ⟨by rfl, ?_⟩) hHeld ?_
  rotate_left
  · (intro w hSw; (try dsimp only at hSw); go_simp; try with_reducible rfl)
  simp only [Act.put, List.setIfInBounds_toArray, List.set_cons_zero, List.set_cons_succ]
  refine wpAnyH_done (by kernel_rfl) ?_ _
  go_wp2_with fail
  exact ⟨(fr_cons rfl (fr_cons rfl (fr_cons rfl (fr_cons rfl (fr_cons rfl (fr_cons rfl (fr_cons rfl (fr_cons rfl (fr_cons rfl (fr_cons rfl (fr_cons rfl (fr_nil rfl)))))))))))), (Step2.out _ hl hkp).1, (Step2.out _ hl hkp).2⟩

set_option maxRecDepth 100000 in
set_option maxHeartbeats 4000000 in
/-- The ledger is asked. -/
theorem tail1n {a : Act} (w0 w : World) (F : Four) (bx be bg bd k : Nat) (S : St) (A1 : Option Addr) (c1 : Nat) (A2 : Option Addr) (c2 n n2 m : Nat) (sl : Value) (x : Note5) (hfr : Fr 425 a [(0, sl), (5, .pointer (some ⟨F.b, 0, none⟩)), (6, .pointer (some ⟨F.t, 0, none⟩)), (7, .slice A2 m c2), (8, .int .i64 S.s), (9, .int .i64 S.l), (10, .map (some F.N)), (11, .func (.func 7) #[] #[]), (12, .int .i64 ((k + 1 : Nat) : Int)), (13, .int .i64 k), (14, .pointer (some ⟨bx, 0, none⟩)), (15, .pointer (some ⟨be, 0, none⟩)), (20, .pointer (some ⟨bd, 0, none⟩))])
    (hinv : Inv w0 F w A1 c1 S.L S.s S.l A2 c2 S.L n S.T k n2 S.T) (hloc : Loc F A1 A2 w bx be bg bd x k) (hk : k < 40) (h1 : decide ((⟨x.f, x.t, x.d⟩ : Tg) ∈ S.T) = false) (h2 : decide ((⟨x.f, 0, x.d⟩ : Tg) ∈ S.T) = false)  :
    (part [1, 1, 1, 1, 1, 1, 1, 1, 1, 1, 0] cB).wp Try.prog (Only fun a' w' => Fr 425 a' [(0, sl), (5, .pointer (some ⟨F.b, 0, none⟩)), (6, .pointer (some ⟨F.t, 0, none⟩)), (7, .slice A2 m c2), (8, .int .i64 S.s), (9, .int .i64 S.l), (10, .map (some F.N)), (11, .func (.func 7) #[] #[]), (12, .int .i64 ((k + 1 : Nat) : Int)), (13, .int .i64 k), (14, .pointer (some ⟨bx, 0, none⟩))] ∧ Inv w0 F w' A1 c1 S.L S.s S.l A2 c2 S.L n S.T (k + 1) n2 S.T ∧ Loc F A1 A2 w' bx be bg bd x k) a w := by
  obtain ⟨t, rfl⟩ := hfr.lit
  change Code.wp _ _ _ ⟨#[sl, t 1, t 2, t 3, t 4, .pointer (some ⟨F.b, 0, none⟩), .pointer (some ⟨F.t, 0, none⟩), .slice A2 m c2, .int .i64 S.s, .int .i64 S.l, .map (some F.N), .func (.func 7) #[] #[], .int .i64 ((k + 1 : Nat) : Int), .int .i64 k, .pointer (some ⟨bx, 0, none⟩), .pointer (some ⟨be, 0, none⟩), t 16, t 17, t 18, t 19, .pointer (some ⟨bd, 0, none⟩), t 21, t 22, t 23, t 24, t 25, t 26, t 27, t 28, t 29, t 30, t 31, t 32, t 33, t 34, t 35, t 36, t 37, t 38, t 39, t 40, t 41, t 42, t 43, t 44, t 45, t 46, t 47, t 48, t 49, t 50, t 51, t 52, t 53, t 54, t 55, t 56, t 57, t 58, t 59, t 60, t 61, t 62, t 63, t 64, t 65, t 66, t 67, t 68, t 69, t 70, t 71, t 72, t 73, t 74, t 75, t 76, t 77, t 78, t 79, t 80, t 81, t 82, t 83, t 84, t 85, t 86, t 87, t 88, t 89, t 90, t 91, t 92, t 93, t 94, t 95, t 96, t 97, t 98, t 99, t 100, t 101, t 102, t 103, t 104, t 105, t 106, t 107, t 108, t 109, t 110, t 111, t 112, t 113, t 114, t 115, t 116, t 117, t 118, t 119, t 120, t 121, t 122, t 123, t 124, t 125, t 126, t 127, t 128, t 129, t 130, t 131, t 132, t 133, t 134, t 135, t 136, t 137, t 138, t 139, t 140, t 141, t 142, t 143, t 144, t 145, t 146, t 147, t 148, t 149, t 150, t 151, t 152, t 153, t 154, t 155, t 156, t 157, t 158, t 159, t 160, t 161, t 162, t 163, t 164, t 165, t 166, t 167, t 168, t 169, t 170, t 171, t 172, t 173, t 174, t 175, t 176, t 177, t 178, t 179, t 180, t 181, t 182, t 183, t 184, t 185, t 186, t 187, t 188, t 189, t 190, t 191, t 192, t 193, t 194, t 195, t 196, t 197, t 198, t 199, t 200, t 201, t 202, t 203, t 204, t 205, t 206, t 207, t 208, t 209, t 210, t 211, t 212, t 213, t 214, t 215, t 216, t 217, t 218, t 219, t 220, t 221, t 222, t 223, t 224, t 225, t 226, t 227, t 228, t 229, t 230, t 231, t 232, t 233, t 234, t 235, t 236, t 237, t 238, t 239, t 240, t 241, t 242, t 243, t 244, t 245, t 246, t 247, t 248, t 249, t 250, t 251, t 252, t 253, t 254, t 255, t 256, t 257, t 258, t 259, t 260, t 261, t 262, t 263, t 264, t 265, t 266, t 267, t 268, t 269, t 270, t 271, t 272, t 273, t 274, t 275, t 276, t 277, t 278, t 279, t 280, t 281, t 282, t 283, t 284, t 285, t 286, t 287, t 288, t 289, t 290, t 291, t 292, t 293, t 294, t 295, t 296, t 297, t 298, t 299, t 300, t 301, t 302, t 303, t 304, t 305, t 306, t 307, t 308, t 309, t 310, t 311, t 312, t 313, t 314, t 315, t 316, t 317, t 318, t 319, t 320, t 321, t 322, t 323, t 324, t 325, t 326, t 327, t 328, t 329, t 330, t 331, t 332, t 333, t 334, t 335, t 336, t 337, t 338, t 339, t 340, t 341, t 342, t 343, t 344, t 345, t 346, t 347, t 348, t 349, t 350, t 351, t 352, t 353, t 354, t 355, t 356, t 357, t 358, t 359, t 360, t 361, t 362, t 363, t 364, t 365, t 366, t 367, t 368, t 369, t 370, t 371, t 372, t 373, t 374, t 375, t 376, t 377, t 378, t 379, t 380, t 381, t 382, t 383, t 384, t 385, t 386, t 387, t 388, t 389, t 390, t 391, t 392, t 393, t 394, t 395, t 396, t 397, t 398, t 399, t 400, t 401, t 402, t 403, t 404, t 405, t 406, t 407, t 408, t 409, t 410, t 411, t 412, t 413, t 414, t 415, t 416, t 417, t 418, t 419, t 420, t 421, t 422, t 423, t 424], []⟩ _
  clear hfr
  have hTx : (⟨x.f, x.t, x.d⟩ : Tg).Ok := ⟨by have := x.f_lt; show x.f ≤ 40; omega, by have := x.t_lt; show x.t ≤ 40; omega, x.d_lt⟩
  have hTy : (⟨x.f, 0, x.d⟩ : Tg).Ok := ⟨by have := x.f_lt; show x.f ≤ 40; omega, by show 0 ≤ 40; omega, x.d_lt⟩
  obtain ⟨cs, hcs⟩ : ∃ cs, cs = dig x.d := ⟨_, rfl⟩
  have hu := Try.underlying40
  have hi : (Try.prog.info? 40).map (fun i => i.size) = some cs.length := by rw [Try.size40, hcs]; rfl
  have hcl : cs.length = 32 := by rw [hcs]; rfl
  have hck : Calls Try.prog 14 #[.pointer (some ⟨F.t, 0, none⟩), .int .i64 (x.f : Int), .int .i64 (x.t : Int), .agg cs.toArray] w.drew fun e w' => e = .returned (.bool false) ∧ Led w' F.t F.M n S.T (k + 1) ∧ KeptL F.t F.M w.drew w' := by
    rw [hcs]
    refine (check14 (hinv.led.other (w' := w.drew) fun _ _ => rfl) ⟨x.f, x.t, x.d⟩ hTx (by omega)).mono ?_
    rintro e w' ⟨rfl, r1, r2⟩
    exact ⟨ret_b (by rw [h1, h2]; rfl), r1, r2⟩
  have mk : ∀ w' : World, Inv w0 F w' A1 c1 S.L S.s S.l A2 c2 S.L n S.T (k + 1) n2 S.T ∨ Inv w0 F w' A1 c1 S.L S.s S.l A2 c2 S.L n S.T k n2 S.T → Loc F A1 A2 w' bx be bg bd x k → w'.cell? ⟨be, 0, none⟩ = some (.int .i64 (x.f : Int)) ∧ w'.cell? ⟨be, 1, none⟩ = some (.int .i64 (x.t : Int)) ∧ w'.cell? ⟨bd, 0, none⟩ = some (.int .u8 (x.d : Int)) ∧ w'.rangeAt bd 0 cs ∧ ((Instr.lookup 33 (.map (some F.N)) (.agg #[.int .i64 (x.f : Int), .int .i64 (x.t : Int), .int .i64 (x.d : Int)]) false).run Try.prog w' = .ok (.bool false) w') ∧ ((Instr.lookup 33 (.map (some F.N)) (.agg #[.int .i64 (x.f : Int), .int .i64 0, .int .i64 (x.d : Int)]) false).run Try.prog w' = .ok (.bool false) w') ∧ (Builtin.len_ #[33] 3 #[.map (some F.N)]).run Try.prog w' = .ok (.int .i64 S.T.length) w' := by
    intro w' hi' hl'
    have htg : Tgs w' F.N n2 S.T := by rcases hi' with h | h <;> exact h.tags
    obtain ⟨q0, q1, -, -, -, -, -, -⟩ := hl'.cells
    have l1 := htg.look hTx
    have l2 := htg.look hTy
    rw [h1] at l1; rw [h2] at l2
    exact ⟨q0, q1, hl'.cd.cells.1, digAt_range hl'.cd hcs, l1, l2, htg.len⟩
  have hturnd : Turn F A1 A2 w A1 A2 w.drew := turn_below ((Below.refl _ w).drew)
  have hinvd := hinv.later ((Below.refl _ w).drew)
  have hlocd := hloc.turn hturnd
  have k0 := mk w.drew (.inr hinvd) hlocd
  have step2 : ∀ w' : World, Led w' F.t F.M n S.T (k + 1) → KeptL F.t F.M w.drew w' → Inv w0 F w' A1 c1 S.L S.s S.l A2 c2 S.L n S.T (k + 1) n2 S.T ∧ Loc F A1 A2 w' bx be bg bd x k := fun w' h1 h2 =>
    ⟨(hinvd.ledT h1 h2).1, hlocd.turn (hinvd.ledT h1 h2).2⟩
  have mk2 : ∀ w' : World, Led w' F.t F.M n S.T (k + 1) → KeptL F.t F.M w.drew w' → w'.cell? ⟨be, 0, none⟩ = some (.int .i64 (x.f : Int)) ∧ w'.cell? ⟨be, 1, none⟩ = some (.int .i64 (x.t : Int)) ∧ w'.cell? ⟨bd, 0, none⟩ = some (.int .u8 (x.d : Int)) ∧ w'.rangeAt bd 0 cs ∧ ((Instr.lookup 33 (.map (some F.N)) (.agg #[.int .i64 (x.f : Int), .int .i64 (x.t : Int), .int .i64 (x.d : Int)]) false).run Try.prog w' = .ok (.bool false) w') ∧ ((Instr.lookup 33 (.map (some F.N)) (.agg #[.int .i64 (x.f : Int), .int .i64 0, .int .i64 (x.d : Int)]) false).run Try.prog w' = .ok (.bool false) w') ∧ (Builtin.len_ #[33] 3 #[.map (some F.N)]).run Try.prog w' = .ok (.int .i64 S.T.length) w' := fun w' h1 h2 => mk w' (.inl (step2 w' h1 h2).1) (step2 w' h1 h2).2
  have Hck := Lib.hid hck
  have Mk2 := Lib.hid mk2
  have Step2 := Lib.hid step2
  have zd := x.d_lt
  have hwd : IntKind.i64.wrap (x.d : Int) = (x.d : Int) := by rw [IntKind.wrap_i64]; omega
  have hwk : IntKind.i64.wrap ((k : Int) + 1) = (k : Int) + 1 := by rw [IntKind.wrap_i64]; omega
  clear hck mk mk2 step2 hinvd hlocd hturnd hinv hloc hTx hTy hcs
  clear h1
  clear h2
  conv => arg 2; whnf
  go_wp2_with fail
  refine wp_region_held_drew (S := (fun w' => w'.cell? ⟨be, 0, none⟩ = some (.int .i64 (x.f : Int)) ∧ w'.cell? ⟨be, 1, none⟩ = some (.int .i64 (x.t : Int)) ∧ w'.cell? ⟨bd, 0, none⟩ = some (.int .u8 (x.d : Int)) ∧ w'.rangeAt bd 0 cs ∧ ((Instr.lookup 33 (.map (some F.N)) (.agg #[.int .i64 (x.f : Int), .int .i64 (x.t : Int), .int .i64 (x.d : Int)]) false).run Try.prog w' = .ok (.bool false) w') ∧ ((Instr.lookup 33 (.map (some F.N)) (.agg #[.int .i64 (x.f : Int), .int .i64 0, .int .i64 (x.d : Int)]) false).run Try.prog w' = .ok (.bool false) w') ∧ (Builtin.len_ #[33] 3 #[.map (some F.N)]).run Try.prog w' = .ok (.int .i64 S.T.length) w')) (by kernel_rfl) k0 (fun hHeld => ?_)
  refine wpAnyH_take (i := 0) (oi := { dst := some 271, op := Op.move (Operand.tmp 6), type := 30, pos := "top05x.go:565", after := #[], guard := none }) (v := ?_) rfl (by kernel_rfl) (by kernel_rfl) (by kernel_rfl) (fun _ _ _ h => h) (Or.inl ⟨by rfl, ?_⟩) hHeld ?_
  rotate_left
  · (intro w hSw; (try dsimp only at hSw); go_simp; try with_reducible rfl)
  simp only [Act.put, List.setIfInBounds_toArray, List.set_cons_zero, List.set_cons_succ]
  refine wpAnyH_take (i := 1) (oi := { dst := some 272, op := Op.fieldAddr 36 (Operand.tmp 15) 0, type := 0, pos := "top05x.go:565", after := #[], guard := none }) (v := ?_) rfl (by kernel_rfl) (by kernel_rfl) (by kernel_rfl) (fun _ _ _ h => h) (Or.inl ⟨by rfl, ?_⟩) hHeld ?_
  rotate_left
  · (intro w hSw; (try dsimp only at hSw); go_simp; try with_reducible rfl)
  simp only [Act.put, List.setIfInBounds_toArray, List.set_cons_zero, List.set_cons_succ]
  refine wpAnyH_take (i := 2) (oi := { dst := some 273, op := Op.load 3 (Operand.tmp 272), type := 3, pos := "top05x.go:565", after := #[{ on := 1, ground := Ground.data }], guard := none }) (v := ?_) rfl (by kernel_rfl) (by kernel_rfl) (by kernel_rfl) (fun _ _ _ h => h) (Or.inl ⟨by rfl, ?_⟩) hHeld ?_
  rotate_left
  · (intro w hSw; (try dsimp only at hSw); go_simp; try with_reducible rfl)
  simp only [Act.put, List.setIfInBounds_toArray, List.set_cons_zero, List.set_cons_succ]
  refine wpAnyH_take (i := 3) (oi := { dst := some 274, op := Op.fieldAddr 36 (Operand.tmp 15) 1, type := 0, pos := "top05x.go:565", after := #[], guard := none }) (v := ?_) rfl (by kernel_rfl) (by kernel_rfl) (by kernel_rfl) (fun _ _ _ h => h) (Or.inl ⟨by rfl, ?_⟩) hHeld ?_
  rotate_left
  · (intro w hSw; (try dsimp only at hSw); go_simp; try with_reducible rfl)
  simp only [Act.put, List.setIfInBounds_toArray, List.set_cons_zero, List.set_cons_succ]
  refine wpAnyH_take (i := 4) (oi := { dst := some 275, op := Op.load 3 (Operand.tmp 274), type := 3, pos := "top05x.go:565", after := #[{ on := 3, ground := Ground.data }], guard := none }) (v := ?_) rfl (by kernel_rfl) (by kernel_rfl) (by kernel_rfl) (fun _ _ _ h => h) (Or.inl ⟨by rfl, ?_⟩) hHeld ?_
  rotate_left
  · (intro w hSw; (try dsimp only at hSw); go_simp; try with_reducible rfl)
  simp only [Act.put, List.setIfInBounds_toArray, List.set_cons_zero, List.set_cons_succ]
  refine' wpAnyH_take (i := 5) (oi := { dst := some 276, op := Op.load 40 (Operand.tmp 20), type := 40, pos := "top05x.go:565", after := #[], guard := none }) (v := _) rfl (by kernel_rfl) (by kernel_rfl) (by kernel_rfl) (fun _ _ _ h => h) (yieldsIf_load_mid (by rfl) _ _ rfl _ _ rfl cs _ ?hS hu rfl hi) hHeld ?rest
  case hS => (intro w hSw; (try dsimp only at hSw); go_split_ands; assumption)
  simp only [Act.put, List.setIfInBounds_toArray, List.set_cons_zero, List.set_cons_succ]
  refine wpAnyH_take (i := 7) (oi := { dst := some 278, op := Op.move (Operand.tmp 10), type := 33, pos := "top05x.go:565", after := #[], guard := none }) (v := ?_) rfl (by kernel_rfl) (by kernel_rfl) (by kernel_rfl) (fun _ _ _ h => h) (Or.inl ⟨by rfl, ?_⟩) hHeld ?_
  rotate_left
  · (intro w hSw; (try dsimp only at hSw); go_simp; try with_reducible rfl)
  simp only [Act.put, List.setIfInBounds_toArray, List.set_cons_zero, List.set_cons_succ]
  refine wpAnyH_take (i := 8) (oi := { dst := some 279, op := Op.fieldAddr 36 (Operand.tmp 15) 0, type := 0, pos := "top05x.go:565", after := #[], guard := none }) (v := ?_) rfl (by kernel_rfl) (by kernel_rfl) (by kernel_rfl) (fun _ _ _ h => h) (Or.inl ⟨by rfl, ?_⟩) hHeld ?_
  rotate_left
  · (intro w hSw; (try dsimp only at hSw); go_simp; try with_reducible rfl)
  simp only [Act.put, List.setIfInBounds_toArray, List.set_cons_zero, List.set_cons_succ]
  refine wpAnyH_take (i := 9) (oi := { dst := some 280, op := Op.load 3 (Operand.tmp 279), type := 3, pos := "top05x.go:565", after := #[{ on := 8, ground := Ground.data }], guard := none }) (v := ?_) rfl (by kernel_rfl) (by kernel_rfl) (by kernel_rfl) (fun _ _ _ h => h) (Or.inl ⟨by rfl, ?_⟩) hHeld ?_
  rotate_left
  · (intro w hSw; (try dsimp only at hSw); go_simp; try with_reducible rfl)
  simp only [Act.put, List.setIfInBounds_toArray, List.set_cons_zero, List.set_cons_succ]
  refine wpAnyH_take (i := 10) (oi := { dst := some 281, op := Op.fieldAddr 36 (Operand.tmp 15) 1, type := 0, pos := "top05x.go:565", after := #[], guard := none }) (v := ?_) rfl (by kernel_rfl) (by kernel_rfl) (by kernel_rfl) (fun _ _ _ h => h) (Or.inl ⟨by rfl, ?_⟩) hHeld ?_
  rotate_left
  · (intro w hSw; (try dsimp only at hSw); go_simp; try with_reducible rfl)
  simp only [Act.put, List.setIfInBounds_toArray, List.set_cons_zero, List.set_cons_succ]
  refine wpAnyH_take (i := 11) (oi := { dst := some 282, op := Op.load 3 (Operand.tmp 281), type := 3, pos := "top05x.go:565", after := #[{ on := 10, ground := Ground.data }], guard := none }) (v := ?_) rfl (by kernel_rfl) (by kernel_rfl) (by kernel_rfl) (fun _ _ _ h => h) (Or.inl ⟨by rfl, ?_⟩) hHeld ?_
  rotate_left
  · (intro w hSw; (try dsimp only at hSw); go_simp; try with_reducible rfl)
  simp only [Act.put, List.setIfInBounds_toArray, List.set_cons_zero, List.set_cons_succ]
  refine wpAnyH_take (i := 12) (oi := { dst := some 283, op := Op.indexAddr 40 (Operand.tmp 20) (Operand.const (Value.int IntKind.i64 0)), type := 0, pos := "top05x.go:565", after := #[], guard := none }) (v := ?_) rfl (by kernel_rfl) (by kernel_rfl) (by kernel_rfl) (fun _ _ _ h => h) (Or.inl ⟨by rfl, ?_⟩) hHeld ?_
  rotate_left
  · (intro w hSw; (try dsimp only at hSw); go_simp; try with_reducible rfl)
  simp only [Act.put, List.setIfInBounds_toArray, List.set_cons_zero, List.set_cons_succ]
  refine wpAnyH_take (i := 13) (oi := { dst := some 284, op := Op.load 5 (Operand.tmp 283), type := 5, pos := "top05x.go:565", after := #[{ on := 12, ground := Ground.data }], guard := none }) (v := ?_) rfl (by kernel_rfl) (by kernel_rfl) (by kernel_rfl) (fun _ _ _ h => h) (Or.inl ⟨by rfl, ?_⟩) hHeld ?_
  rotate_left
  · (intro w hSw; (try dsimp only at hSw); go_simp; try with_reducible rfl)
  simp only [Act.put, List.setIfInBounds_toArray, List.set_cons_zero, List.set_cons_succ]
  refine wpAnyH_take (i := 14) (oi := { dst := some 285, op := Op.convert 5 3 (Operand.tmp 284), type := 3, pos := "top05x.go:565", after := #[{ on := 13, ground := Ground.data }], guard := none }) (v := ?_) rfl (by kernel_rfl) (by kernel_rfl) (by kernel_rfl) (fun _ _ _ h => h) (Or.inl ⟨by rfl, ?_⟩) hHeld ?_
  rotate_left
  · (intro w hSw; (try dsimp only at hSw); go_simp; try with_reducible rfl)
  simp only [Act.put, List.setIfInBounds_toArray, List.set_cons_zero, List.set_cons_succ]
  refine wpAnyH_take (i := 15) (oi := { dst := some 286, op := Op.build 45 #[(0, Operand.tmp 280), (1, Operand.tmp 282), (2, Operand.tmp 285)], type := 45, pos := "top05x.go:565", after := #[{ on := 9, ground := Ground.data }, { on := 11, ground := Ground.data }, { on := 14, ground := Ground.data }], guard := none }) (v := ?_) rfl (by kernel_rfl) (by kernel_rfl) (by kernel_rfl) (fun _ _ _ h => h) (Or.inl ⟨by rfl, ?_⟩) hHeld ?_
  rotate_left
  · (intro w hSw; (try dsimp only at hSw); go_simp; try with_reducible rfl)
  simp only [Act.put, List.setIfInBounds_toArray, List.set_cons_zero, List.set_cons_succ]
  refine wpAnyH_take (i := 16) (oi := { dst := some 287, op := Op.lookup 33 (Operand.tmp 278) (Operand.tmp 286) false, type := 4, pos := "top05x.go:565", after := #[{ on := 7, ground := Ground.data }, { on := 15, ground := Ground.data }], guard := none }) (v := ?_) rfl (by kernel_rfl) (by kernel_rfl) (by kernel_rfl) (fun _ _ _ h => h) (Or.inl ⟨by rfl, ?_⟩) hHeld ?_
  rotate_left
  · (intro w hSw; (try dsimp only at hSw); go_simp; try with_reducible rfl)
  simp only [Act.put, List.setIfInBounds_toArray, List.set_cons_zero, List.set_cons_succ]
  refine wpAnyH_ready (rs := [6]) (by kernel_rfl) (by simp) ?_
  refine AllReadyH.cons (o := { dst := some 277, op := Op.call { callee := Callee.value (Operand.func 14), args := #[Operand.tmp 271, Operand.tmp 273, Operand.tmp 275, Operand.tmp 276], argTypes := #[30, 3, 3, 40] }, type := 4, pos := "top05x.go:565", after := #[{ on := 0, ground := Ground.data }, { on := 2, ground := Ground.data }, { on := 4, ground := Ground.data }, { on := 5, ground := Ground.data }], guard := none }) rfl (fun K hK => ?_) AllReadyH.nil
  go_simp
  with_reducible refine Hck.out.mono ?_
  rintro e w2 ⟨rfl, hl, hkp⟩
  refine hK.out _ _ ?_ (fun hHeld => ?_)
  · exact Mk2.out _ hl hkp
  clear hK K
  (try simp only [Act.put, List.setIfInBounds_toArray, List.set_cons_zero, List.set_cons_succ])
  refine wpAnyH_take (i := 17) (oi := { dst := some 288, op := Op.move (Operand.tmp 287), type := 4, pos := "top05x.go:565", after := #[{ on := 16, ground := Ground.data }, { on := 6, ground := Ground.chain }], guard := none }) (v := ?_) rfl (by kernel_rfl) (by kernel_rfl) (by kernel_rfl) (fun _ _ _ h => h) (Or.inl ⟨by rfl, ?_⟩) hHeld ?_
  rotate_left
  · (intro w hSw; (try dsimp only at hSw); go_simp; try with_reducible rfl)
  simp only [Act.put, List.setIfInBounds_toArray, List.set_cons_zero, List.set_cons_succ]
  refine wpAnyH_take (i := 18) (oi := { dst := some 289, op := Op.move (Operand.tmp 10), type := 33, pos := "top05x.go:565", after := #[{ on := 17, ground := Ground.guard }], guard := some (17, false) }) (v := ?_) rfl (by kernel_rfl) (by kernel_rfl) (by kernel_rfl) (fun _ _ _ h => h) (Or.inl ⟨by rfl, ?_⟩) hHeld ?_
  rotate_left
  · (intro w hSw; (try dsimp only at hSw); go_simp; try with_reducible rfl)
  simp only [Act.put, List.setIfInBounds_toArray, List.set_cons_zero, List.set_cons_succ]
  refine wpAnyH_take (i := 19) (oi := { dst := some 290, op := Op.fieldAddr 36 (Operand.tmp 15) 0, type := 0, pos := "top05x.go:565", after := #[{ on := 17, ground := Ground.guard }], guard := some (17, false) }) (v := ?_) rfl (by kernel_rfl) (by kernel_rfl) (by kernel_rfl) (fun _ _ _ h => h) (Or.inl ⟨by rfl, ?_⟩) hHeld ?_
  rotate_left
  · (intro w hSw; (try dsimp only at hSw); go_simp; try with_reducible rfl)
  simp only [Act.put, List.setIfInBounds_toArray, List.set_cons_zero, List.set_cons_succ]
  refine wpAnyH_take (i := 20) (oi := { dst := some 291, op := Op.load 3 (Operand.tmp 290), type := 3, pos := "top05x.go:565", after := #[{ on := 19, ground := Ground.data }, { on := 17, ground := Ground.guard }], guard := some (17, false) }) (v := ?_) rfl (by kernel_rfl) (by kernel_rfl) (by kernel_rfl) (fun _ _ _ h => h) (Or.inl ⟨by rfl, ?_⟩) hHeld ?_
  rotate_left
  · (intro w hSw; (try dsimp only at hSw); go_simp; try with_reducible rfl)
  simp only [Act.put, List.setIfInBounds_toArray, List.set_cons_zero, List.set_cons_succ]
  refine wpAnyH_take (i := 21) (oi := { dst := some 292, op := Op.indexAddr 40 (Operand.tmp 20) (Operand.const (Value.int IntKind.i64 0)), type := 0, pos := "top05x.go:565", after := #[{ on := 17, ground := Ground.guard }], guard := some (17, false) }) (v := ?_) rfl (by kernel_rfl) (by kernel_rfl) (by kernel_rfl) (fun _ _ _ h => h) (Or.inl ⟨by rfl, ?_⟩) hHeld ?_
  rotate_left
  · (intro w hSw; (try dsimp only at hSw); go_simp; try with_reducible rfl)
  simp only [Act.put, List.setIfInBounds_toArray, List.set_cons_zero, List.set_cons_succ]
  refine wpAnyH_take (i := 22) (oi := { dst := some 293, op := Op.load 5 (Operand.tmp 292), type := 5, pos := "top05x.go:565", after := #[{ on := 21, ground := Ground.data }, { on := 17, ground := Ground.guard }], guard := some (17, false) }) (v := ?_) rfl (by kernel_rfl) (by kernel_rfl) (by kernel_rfl) (fun _ _ _ h => h) (Or.inl ⟨by rfl, ?_⟩) hHeld ?_
  rotate_left
  · (intro w hSw; (try dsimp only at hSw); go_simp; try with_reducible rfl)
  simp only [Act.put, List.setIfInBounds_toArray, List.set_cons_zero, List.set_cons_succ]
  refine wpAnyH_take (i := 23) (oi := { dst := some 294, op := Op.convert 5 3 (Operand.tmp 293), type := 3, pos := "top05x.go:565", after := #[{ on := 22, ground := Ground.data }, { on := 17, ground := Ground.guard }], guard := some (17, false) }) (v := ?_) rfl (by kernel_rfl) (by kernel_rfl) (by kernel_rfl) (fun _ _ _ h => h) (Or.inl ⟨by rfl, ?_⟩) hHeld ?_
  rotate_left
  · (intro w hSw; (try dsimp only at hSw); go_simp; try with_reducible rfl)
  simp only [Act.put, List.setIfInBounds_toArray, List.set_cons_zero, List.set_cons_succ]
  refine wpAnyH_take (i := 24) (oi := { dst := some 295, op := Op.build 45 #[(0, Operand.tmp 291), (1, Operand.const (Value.int IntKind.i64 0)), (2, Operand.tmp 294)], type := 45, pos := "top05x.go:565", after := #[{ on := 20, ground := Ground.data }, { on := 23, ground := Ground.data }, { on := 17, ground := Ground.guard }], guard := some (17, false) }) (v := ?_) rfl (by kernel_rfl) (by kernel_rfl) (by kernel_rfl) (fun _ _ _ h => h) (Or.inl ⟨by rfl, ?_⟩) hHeld ?_
  rotate_left
  · (intro w hSw; (try dsimp only at hSw); go_simp; try with_reducible rfl)
  simp only [Act.put, List.setIfInBounds_toArray, List.set_cons_zero, List.set_cons_succ]
  refine wpAnyH_take (i := 25) (oi := { dst := some 296, op := Op.lookup 33 (Operand.tmp 289) (Operand.tmp 295) false, type := 4, pos := "top05x.go:565", after := #[{ on := 18, ground := Ground.data }, { on := 24, ground := Ground.data }, { on := 17, ground := Ground.guard }], guard := some (17, false) }) (v := ?_) rfl (by kernel_rfl) (by kernel_rfl) (by kernel_rfl) (fun _ _ _ h => h) (Or.inl ⟨by rfl, ?_⟩) hHeld ?_
  rotate_left
  · (intro w hSw; (try dsimp only at hSw); go_simp; try with_reducible rfl)
  simp only [Act.put, List.setIfInBounds_toArray, List.set_cons_zero, List.set_cons_succ]
  refine wpAnyH_take (i := 26) (oi := { dst := some 297, op := Op.pick (Operand.tmp 288) (Operand.const (Value.bool true)) (Operand.tmp 296), type := 4, pos := "top05x.go:565", after := #[{ on := 17, ground := Ground.data }, { on := 25, ground := Ground.data }], guard := none }) (v := ?_) rfl (by kernel_rfl) (by kernel_rfl) (by kernel_rfl) (fun _ _ _ h => h) (Or.inl ⟨by rfl, ?_⟩) hHeld ?_
  rotate_left
  · (intro w hSw; (try dsimp only at hSw); go_simp; try with_reducible rfl)
  simp only [Act.put, List.setIfInBounds_toArray, List.set_cons_zero, List.set_cons_succ]
  refine wpAnyH_take (i := 27) (oi := { dst := some 298, op := Op.binOp BinOp.neq 4 (Operand.tmp 277) (Operand.tmp 297) 4, type := 4, pos := "top05x.go:565", after := #[{ on := 6, ground := Ground.data }, { on := 26, ground := Ground.data }], guard := none }) (v := ?_) rfl (by kernel_rfl) (by kernel_rfl) (by kernel_rfl) (fun _ _ _ h => h) (Or.inl ⟨by rfl, ?_⟩) hHeld ?_
  rotate_left
  · (intro w hSw; (try dsimp only at hSw); go_simp; try with_reducible rfl)
  simp only [Act.put, List.setIfInBounds_toArray, List.set_cons_zero, List.set_cons_succ]
  refine wpAnyH_take (i := 28) (oi := { dst := some 299, op := Op.move (Operand.tmp 298), type := 4, pos := "top05x.go:565", after := #[{ on := 27, ground := Ground.data }, { on := 17, ground := Ground.chain }], guard := none }) (v := ?_) rfl (by kernel_rfl) (by kernel_rfl) (by kernel_rfl) (fun _ _ _ h => h) (Or.inl ⟨by rfl, ?_⟩) hHeld ?_
  rotate_left
  · (intro w hSw; (try dsimp only at hSw); go_simp; try with_reducible rfl)
  simp only [Act.put, List.setIfInBounds_toArray, List.set_cons_zero, List.set_cons_succ]
  refine wpAnyH_take (i := 29) (oi := { dst := some 300, op := Op.move (Operand.tmp 6), type := 30, pos := "top05x.go:565", after := #[{ on := 28, ground := Ground.guard }], guard := some (28, false) }) (v := ?_) rfl (by kernel_rfl) (by kernel_rfl) (by kernel_rfl) (fun _ _ _ h => h) (Or.inl ⟨by rfl, ?_⟩) hHeld ?_
  rotate_left
  · (intro w hSw; (try dsimp only at hSw); go_simp; try with_reducible rfl)
  simp only [Act.put, List.setIfInBounds_toArray, List.set_cons_zero, List.set_cons_succ]
  refine wpAnyH_take (i := 31) (oi := { dst := some 302, op := Op.move (Operand.tmp 10), type := 33, pos := "top05x.go:565", after := #[{ on := 28, ground := Ground.guard }], guard := some (28, false) }) (v := ?_) rfl (by kernel_rfl) (by kernel_rfl) (by kernel_rfl) (fun _ _ _ h => h) (Or.inl ⟨by rfl, ?_⟩) hHeld ?_
  rotate_left
  · (intro w hSw; (try dsimp only at hSw); go_simp; try with_reducible rfl)
  simp only [Act.put, List.setIfInBounds_toArray, List.set_cons_zero, List.set_cons_succ]
  refine wpAnyH_ready (rs := [30]) (by kernel_rfl) (by simp) ?_
  refine AllReadyH.cons (o := { dst := some 301, op := Op.call { callee := Callee.value (Operand.func 15), args := #[Operand.tmp 300], argTypes := #[30] }, type := 3, pos := "top05x.go:565", after := #[{ on := 29, ground := Ground.data }, { on := 28, ground := Ground.chain }, { on := 28, ground := Ground.guard }], guard := some (28, false) }) rfl (fun K hK => ?_) AllReadyH.nil
  go_simp
  with_reducible refine (len15 hl).mono ?_
  rintro e w3 ⟨rfl, rfl⟩
  refine hK.out _ _ ?_ (fun hHeld => ?_)
  · exact Mk2.out _ hl hkp
  clear hK K
  (try simp only [Act.put, List.setIfInBounds_toArray, List.set_cons_zero, List.set_cons_succ])
  refine wpAnyH_take (i := 32) (oi := { dst := some 303, op := Op.call { callee := Callee.builtin Builtin.len, args := #[Operand.tmp 302], argTypes := #[33] }, type := 3, pos := "top05x.go:565", after := #[{ on := 31, ground := Ground.data }, { on := 30, ground := Ground.chain }, { on := 28, ground := Ground.guard }], guard := some (28, false) }) (v := ?_) rfl (by kernel_rfl) (by kernel_rfl) (by kernel_rfl) (fun _ _ _ h => h) (Or.inl ⟨by rfl, ?_⟩) hHeld ?_
  rotate_left
  · (intro w hSw; (try dsimp only at hSw); go_simp; try with_reducible rfl)
  simp only [Act.put, List.setIfInBounds_toArray, List.set_cons_zero, List.set_cons_succ]
  refine wpAnyH_take (i := 33) (oi := { dst := some 304, op := Op.binOp BinOp.neq 3 (Operand.tmp 301) (Operand.tmp 303) 3, type := 4, pos := "top05x.go:565", after := #[{ on := 30, ground := Ground.data }, { on := 32, ground := Ground.data }, { on := 28, ground := Ground.guard }], guard := some (28, false) }) (v := ?_) rfl (by kernel_rfl) (by kernel_rfl) (by kernel_rfl) (fun _ _ _ h => h) (Or.inl ⟨by rfl, ?_⟩) hHeld ?_
  rotate_left
  · (intro w hSw; (try dsimp only at hSw); go_simp; try with_reducible rfl)
  simp only [Act.put, List.setIfInBounds_toArray, List.set_cons_zero, List.set_cons_succ]
  refine wpAnyH_take (i := 34) (oi := { dst := some 305, op := Op.pick (Operand.tmp 299) (Operand.const (Value.bool true)) (Operand.tmp 304), type := 4, pos := "top05x.go:565", after := #[{ on := 28, ground := Ground.data }, { on := 33, ground := Ground.data }], guard := none }) (v := ?_) rfl (by kernel_rfl) (by kernel_rfl) (by kernel_rfl) (fun _ _ _ h => h) (Or.inl ⟨by rfl, ?_⟩) hHeld ?_
  rotate_left
  · (intro w hSw; (try dsimp only at hSw); go_simp; try with_reducible rfl)
  simp only [Act.put, List.setIfInBounds_toArray, List.set_cons_zero, List.set_cons_succ]
  refine wpAnyH_take (i := 35) (oi := { dst := some 306, op := Op.move (Operand.tmp 305), type := 4, pos := "top05x.go:565", after := #[{ on := 34, ground := Ground.data }, { on := 32, ground := Ground.chain }], guard := none }) (v := ?_) rfl (by kernel_rfl) (by kernel_rfl) (by kernel_rfl) (fun _ _ _ h => h) (Or.inl ⟨by rfl, ?_⟩) hHeld ?_
  rotate_left
  · (intro w hSw; (try dsimp only at hSw); go_simp; try with_reducible rfl)
  simp only [Act.put, List.setIfInBounds_toArray, List.set_cons_zero, List.set_cons_succ]
  refine wpAnyH_take (i := 36) (oi := { dst := some 307, op := Op.move (Operand.tmp 6), type := 30, pos := "top05x.go:565", after := #[{ on := 35, ground := Ground.guard }], guard := some (35, false) }) (v := ?_) rfl (by kernel_rfl) (by kernel_rfl) (by kernel_rfl) (fun _ _ _ h => h) (Or.inl ⟨by rfl, ?_⟩) hHeld ?_
  rotate_left
  · (intro w hSw; (try dsimp only at hSw); go_simp; try with_reducible rfl)
  simp only [Act.put, List.setIfInBounds_toArray, List.set_cons_zero, List.set_cons_succ]
  refine wpAnyH_take (i := 38) (oi := { dst := some 309, op := Op.move (Operand.tmp 12), type := 3, pos := "top05x.go:565", after := #[{ on := 35, ground := Ground.guard }], guard := some (35, false) }) (v := ?_) rfl (by kernel_rfl) (by kernel_rfl) (by kernel_rfl) (fun _ _ _ h => h) (Or.inl ⟨by rfl, ?_⟩) hHeld ?_
  rotate_left
  · (intro w hSw; (try dsimp only at hSw); go_simp; try with_reducible rfl)
  simp only [Act.put, List.setIfInBounds_toArray, List.set_cons_zero, List.set_cons_succ]
  refine wpAnyH_ready (rs := [37]) (by kernel_rfl) (by simp) ?_
  refine AllReadyH.cons (o := { dst := some 308, op := Op.call { callee := Callee.value (Operand.func 16), args := #[Operand.tmp 307], argTypes := #[30] }, type := 3, pos := "top05x.go:565", after := #[{ on := 36, ground := Ground.data }, { on := 35, ground := Ground.chain }, { on := 35, ground := Ground.guard }], guard := some (35, false) }) rfl (fun K hK => ?_) AllReadyH.nil
  go_simp
  with_reducible refine (asked16 hl).mono ?_
  rintro e w4 ⟨rfl, rfl⟩
  refine hK.out _ _ ?_ (fun hHeld => ?_)
  · exact Mk2.out _ hl hkp
  clear hK K
  (try simp only [Act.put, List.setIfInBounds_toArray, List.set_cons_zero, List.set_cons_succ])
  refine wpAnyH_take (i := 39) (oi := { dst := some 310, op := Op.binOp BinOp.neq 3 (Operand.tmp 308) (Operand.tmp 309) 3, type := 4, pos := "top05x.go:565", after := #[{ on := 37, ground := Ground.data }, { on := 38, ground := Ground.data }, { on := 35, ground := Ground.guard }], guard := some (35, false) }) (v := ?_) rfl (by kernel_rfl) (by kernel_rfl) (by kernel_rfl) (fun _ _ _ h => h) (Or.inl ⟨by rfl, ?_⟩) hHeld ?_
  rotate_left
  · (intro w hSw; (try dsimp only at hSw); go_simp; try with_reducible rfl)
  simp only [Act.put, List.setIfInBounds_toArray, List.set_cons_zero, List.set_cons_succ]
  refine wpAnyH_take (i := 40) (oi := { dst := some 311, op := Op.pick (Operand.tmp 306) (Operand.const (Value.bool true)) (Operand.tmp 310), type := 4, pos := "top05x.go:565", after := #[{ on := 35, ground := Ground.data }, { on := 39, ground := Ground.data }], guard := none }) (v := ?_) rfl (by kernel_rfl) (by kernel_rfl) (by kernel_rfl) (fun _ _ _ h => h) (Or.inl ⟨by rfl, ?_⟩) hHeld ?_
  rotate_left
  · (intro w hSw; (try dsimp only at hSw); go_simp; try with_reducible rfl)
  simp only [Act.put, List.setIfInBounds_toArray, List.set_cons_zero, List.set_cons_succ]
  refine wpAnyH_done (by kernel_rfl) ?_ _
  go_wp2_with fail
  exact ⟨(fr_cons rfl (fr_cons rfl (fr_cons rfl (fr_cons rfl (fr_cons rfl (fr_cons rfl (fr_cons rfl (fr_cons rfl (fr_cons rfl (fr_cons rfl (fr_cons rfl (fr_nil rfl)))))))))))), (Step2.out _ hl hkp).1, (Step2.out _ hl hkp).2⟩

end Go.Proofs.Ytbegeijofpgliab
