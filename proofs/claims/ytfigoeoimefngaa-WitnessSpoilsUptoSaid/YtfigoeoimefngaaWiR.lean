/-
  witness.view.reads: the region that makes a fault.
-/
import Derived.Test.YtfigoeoimefngaaWiG
import Derived.Test.YtfigoeoimefngaaZa
namespace Go.Proofs.Ytfigoeoimefngaa
open Go.RowKit Go.Maps Go.Shelf
attribute [local go_sem] Oper.semAt_some

def vals11 (bl B1 B2 yb p q m sz : Nat) (o0 y0 o1 y1 o2 y2 o3 y3 o4 y4 o5 y5 o6 y6 o7 y7 xs xi xt zs zi zt ws wi wt : Int) (i : Nat) : Value := (#[.int .i64 (p : Int), .agg #[.int .i64 xs, .int .i64 xi, .int .i64 xt], .pointer (some ⟨yb, 4, none⟩), .int .i64 (q : Int), .pointer (some ⟨yb, 4, none⟩), .int .i64 (q : Int), .pointer (some ⟨B1, q * 8, none⟩), .agg #[.int .u8 o0, .int .u8 o1, .int .u8 o2, .int .u8 o3, .int .u8 o4, .int .u8 o5, .int .u8 o6, .int .u8 o7], .pointer (some ⟨yb, 5, none⟩), .agg #[.int .u8 y0, .int .u8 y1, .int .u8 y2, .int .u8 y3, .int .u8 y4, .int .u8 y5, .int .u8 y6, .int .u8 y7], .pointer (some ⟨yb, 4, none⟩), .int .i64 (q : Int), .pointer (some ⟨B2, q * 3, none⟩), .agg #[.int .i64 zs, .int .i64 zi, .int .i64 zt], .pointer (some ⟨bl, 4, none⟩), .map (some m), .int .i64 (p : Int), .agg #[.int .i64 ws, .int .i64 wi, .int .i64 wt], .agg #[.int .i64 (p : Int), .int .i64 xs, .int .i64 xi, .int .i64 xt, .int .i64 (q : Int), .int .u8 o0, .int .u8 o1, .int .u8 o2, .int .u8 o3, .int .u8 o4, .int .u8 o5, .int .u8 o6, .int .u8 o7, .int .u8 y0, .int .u8 y1, .int .u8 y2, .int .u8 y3, .int .u8 y4, .int .u8 y5, .int .u8 y6, .int .u8 y7, .int .i64 zs, .int .i64 zi, .int .i64 zt, .int .i64 ws, .int .i64 wi, .int .i64 wt, .int .i8 0], .pointer (some ⟨sz, 0, none⟩)] : Array Value).getD i undef
def ops11 : Array Oper := #[{ dst := some 44, op := Op.move (Operand.tmp 8), type := 3, pos := "witness.go:65", after := #[], guard := none },
      { dst := some 45, op := Op.load 29 (Operand.tmp 6), type := 29, pos := "witness.go:65", after := #[], guard := none },
      { dst := some 46, op := Op.fieldAddr 36 (Operand.tmp 9) 2, type := 0, pos := "witness.go:65", after := #[], guard := none },
      { dst := some 47, op := Op.load 3 (Operand.tmp 46), type := 3, pos := "witness.go:65", after := #[{ on := 2, ground := Ground.data }], guard := none },
      { dst := some 48, op := Op.fieldAddr 36 (Operand.tmp 9) 2, type := 0, pos := "witness.go:65", after := #[], guard := none },
      { dst := some 49, op := Op.load 3 (Operand.tmp 48), type := 3, pos := "witness.go:65", after := #[{ on := 4, ground := Ground.data }], guard := none },
      { dst := some 50, op := Op.indexAddr 46 (Operand.tmp 3) (Operand.tmp 49), type := 0, pos := "witness.go:65", after := #[{ on := 5, ground := Ground.data }], guard := none },
      { dst := some 51, op := Op.load 31 (Operand.tmp 50), type := 31, pos := "witness.go:65", after := #[{ on := 6, ground := Ground.data }], guard := none },
      { dst := some 52, op := Op.fieldAddr 36 (Operand.tmp 9) 3, type := 0, pos := "witness.go:65", after := #[], guard := none },
      { dst := some 53, op := Op.load 31 (Operand.tmp 52), type := 31, pos := "witness.go:65", after := #[{ on := 8, ground := Ground.data }], guard := none },
      { dst := some 54, op := Op.fieldAddr 36 (Operand.tmp 9) 2, type := 0, pos := "witness.go:65", after := #[], guard := none },
      { dst := some 55, op := Op.load 3 (Operand.tmp 54), type := 3, pos := "witness.go:65", after := #[{ on := 10, ground := Ground.data }], guard := none },
      { dst := some 56, op := Op.indexAddr 77 (Operand.tmp 4) (Operand.tmp 55), type := 0, pos := "witness.go:65", after := #[{ on := 11, ground := Ground.data }], guard := none },
      { dst := some 57, op := Op.load 29 (Operand.tmp 56), type := 29, pos := "witness.go:65", after := #[{ on := 12, ground := Ground.data }], guard := none },
      { dst := some 58, op := Op.fieldAddr 63 (Operand.tmp 1) 4, type := 0, pos := "witness.go:65", after := #[], guard := none },
      { dst := some 59, op := Op.load 61 (Operand.tmp 58), type := 61, pos := "witness.go:65", after := #[{ on := 14, ground := Ground.data }], guard := none },
      { dst := some 60, op := Op.move (Operand.tmp 8), type := 3, pos := "witness.go:65", after := #[], guard := none },
      { dst := some 61, op := Op.lookup 61 (Operand.tmp 59) (Operand.tmp 60) false, type := 29, pos := "witness.go:65", after := #[{ on := 15, ground := Ground.data }, { on := 16, ground := Ground.data }], guard := none },
      { dst := some 62, op := Op.build 34 #[(0, Operand.tmp 44), (1, Operand.tmp 45), (2, Operand.tmp 47), (3, Operand.tmp 51), (4, Operand.tmp 53), (5, Operand.tmp 57), (6, Operand.tmp 61)], type := 34, pos := "witness.go:65", after := #[{ on := 0, ground := Ground.data }, { on := 1, ground := Ground.data }, { on := 3, ground := Ground.data }, { on := 7, ground := Ground.data }, { on := 9, ground := Ground.data }, { on := 13, ground := Ground.data }, { on := 17, ground := Ground.data }], guard := none },
      { dst := some 10, op := Op.alloc 34, type := 0, pos := "witness.go:65", after := #[], guard := none },
      { dst := none, op := Op.store 34 (Operand.tmp 10) (Operand.tmp 62), type := 0, pos := "witness.go:65", after := #[{ on := 19, ground := Ground.data }, { on := 18, ground := Ground.data }, { on := 0, ground := Ground.phase }, { on := 1, ground := Ground.phase }, { on := 2, ground := Ground.phase }, { on := 3, ground := Ground.phase }, { on := 4, ground := Ground.phase }, { on := 5, ground := Ground.phase }, { on := 6, ground := Ground.phase }, { on := 7, ground := Ground.phase }, { on := 8, ground := Ground.phase }, { on := 9, ground := Ground.phase }, { on := 10, ground := Ground.phase }, { on := 11, ground := Ground.phase }, { on := 12, ground := Ground.phase }, { on := 13, ground := Ground.phase }, { on := 14, ground := Ground.phase }, { on := 15, ground := Ground.phase }, { on := 16, ground := Ground.phase }, { on := 17, ground := Ground.phase }, { on := 18, ground := Ground.phase }, { on := 19, ground := Ground.phase }], guard := none }]
/-- What the region reads. -/
def Rds11 (bl B1 B2 gN yb p q m : Nat) (o0 y0 o1 y1 o2 y2 o3 y3 o4 y4 o5 y5 o6 y6 o7 y7 xs xi xt zs zi zt ws wi wt : Int) (w : World) : Prop := ∀ Wq, Grows w Wq → (Wq.cell? ⟨yb, 4, none⟩ = some (.int .i64 (q : Int)) ∧ Wq.cell? ⟨yb, 5, none⟩ = some (.int .u8 y0) ∧ Wq.cell? ⟨yb, 6, none⟩ = some (.int .u8 y1) ∧ Wq.cell? ⟨yb, 7, none⟩ = some (.int .u8 y2) ∧ Wq.cell? ⟨yb, 8, none⟩ = some (.int .u8 y3) ∧ Wq.cell? ⟨yb, 9, none⟩ = some (.int .u8 y4) ∧ Wq.cell? ⟨yb, 10, none⟩ = some (.int .u8 y5) ∧ Wq.cell? ⟨yb, 11, none⟩ = some (.int .u8 y6) ∧ Wq.cell? ⟨yb, 12, none⟩ = some (.int .u8 y7) ∧ Wq.cell? ⟨gN, 0, none⟩ = some (.int .i64 xs) ∧ Wq.cell? ⟨gN, 1, none⟩ = some (.int .i64 xi) ∧ Wq.cell? ⟨gN, 2, none⟩ = some (.int .i64 xt) ∧ Wq.cell? ⟨B1, q * 8, none⟩ = some (.int .u8 o0) ∧ Wq.cell? ⟨B1, q * 8 + 1, none⟩ = some (.int .u8 o1) ∧ Wq.cell? ⟨B1, q * 8 + 2, none⟩ = some (.int .u8 o2) ∧ Wq.cell? ⟨B1, q * 8 + 3, none⟩ = some (.int .u8 o3) ∧ Wq.cell? ⟨B1, q * 8 + 4, none⟩ = some (.int .u8 o4) ∧ Wq.cell? ⟨B1, q * 8 + 5, none⟩ = some (.int .u8 o5) ∧ Wq.cell? ⟨B1, q * 8 + 6, none⟩ = some (.int .u8 o6) ∧ Wq.cell? ⟨B1, q * 8 + 7, none⟩ = some (.int .u8 o7) ∧ Wq.cell? ⟨B2, q * 3, none⟩ = some (.int .i64 zs) ∧ Wq.cell? ⟨B2, q * 3 + 1, none⟩ = some (.int .i64 zi) ∧ Wq.cell? ⟨B2, q * 3 + 2, none⟩ = some (.int .i64 zt) ∧ Wq.cell? ⟨bl, 4, none⟩ = some (.map (some m))) ∧ (Instr.lookup 61 (.map (some m)) (.int .i64 (p : Int)) false).run Try.prog Wq = .ok (.agg #[.int .i64 ws, .int .i64 wi, .int .i64 wt]) Wq
/-- What holds wherever some of the operations have come up. -/
def I11 (bl B1 B2 gN yb p q m : Nat) (o0 y0 o1 y1 o2 y2 o3 y3 o4 y4 o5 y5 o6 y6 o7 y7 xs xi xt zs zi zt ws wi wt : Int) (t0 t2 t5 t7 t11 t12 t13 t14 t15 t16 t17 t18 t19 t20 t21 t22 t23 t24 t25 t26 t27 t28 t29 t30 t31 t32 t33 t34 t35 t36 t37 t38 t39 t40 t41 t42 t43 t63 t64 t65 t66 t67 t68 : Value) (w : World) : Array Bool → Act → World → Prop := fun (listed : Array Bool) (a : Act) (W : World) => ∃ (l : Nat → Bool) (u : Nat → Value), listed = #[l 0, l 1, l 2, l 3, l 4, l 5, l 6, l 7, l 8, l 9, l 10, l 11, l 12, l 13, l 14, l 15, l 16, l 17, l 18, l 19, l 20] ∧ a = { tmps := #[t0, .pointer (some ⟨bl, 0, none⟩), t2, .pointer (some ⟨B1, 0, none⟩), .pointer (some ⟨B2, 0, none⟩), t5, .pointer (some ⟨gN, 0, none⟩), t7, .int .i64 (p : Int), .pointer (some ⟨yb, 0, none⟩), u 19, t11, t12, t13, t14, t15, t16, t17, t18, t19, t20, t21, t22, t23, t24, t25, t26, t27, t28, t29, t30, t31, t32, t33, t34, t35, t36, t37, t38, t39, t40, t41, t42, t43, u 0, u 1, u 2, u 3, u 4, u 5, u 6, u 7, u 8, u 9, u 10, u 11, u 12, u 13, u 14, u 15, u 16, u 17, u 18, t63, t64, t65, t66, t67, t68], defers := [] } ∧ (∀ j, l j = true → u j = (vals11 bl B1 B2 yb p q m w.heap.size o0 y0 o1 y1 o2 y2 o3 y3 o4 y4 o5 y5 o6 y6 o7 y7 xs xi xt zs zi zt ws wi wt) j) ∧ (l 20 = true → ∀ j, j < 20 → l j = true) ∧ (l 20 = false → l 19 = false → W = w.drew) ∧ (l 20 = false → l 19 = true → W = (w.alloc (.cells #[.int .i64 0, .int .i64 0, .int .i64 0, .int .i64 0, .int .i64 0, .int .u8 0, .int .u8 0, .int .u8 0, .int .u8 0, .int .u8 0, .int .u8 0, .int .u8 0, .int .u8 0, .int .u8 0, .int .u8 0, .int .u8 0, .int .u8 0, .int .u8 0, .int .u8 0, .int .u8 0, .int .u8 0, .int .i64 0, .int .i64 0, .int .i64 0, .int .i64 0, .int .i64 0, .int .i64 0, .int .i8 0] 34)).drew) ∧ (l 20 = true → W = ((w.alloc (.cells #[.int .i64 0, .int .i64 0, .int .i64 0, .int .i64 0, .int .i64 0, .int .u8 0, .int .u8 0, .int .u8 0, .int .u8 0, .int .u8 0, .int .u8 0, .int .u8 0, .int .u8 0, .int .u8 0, .int .u8 0, .int .u8 0, .int .u8 0, .int .u8 0, .int .u8 0, .int .u8 0, .int .u8 0, .int .i64 0, .int .i64 0, .int .i64 0, .int .i64 0, .int .i64 0, .int .i64 0, .int .i8 0] 34)).drew).setCells w.heap.size 0 (#[.int .i64 (p : Int), .int .i64 xs, .int .i64 xi, .int .i64 xt, .int .i64 (q : Int), .int .u8 o0, .int .u8 o1, .int .u8 o2, .int .u8 o3, .int .u8 o4, .int .u8 o5, .int .u8 o6, .int .u8 o7, .int .u8 y0, .int .u8 y1, .int .u8 y2, .int .u8 y3, .int .u8 y4, .int .u8 y5, .int .u8 y6, .int .u8 y7, .int .i64 zs, .int .i64 zi, .int .i64 zt, .int .i64 ws, .int .i64 wi, .int .i64 wt, .int .i8 0] : Array Value).toList)
set_option maxRecDepth 100000 in
set_option maxHeartbeats 8000000 in
theorem st11_0 {bl B1 B2 gN yb p q m : Nat} {o0 y0 o1 y1 o2 y2 o3 y3 o4 y4 o5 y5 o6 y6 o7 y7 xs xi xt zs zi zt ws wi wt : Int} {t0 t2 t5 t7 t11 t12 t13 t14 t15 t16 t17 t18 t19 t20 t21 t22 t23 t24 t25 t26 t27 t28 t29 t30 t31 t32 t33 t34 t35 t36 t37 t38 t39 t40 t41 t42 t43 t63 t64 t65 t66 t67 t68 : Value} {Q : Exit → Act → World → Prop} {w W : World} {listed : Array Bool} {a : Act} {K : Act → World → Prop} (hall : Rds11 bl B1 B2 gN yb p q m o0 y0 o1 y1 o2 y2 o3 y3 o4 y4 o5 y5 o6 y6 o7 y7 xs xi xt zs zi zt ws wi wt w) (hI : (I11 bl B1 B2 gN yb p q m o0 y0 o1 y1 o2 y2 o3 y3 o4 y4 o5 y5 o6 y6 o7 y7 xs xi xt zs zi zt ws wi wt t0 t2 t5 t7 t11 t12 t13 t14 t15 t16 t17 t18 t19 t20 t21 t22 t23 t24 t25 t26 t27 t28 t29 t30 t31 t32 t33 t34 t35 t36 t37 t38 t39 t40 t41 t42 t43 t63 t64 t65 t66 t67 t68 w) listed a W) (h0 : listed.getD 0 true = false) (hdep : ∀ e ∈ (#[] : Array Edge), Region.binds .any e = true → listed.getD e.on false = true)
    (hK : ∀ a1 w1, (I11 bl B1 B2 gN yb p q m o0 y0 o1 y1 o2 y2 o3 y3 o4 y4 o5 y5 o6 y6 o7 y7 xs xi xt zs zi zt ws wi wt t0 t2 t5 t7 t11 t12 t13 t14 t15 t16 t17 t18 t19 t20 t21 t22 t23 t24 t25 t26 t27 t28 t29 t30 t31 t32 t33 t34 t35 t36 t37 t38 t39 t40 t41 t42 t43 t63 t64 t65 t66 t67 t68 w) (listed.setIfInBounds 0 true) a1 w1 → K a1 w1) : if Region.wanted { dst := some 44, op := Op.move (Operand.tmp 8), type := 3, pos := "witness.go:65", after := #[], guard := none } (yielded ops11 a.tmps) = true then Oper.wp Try.prog { dst := some 44, op := Op.move (Operand.tmp 8), type := 3, pos := "witness.go:65", after := #[], guard := none } a W K Q else K (a.put (some 44) undef) W := by
  obtain ⟨l, u, rfl, rfl, hu, hl, hw0, hw1, hw2⟩ := hI
  have HH := Lib.hid hK
  have HU := Lib.hid hu
  have HW0 := Lib.hid hw0
  have HW1 := Lib.hid hw1
  have HW2 := Lib.hid hw2
  have HALL := Lib.hid hall
  have e0 : l 0 = false := h0
  have f20 : l 20 = false := by
    cases e : l 20 with
    | false => rfl
    | true => have := hl e 0 (by omega); rw [e0] at this; cases this
  clear hl
  clear hK hu hw0 hw1 hw2 hall
  have hgw : Grows w W := by
    cases e : l 19 with
    | false => rw [HW0.out f20 e]; exact (Grows.refl _).drew
    | true => rw [HW1.out f20 e]; exact ((Grows.refl _).alloc _).drew
  clear h0 hdep
  clear e0
  go_simp
  refine HH.out _ _ ⟨(updn l 0 true), (updn u 0 ((vals11 bl B1 B2 yb p q m w.heap.size o0 y0 o1 y1 o2 y2 o3 y3 o4 y4 o5 y5 o6 y6 o7 y7 xs xi xt zs zi zt ws wi wt) 0)), rfl, rfl, (updn_ok HU.out 0), updn_all f20 (by omega), HW0.out, HW1.out, HW2.out⟩
set_option maxRecDepth 100000 in
set_option maxHeartbeats 8000000 in
theorem st11_1 {bl B1 B2 gN yb p q m : Nat} {o0 y0 o1 y1 o2 y2 o3 y3 o4 y4 o5 y5 o6 y6 o7 y7 xs xi xt zs zi zt ws wi wt : Int} {t0 t2 t5 t7 t11 t12 t13 t14 t15 t16 t17 t18 t19 t20 t21 t22 t23 t24 t25 t26 t27 t28 t29 t30 t31 t32 t33 t34 t35 t36 t37 t38 t39 t40 t41 t42 t43 t63 t64 t65 t66 t67 t68 : Value} {Q : Exit → Act → World → Prop} {w W : World} {listed : Array Bool} {a : Act} {K : Act → World → Prop} (hall : Rds11 bl B1 B2 gN yb p q m o0 y0 o1 y1 o2 y2 o3 y3 o4 y4 o5 y5 o6 y6 o7 y7 xs xi xt zs zi zt ws wi wt w) (hI : (I11 bl B1 B2 gN yb p q m o0 y0 o1 y1 o2 y2 o3 y3 o4 y4 o5 y5 o6 y6 o7 y7 xs xi xt zs zi zt ws wi wt t0 t2 t5 t7 t11 t12 t13 t14 t15 t16 t17 t18 t19 t20 t21 t22 t23 t24 t25 t26 t27 t28 t29 t30 t31 t32 t33 t34 t35 t36 t37 t38 t39 t40 t41 t42 t43 t63 t64 t65 t66 t67 t68 w) listed a W) (h0 : listed.getD 1 true = false) (hdep : ∀ e ∈ (#[] : Array Edge), Region.binds .any e = true → listed.getD e.on false = true)
    (hK : ∀ a1 w1, (I11 bl B1 B2 gN yb p q m o0 y0 o1 y1 o2 y2 o3 y3 o4 y4 o5 y5 o6 y6 o7 y7 xs xi xt zs zi zt ws wi wt t0 t2 t5 t7 t11 t12 t13 t14 t15 t16 t17 t18 t19 t20 t21 t22 t23 t24 t25 t26 t27 t28 t29 t30 t31 t32 t33 t34 t35 t36 t37 t38 t39 t40 t41 t42 t43 t63 t64 t65 t66 t67 t68 w) (listed.setIfInBounds 1 true) a1 w1 → K a1 w1) : if Region.wanted { dst := some 45, op := Op.load 29 (Operand.tmp 6), type := 29, pos := "witness.go:65", after := #[], guard := none } (yielded ops11 a.tmps) = true then Oper.wp Try.prog { dst := some 45, op := Op.load 29 (Operand.tmp 6), type := 29, pos := "witness.go:65", after := #[], guard := none } a W K Q else K (a.put (some 45) undef) W := by
  obtain ⟨l, u, rfl, rfl, hu, hl, hw0, hw1, hw2⟩ := hI
  have HH := Lib.hid hK
  have HU := Lib.hid hu
  have HW0 := Lib.hid hw0
  have HW1 := Lib.hid hw1
  have HW2 := Lib.hid hw2
  have HALL := Lib.hid hall
  have e0 : l 1 = false := h0
  have f20 : l 20 = false := by
    cases e : l 20 with
    | false => rfl
    | true => have := hl e 1 (by omega); rw [e0] at this; cases this
  clear hl
  clear hK hu hw0 hw1 hw2 hall
  have hgw : Grows w W := by
    cases e : l 19 with
    | false => rw [HW0.out f20 e]; exact (Grows.refl _).drew
    | true => rw [HW1.out f20 e]; exact ((Grows.refl _).alloc _).drew
  clear h0 hdep
  have hr := HALL.out
  unfold Rds11 at hr
  obtain ⟨⟨cb, cv0, cv1, cv2, cv3, cv4, cv5, cv6, cv7, cn0, cn1, cn2, hs0, hs1, hs2, hs3, hs4, hs5, hs6, hs7, ht0, ht1, ht2, hb4⟩, hwas⟩ := hr W hgw
  clear hr
  clear e0
  go_simp
  refine HH.out _ _ ⟨(updn l 1 true), (updn u 1 ((vals11 bl B1 B2 yb p q m w.heap.size o0 y0 o1 y1 o2 y2 o3 y3 o4 y4 o5 y5 o6 y6 o7 y7 xs xi xt zs zi zt ws wi wt) 1)), rfl, rfl, (updn_ok HU.out 1), updn_all f20 (by omega), HW0.out, HW1.out, HW2.out⟩
set_option maxRecDepth 100000 in
set_option maxHeartbeats 8000000 in
theorem st11_2 {bl B1 B2 gN yb p q m : Nat} {o0 y0 o1 y1 o2 y2 o3 y3 o4 y4 o5 y5 o6 y6 o7 y7 xs xi xt zs zi zt ws wi wt : Int} {t0 t2 t5 t7 t11 t12 t13 t14 t15 t16 t17 t18 t19 t20 t21 t22 t23 t24 t25 t26 t27 t28 t29 t30 t31 t32 t33 t34 t35 t36 t37 t38 t39 t40 t41 t42 t43 t63 t64 t65 t66 t67 t68 : Value} {Q : Exit → Act → World → Prop} {w W : World} {listed : Array Bool} {a : Act} {K : Act → World → Prop} (hall : Rds11 bl B1 B2 gN yb p q m o0 y0 o1 y1 o2 y2 o3 y3 o4 y4 o5 y5 o6 y6 o7 y7 xs xi xt zs zi zt ws wi wt w) (hI : (I11 bl B1 B2 gN yb p q m o0 y0 o1 y1 o2 y2 o3 y3 o4 y4 o5 y5 o6 y6 o7 y7 xs xi xt zs zi zt ws wi wt t0 t2 t5 t7 t11 t12 t13 t14 t15 t16 t17 t18 t19 t20 t21 t22 t23 t24 t25 t26 t27 t28 t29 t30 t31 t32 t33 t34 t35 t36 t37 t38 t39 t40 t41 t42 t43 t63 t64 t65 t66 t67 t68 w) listed a W) (h0 : listed.getD 2 true = false) (hdep : ∀ e ∈ (#[] : Array Edge), Region.binds .any e = true → listed.getD e.on false = true)
    (hK : ∀ a1 w1, (I11 bl B1 B2 gN yb p q m o0 y0 o1 y1 o2 y2 o3 y3 o4 y4 o5 y5 o6 y6 o7 y7 xs xi xt zs zi zt ws wi wt t0 t2 t5 t7 t11 t12 t13 t14 t15 t16 t17 t18 t19 t20 t21 t22 t23 t24 t25 t26 t27 t28 t29 t30 t31 t32 t33 t34 t35 t36 t37 t38 t39 t40 t41 t42 t43 t63 t64 t65 t66 t67 t68 w) (listed.setIfInBounds 2 true) a1 w1 → K a1 w1) : if Region.wanted { dst := some 46, op := Op.fieldAddr 36 (Operand.tmp 9) 2, type := 0, pos := "witness.go:65", after := #[], guard := none } (yielded ops11 a.tmps) = true then Oper.wp Try.prog { dst := some 46, op := Op.fieldAddr 36 (Operand.tmp 9) 2, type := 0, pos := "witness.go:65", after := #[], guard := none } a W K Q else K (a.put (some 46) undef) W := by
  obtain ⟨l, u, rfl, rfl, hu, hl, hw0, hw1, hw2⟩ := hI
  have HH := Lib.hid hK
  have HU := Lib.hid hu
  have HW0 := Lib.hid hw0
  have HW1 := Lib.hid hw1
  have HW2 := Lib.hid hw2
  have HALL := Lib.hid hall
  have e0 : l 2 = false := h0
  have f20 : l 20 = false := by
    cases e : l 20 with
    | false => rfl
    | true => have := hl e 2 (by omega); rw [e0] at this; cases this
  clear hl
  clear hK hu hw0 hw1 hw2 hall
  have hgw : Grows w W := by
    cases e : l 19 with
    | false => rw [HW0.out f20 e]; exact (Grows.refl _).drew
    | true => rw [HW1.out f20 e]; exact ((Grows.refl _).alloc _).drew
  clear h0 hdep
  clear e0
  go_simp
  refine HH.out _ _ ⟨(updn l 2 true), (updn u 2 ((vals11 bl B1 B2 yb p q m w.heap.size o0 y0 o1 y1 o2 y2 o3 y3 o4 y4 o5 y5 o6 y6 o7 y7 xs xi xt zs zi zt ws wi wt) 2)), rfl, rfl, (updn_ok HU.out 2), updn_all f20 (by omega), HW0.out, HW1.out, HW2.out⟩
set_option maxRecDepth 100000 in
set_option maxHeartbeats 8000000 in
theorem st11_3 {bl B1 B2 gN yb p q m : Nat} {o0 y0 o1 y1 o2 y2 o3 y3 o4 y4 o5 y5 o6 y6 o7 y7 xs xi xt zs zi zt ws wi wt : Int} {t0 t2 t5 t7 t11 t12 t13 t14 t15 t16 t17 t18 t19 t20 t21 t22 t23 t24 t25 t26 t27 t28 t29 t30 t31 t32 t33 t34 t35 t36 t37 t38 t39 t40 t41 t42 t43 t63 t64 t65 t66 t67 t68 : Value} {Q : Exit → Act → World → Prop} {w W : World} {listed : Array Bool} {a : Act} {K : Act → World → Prop} (hall : Rds11 bl B1 B2 gN yb p q m o0 y0 o1 y1 o2 y2 o3 y3 o4 y4 o5 y5 o6 y6 o7 y7 xs xi xt zs zi zt ws wi wt w) (hI : (I11 bl B1 B2 gN yb p q m o0 y0 o1 y1 o2 y2 o3 y3 o4 y4 o5 y5 o6 y6 o7 y7 xs xi xt zs zi zt ws wi wt t0 t2 t5 t7 t11 t12 t13 t14 t15 t16 t17 t18 t19 t20 t21 t22 t23 t24 t25 t26 t27 t28 t29 t30 t31 t32 t33 t34 t35 t36 t37 t38 t39 t40 t41 t42 t43 t63 t64 t65 t66 t67 t68 w) listed a W) (h0 : listed.getD 3 true = false) (hdep : ∀ e ∈ (#[{ on := 2, ground := Ground.data }] : Array Edge), Region.binds .any e = true → listed.getD e.on false = true)
    (hK : ∀ a1 w1, (I11 bl B1 B2 gN yb p q m o0 y0 o1 y1 o2 y2 o3 y3 o4 y4 o5 y5 o6 y6 o7 y7 xs xi xt zs zi zt ws wi wt t0 t2 t5 t7 t11 t12 t13 t14 t15 t16 t17 t18 t19 t20 t21 t22 t23 t24 t25 t26 t27 t28 t29 t30 t31 t32 t33 t34 t35 t36 t37 t38 t39 t40 t41 t42 t43 t63 t64 t65 t66 t67 t68 w) (listed.setIfInBounds 3 true) a1 w1 → K a1 w1) : if Region.wanted { dst := some 47, op := Op.load 3 (Operand.tmp 46), type := 3, pos := "witness.go:65", after := #[{ on := 2, ground := Ground.data }], guard := none } (yielded ops11 a.tmps) = true then Oper.wp Try.prog { dst := some 47, op := Op.load 3 (Operand.tmp 46), type := 3, pos := "witness.go:65", after := #[{ on := 2, ground := Ground.data }], guard := none } a W K Q else K (a.put (some 47) undef) W := by
  obtain ⟨l, u, rfl, rfl, hu, hl, hw0, hw1, hw2⟩ := hI
  have HH := Lib.hid hK
  have HU := Lib.hid hu
  have HW0 := Lib.hid hw0
  have HW1 := Lib.hid hw1
  have HW2 := Lib.hid hw2
  have HALL := Lib.hid hall
  have e0 : l 3 = false := h0
  have e3 : l 2 = true := hdep { on := 2, ground := .data } (by simp) rfl
  have f20 : l 20 = false := by
    cases e : l 20 with
    | false => rfl
    | true => have := hl e 3 (by omega); rw [e0] at this; cases this
  clear hl
  clear hK hu hw0 hw1 hw2 hall
  have hgw : Grows w W := by
    cases e : l 19 with
    | false => rw [HW0.out f20 e]; exact (Grows.refl _).drew
    | true => rw [HW1.out f20 e]; exact ((Grows.refl _).alloc _).drew
  clear h0 hdep
  have v2 : u 2 = .pointer (some ⟨yb, 4, none⟩) := HU.out 2 e3
  have hr := HALL.out
  unfold Rds11 at hr
  obtain ⟨⟨cb, cv0, cv1, cv2, cv3, cv4, cv5, cv6, cv7, cn0, cn1, cn2, hs0, hs1, hs2, hs3, hs4, hs5, hs6, hs7, ht0, ht1, ht2, hb4⟩, hwas⟩ := hr W hgw
  clear hr
  rw [v2]
  clear v2
  clear e3 e0
  go_simp
  refine HH.out _ _ ⟨(updn l 3 true), (updn (updn u 2 ((vals11 bl B1 B2 yb p q m w.heap.size o0 y0 o1 y1 o2 y2 o3 y3 o4 y4 o5 y5 o6 y6 o7 y7 xs xi xt zs zi zt ws wi wt) 2)) 3 ((vals11 bl B1 B2 yb p q m w.heap.size o0 y0 o1 y1 o2 y2 o3 y3 o4 y4 o5 y5 o6 y6 o7 y7 xs xi xt zs zi zt ws wi wt) 3)), rfl, rfl, (updn_ok (updn_keep HU.out 2) 3), updn_all f20 (by omega), HW0.out, HW1.out, HW2.out⟩
set_option maxRecDepth 100000 in
set_option maxHeartbeats 8000000 in
theorem st11_4 {bl B1 B2 gN yb p q m : Nat} {o0 y0 o1 y1 o2 y2 o3 y3 o4 y4 o5 y5 o6 y6 o7 y7 xs xi xt zs zi zt ws wi wt : Int} {t0 t2 t5 t7 t11 t12 t13 t14 t15 t16 t17 t18 t19 t20 t21 t22 t23 t24 t25 t26 t27 t28 t29 t30 t31 t32 t33 t34 t35 t36 t37 t38 t39 t40 t41 t42 t43 t63 t64 t65 t66 t67 t68 : Value} {Q : Exit → Act → World → Prop} {w W : World} {listed : Array Bool} {a : Act} {K : Act → World → Prop} (hall : Rds11 bl B1 B2 gN yb p q m o0 y0 o1 y1 o2 y2 o3 y3 o4 y4 o5 y5 o6 y6 o7 y7 xs xi xt zs zi zt ws wi wt w) (hI : (I11 bl B1 B2 gN yb p q m o0 y0 o1 y1 o2 y2 o3 y3 o4 y4 o5 y5 o6 y6 o7 y7 xs xi xt zs zi zt ws wi wt t0 t2 t5 t7 t11 t12 t13 t14 t15 t16 t17 t18 t19 t20 t21 t22 t23 t24 t25 t26 t27 t28 t29 t30 t31 t32 t33 t34 t35 t36 t37 t38 t39 t40 t41 t42 t43 t63 t64 t65 t66 t67 t68 w) listed a W) (h0 : listed.getD 4 true = false) (hdep : ∀ e ∈ (#[] : Array Edge), Region.binds .any e = true → listed.getD e.on false = true)
    (hK : ∀ a1 w1, (I11 bl B1 B2 gN yb p q m o0 y0 o1 y1 o2 y2 o3 y3 o4 y4 o5 y5 o6 y6 o7 y7 xs xi xt zs zi zt ws wi wt t0 t2 t5 t7 t11 t12 t13 t14 t15 t16 t17 t18 t19 t20 t21 t22 t23 t24 t25 t26 t27 t28 t29 t30 t31 t32 t33 t34 t35 t36 t37 t38 t39 t40 t41 t42 t43 t63 t64 t65 t66 t67 t68 w) (listed.setIfInBounds 4 true) a1 w1 → K a1 w1) : if Region.wanted { dst := some 48, op := Op.fieldAddr 36 (Operand.tmp 9) 2, type := 0, pos := "witness.go:65", after := #[], guard := none } (yielded ops11 a.tmps) = true then Oper.wp Try.prog { dst := some 48, op := Op.fieldAddr 36 (Operand.tmp 9) 2, type := 0, pos := "witness.go:65", after := #[], guard := none } a W K Q else K (a.put (some 48) undef) W := by
  obtain ⟨l, u, rfl, rfl, hu, hl, hw0, hw1, hw2⟩ := hI
  have HH := Lib.hid hK
  have HU := Lib.hid hu
  have HW0 := Lib.hid hw0
  have HW1 := Lib.hid hw1
  have HW2 := Lib.hid hw2
  have HALL := Lib.hid hall
  have e0 : l 4 = false := h0
  have f20 : l 20 = false := by
    cases e : l 20 with
    | false => rfl
    | true => have := hl e 4 (by omega); rw [e0] at this; cases this
  clear hl
  clear hK hu hw0 hw1 hw2 hall
  have hgw : Grows w W := by
    cases e : l 19 with
    | false => rw [HW0.out f20 e]; exact (Grows.refl _).drew
    | true => rw [HW1.out f20 e]; exact ((Grows.refl _).alloc _).drew
  clear h0 hdep
  clear e0
  go_simp
  refine HH.out _ _ ⟨(updn l 4 true), (updn u 4 ((vals11 bl B1 B2 yb p q m w.heap.size o0 y0 o1 y1 o2 y2 o3 y3 o4 y4 o5 y5 o6 y6 o7 y7 xs xi xt zs zi zt ws wi wt) 4)), rfl, rfl, (updn_ok HU.out 4), updn_all f20 (by omega), HW0.out, HW1.out, HW2.out⟩
set_option maxRecDepth 100000 in
set_option maxHeartbeats 8000000 in
theorem st11_5 {bl B1 B2 gN yb p q m : Nat} {o0 y0 o1 y1 o2 y2 o3 y3 o4 y4 o5 y5 o6 y6 o7 y7 xs xi xt zs zi zt ws wi wt : Int} {t0 t2 t5 t7 t11 t12 t13 t14 t15 t16 t17 t18 t19 t20 t21 t22 t23 t24 t25 t26 t27 t28 t29 t30 t31 t32 t33 t34 t35 t36 t37 t38 t39 t40 t41 t42 t43 t63 t64 t65 t66 t67 t68 : Value} {Q : Exit → Act → World → Prop} {w W : World} {listed : Array Bool} {a : Act} {K : Act → World → Prop} (hall : Rds11 bl B1 B2 gN yb p q m o0 y0 o1 y1 o2 y2 o3 y3 o4 y4 o5 y5 o6 y6 o7 y7 xs xi xt zs zi zt ws wi wt w) (hI : (I11 bl B1 B2 gN yb p q m o0 y0 o1 y1 o2 y2 o3 y3 o4 y4 o5 y5 o6 y6 o7 y7 xs xi xt zs zi zt ws wi wt t0 t2 t5 t7 t11 t12 t13 t14 t15 t16 t17 t18 t19 t20 t21 t22 t23 t24 t25 t26 t27 t28 t29 t30 t31 t32 t33 t34 t35 t36 t37 t38 t39 t40 t41 t42 t43 t63 t64 t65 t66 t67 t68 w) listed a W) (h0 : listed.getD 5 true = false) (hdep : ∀ e ∈ (#[{ on := 4, ground := Ground.data }] : Array Edge), Region.binds .any e = true → listed.getD e.on false = true)
    (hK : ∀ a1 w1, (I11 bl B1 B2 gN yb p q m o0 y0 o1 y1 o2 y2 o3 y3 o4 y4 o5 y5 o6 y6 o7 y7 xs xi xt zs zi zt ws wi wt t0 t2 t5 t7 t11 t12 t13 t14 t15 t16 t17 t18 t19 t20 t21 t22 t23 t24 t25 t26 t27 t28 t29 t30 t31 t32 t33 t34 t35 t36 t37 t38 t39 t40 t41 t42 t43 t63 t64 t65 t66 t67 t68 w) (listed.setIfInBounds 5 true) a1 w1 → K a1 w1) : if Region.wanted { dst := some 49, op := Op.load 3 (Operand.tmp 48), type := 3, pos := "witness.go:65", after := #[{ on := 4, ground := Ground.data }], guard := none } (yielded ops11 a.tmps) = true then Oper.wp Try.prog { dst := some 49, op := Op.load 3 (Operand.tmp 48), type := 3, pos := "witness.go:65", after := #[{ on := 4, ground := Ground.data }], guard := none } a W K Q else K (a.put (some 49) undef) W := by
  obtain ⟨l, u, rfl, rfl, hu, hl, hw0, hw1, hw2⟩ := hI
  have HH := Lib.hid hK
  have HU := Lib.hid hu
  have HW0 := Lib.hid hw0
  have HW1 := Lib.hid hw1
  have HW2 := Lib.hid hw2
  have HALL := Lib.hid hall
  have e0 : l 5 = false := h0
  have e5 : l 4 = true := hdep { on := 4, ground := .data } (by simp) rfl
  have f20 : l 20 = false := by
    cases e : l 20 with
    | false => rfl
    | true => have := hl e 5 (by omega); rw [e0] at this; cases this
  clear hl
  clear hK hu hw0 hw1 hw2 hall
  have hgw : Grows w W := by
    cases e : l 19 with
    | false => rw [HW0.out f20 e]; exact (Grows.refl _).drew
    | true => rw [HW1.out f20 e]; exact ((Grows.refl _).alloc _).drew
  clear h0 hdep
  have v4 : u 4 = .pointer (some ⟨yb, 4, none⟩) := HU.out 4 e5
  have hr := HALL.out
  unfold Rds11 at hr
  obtain ⟨⟨cb, cv0, cv1, cv2, cv3, cv4, cv5, cv6, cv7, cn0, cn1, cn2, hs0, hs1, hs2, hs3, hs4, hs5, hs6, hs7, ht0, ht1, ht2, hb4⟩, hwas⟩ := hr W hgw
  clear hr
  rw [v4]
  clear v4
  clear e5 e0
  go_simp
  refine HH.out _ _ ⟨(updn l 5 true), (updn (updn u 4 ((vals11 bl B1 B2 yb p q m w.heap.size o0 y0 o1 y1 o2 y2 o3 y3 o4 y4 o5 y5 o6 y6 o7 y7 xs xi xt zs zi zt ws wi wt) 4)) 5 ((vals11 bl B1 B2 yb p q m w.heap.size o0 y0 o1 y1 o2 y2 o3 y3 o4 y4 o5 y5 o6 y6 o7 y7 xs xi xt zs zi zt ws wi wt) 5)), rfl, rfl, (updn_ok (updn_keep HU.out 4) 5), updn_all f20 (by omega), HW0.out, HW1.out, HW2.out⟩
set_option maxRecDepth 100000 in
set_option maxHeartbeats 8000000 in
theorem st11_6 {bl B1 B2 gN yb p q m : Nat} {o0 y0 o1 y1 o2 y2 o3 y3 o4 y4 o5 y5 o6 y6 o7 y7 xs xi xt zs zi zt ws wi wt : Int} {t0 t2 t5 t7 t11 t12 t13 t14 t15 t16 t17 t18 t19 t20 t21 t22 t23 t24 t25 t26 t27 t28 t29 t30 t31 t32 t33 t34 t35 t36 t37 t38 t39 t40 t41 t42 t43 t63 t64 t65 t66 t67 t68 : Value} {Q : Exit → Act → World → Prop} {w W : World} {listed : Array Bool} {a : Act} {K : Act → World → Prop} (hq0 : (0 : Int) ≤ (q : Int)) (hq : (q : Int) < 32) (hall : Rds11 bl B1 B2 gN yb p q m o0 y0 o1 y1 o2 y2 o3 y3 o4 y4 o5 y5 o6 y6 o7 y7 xs xi xt zs zi zt ws wi wt w) (hI : (I11 bl B1 B2 gN yb p q m o0 y0 o1 y1 o2 y2 o3 y3 o4 y4 o5 y5 o6 y6 o7 y7 xs xi xt zs zi zt ws wi wt t0 t2 t5 t7 t11 t12 t13 t14 t15 t16 t17 t18 t19 t20 t21 t22 t23 t24 t25 t26 t27 t28 t29 t30 t31 t32 t33 t34 t35 t36 t37 t38 t39 t40 t41 t42 t43 t63 t64 t65 t66 t67 t68 w) listed a W) (h0 : listed.getD 6 true = false) (hdep : ∀ e ∈ (#[{ on := 5, ground := Ground.data }] : Array Edge), Region.binds .any e = true → listed.getD e.on false = true)
    (hK : ∀ a1 w1, (I11 bl B1 B2 gN yb p q m o0 y0 o1 y1 o2 y2 o3 y3 o4 y4 o5 y5 o6 y6 o7 y7 xs xi xt zs zi zt ws wi wt t0 t2 t5 t7 t11 t12 t13 t14 t15 t16 t17 t18 t19 t20 t21 t22 t23 t24 t25 t26 t27 t28 t29 t30 t31 t32 t33 t34 t35 t36 t37 t38 t39 t40 t41 t42 t43 t63 t64 t65 t66 t67 t68 w) (listed.setIfInBounds 6 true) a1 w1 → K a1 w1) : if Region.wanted { dst := some 50, op := Op.indexAddr 46 (Operand.tmp 3) (Operand.tmp 49), type := 0, pos := "witness.go:65", after := #[{ on := 5, ground := Ground.data }], guard := none } (yielded ops11 a.tmps) = true then Oper.wp Try.prog { dst := some 50, op := Op.indexAddr 46 (Operand.tmp 3) (Operand.tmp 49), type := 0, pos := "witness.go:65", after := #[{ on := 5, ground := Ground.data }], guard := none } a W K Q else K (a.put (some 50) undef) W := by
  obtain ⟨l, u, rfl, rfl, hu, hl, hw0, hw1, hw2⟩ := hI
  have HH := Lib.hid hK
  have HU := Lib.hid hu
  have HW0 := Lib.hid hw0
  have HW1 := Lib.hid hw1
  have HW2 := Lib.hid hw2
  have HALL := Lib.hid hall
  have e0 : l 6 = false := h0
  have e6 : l 5 = true := hdep { on := 5, ground := .data } (by simp) rfl
  have f20 : l 20 = false := by
    cases e : l 20 with
    | false => rfl
    | true => have := hl e 6 (by omega); rw [e0] at this; cases this
  clear hl
  clear hK hu hw0 hw1 hw2 hall
  have hgw : Grows w W := by
    cases e : l 19 with
    | false => rw [HW0.out f20 e]; exact (Grows.refl _).drew
    | true => rw [HW1.out f20 e]; exact ((Grows.refl _).alloc _).drew
  clear h0 hdep
  have v5 : u 5 = .int .i64 (q : Int) := HU.out 5 e6
  rw [v5]
  clear v5
  clear e6 e0
  go_simp
  refine HH.out _ _ ⟨(updn l 6 true), (updn (updn u 5 ((vals11 bl B1 B2 yb p q m w.heap.size o0 y0 o1 y1 o2 y2 o3 y3 o4 y4 o5 y5 o6 y6 o7 y7 xs xi xt zs zi zt ws wi wt) 5)) 6 ((vals11 bl B1 B2 yb p q m w.heap.size o0 y0 o1 y1 o2 y2 o3 y3 o4 y4 o5 y5 o6 y6 o7 y7 xs xi xt zs zi zt ws wi wt) 6)), rfl, rfl, (updn_ok (updn_keep HU.out 5) 6), updn_all f20 (by omega), HW0.out, HW1.out, HW2.out⟩
set_option maxRecDepth 100000 in
set_option maxHeartbeats 8000000 in
theorem st11_7 {bl B1 B2 gN yb p q m : Nat} {o0 y0 o1 y1 o2 y2 o3 y3 o4 y4 o5 y5 o6 y6 o7 y7 xs xi xt zs zi zt ws wi wt : Int} {t0 t2 t5 t7 t11 t12 t13 t14 t15 t16 t17 t18 t19 t20 t21 t22 t23 t24 t25 t26 t27 t28 t29 t30 t31 t32 t33 t34 t35 t36 t37 t38 t39 t40 t41 t42 t43 t63 t64 t65 t66 t67 t68 : Value} {Q : Exit → Act → World → Prop} {w W : World} {listed : Array Bool} {a : Act} {K : Act → World → Prop} (hall : Rds11 bl B1 B2 gN yb p q m o0 y0 o1 y1 o2 y2 o3 y3 o4 y4 o5 y5 o6 y6 o7 y7 xs xi xt zs zi zt ws wi wt w) (hI : (I11 bl B1 B2 gN yb p q m o0 y0 o1 y1 o2 y2 o3 y3 o4 y4 o5 y5 o6 y6 o7 y7 xs xi xt zs zi zt ws wi wt t0 t2 t5 t7 t11 t12 t13 t14 t15 t16 t17 t18 t19 t20 t21 t22 t23 t24 t25 t26 t27 t28 t29 t30 t31 t32 t33 t34 t35 t36 t37 t38 t39 t40 t41 t42 t43 t63 t64 t65 t66 t67 t68 w) listed a W) (h0 : listed.getD 7 true = false) (hdep : ∀ e ∈ (#[{ on := 6, ground := Ground.data }] : Array Edge), Region.binds .any e = true → listed.getD e.on false = true)
    (hK : ∀ a1 w1, (I11 bl B1 B2 gN yb p q m o0 y0 o1 y1 o2 y2 o3 y3 o4 y4 o5 y5 o6 y6 o7 y7 xs xi xt zs zi zt ws wi wt t0 t2 t5 t7 t11 t12 t13 t14 t15 t16 t17 t18 t19 t20 t21 t22 t23 t24 t25 t26 t27 t28 t29 t30 t31 t32 t33 t34 t35 t36 t37 t38 t39 t40 t41 t42 t43 t63 t64 t65 t66 t67 t68 w) (listed.setIfInBounds 7 true) a1 w1 → K a1 w1) : if Region.wanted { dst := some 51, op := Op.load 31 (Operand.tmp 50), type := 31, pos := "witness.go:65", after := #[{ on := 6, ground := Ground.data }], guard := none } (yielded ops11 a.tmps) = true then Oper.wp Try.prog { dst := some 51, op := Op.load 31 (Operand.tmp 50), type := 31, pos := "witness.go:65", after := #[{ on := 6, ground := Ground.data }], guard := none } a W K Q else K (a.put (some 51) undef) W := by
  obtain ⟨l, u, rfl, rfl, hu, hl, hw0, hw1, hw2⟩ := hI
  have HH := Lib.hid hK
  have HU := Lib.hid hu
  have HW0 := Lib.hid hw0
  have HW1 := Lib.hid hw1
  have HW2 := Lib.hid hw2
  have HALL := Lib.hid hall
  have e0 : l 7 = false := h0
  have e7 : l 6 = true := hdep { on := 6, ground := .data } (by simp) rfl
  have f20 : l 20 = false := by
    cases e : l 20 with
    | false => rfl
    | true => have := hl e 7 (by omega); rw [e0] at this; cases this
  clear hl
  clear hK hu hw0 hw1 hw2 hall
  have hgw : Grows w W := by
    cases e : l 19 with
    | false => rw [HW0.out f20 e]; exact (Grows.refl _).drew
    | true => rw [HW1.out f20 e]; exact ((Grows.refl _).alloc _).drew
  clear h0 hdep
  have v6 : u 6 = .pointer (some ⟨B1, q * 8, none⟩) := HU.out 6 e7
  have hr := HALL.out
  unfold Rds11 at hr
  obtain ⟨⟨cb, cv0, cv1, cv2, cv3, cv4, cv5, cv6, cv7, cn0, cn1, cn2, hs0, hs1, hs2, hs3, hs4, hs5, hs6, hs7, ht0, ht1, ht2, hb4⟩, hwas⟩ := hr W hgw
  clear hr
  rw [v6]
  clear v6
  clear e7 e0
  go_simp
  refine HH.out _ _ ⟨(updn l 7 true), (updn (updn u 6 ((vals11 bl B1 B2 yb p q m w.heap.size o0 y0 o1 y1 o2 y2 o3 y3 o4 y4 o5 y5 o6 y6 o7 y7 xs xi xt zs zi zt ws wi wt) 6)) 7 ((vals11 bl B1 B2 yb p q m w.heap.size o0 y0 o1 y1 o2 y2 o3 y3 o4 y4 o5 y5 o6 y6 o7 y7 xs xi xt zs zi zt ws wi wt) 7)), rfl, rfl, (updn_ok (updn_keep HU.out 6) 7), updn_all f20 (by omega), HW0.out, HW1.out, HW2.out⟩
set_option maxRecDepth 100000 in
set_option maxHeartbeats 8000000 in
theorem st11_8 {bl B1 B2 gN yb p q m : Nat} {o0 y0 o1 y1 o2 y2 o3 y3 o4 y4 o5 y5 o6 y6 o7 y7 xs xi xt zs zi zt ws wi wt : Int} {t0 t2 t5 t7 t11 t12 t13 t14 t15 t16 t17 t18 t19 t20 t21 t22 t23 t24 t25 t26 t27 t28 t29 t30 t31 t32 t33 t34 t35 t36 t37 t38 t39 t40 t41 t42 t43 t63 t64 t65 t66 t67 t68 : Value} {Q : Exit → Act → World → Prop} {w W : World} {listed : Array Bool} {a : Act} {K : Act → World → Prop} (hall : Rds11 bl B1 B2 gN yb p q m o0 y0 o1 y1 o2 y2 o3 y3 o4 y4 o5 y5 o6 y6 o7 y7 xs xi xt zs zi zt ws wi wt w) (hI : (I11 bl B1 B2 gN yb p q m o0 y0 o1 y1 o2 y2 o3 y3 o4 y4 o5 y5 o6 y6 o7 y7 xs xi xt zs zi zt ws wi wt t0 t2 t5 t7 t11 t12 t13 t14 t15 t16 t17 t18 t19 t20 t21 t22 t23 t24 t25 t26 t27 t28 t29 t30 t31 t32 t33 t34 t35 t36 t37 t38 t39 t40 t41 t42 t43 t63 t64 t65 t66 t67 t68 w) listed a W) (h0 : listed.getD 8 true = false) (hdep : ∀ e ∈ (#[] : Array Edge), Region.binds .any e = true → listed.getD e.on false = true)
    (hK : ∀ a1 w1, (I11 bl B1 B2 gN yb p q m o0 y0 o1 y1 o2 y2 o3 y3 o4 y4 o5 y5 o6 y6 o7 y7 xs xi xt zs zi zt ws wi wt t0 t2 t5 t7 t11 t12 t13 t14 t15 t16 t17 t18 t19 t20 t21 t22 t23 t24 t25 t26 t27 t28 t29 t30 t31 t32 t33 t34 t35 t36 t37 t38 t39 t40 t41 t42 t43 t63 t64 t65 t66 t67 t68 w) (listed.setIfInBounds 8 true) a1 w1 → K a1 w1) : if Region.wanted { dst := some 52, op := Op.fieldAddr 36 (Operand.tmp 9) 3, type := 0, pos := "witness.go:65", after := #[], guard := none } (yielded ops11 a.tmps) = true then Oper.wp Try.prog { dst := some 52, op := Op.fieldAddr 36 (Operand.tmp 9) 3, type := 0, pos := "witness.go:65", after := #[], guard := none } a W K Q else K (a.put (some 52) undef) W := by
  obtain ⟨l, u, rfl, rfl, hu, hl, hw0, hw1, hw2⟩ := hI
  have HH := Lib.hid hK
  have HU := Lib.hid hu
  have HW0 := Lib.hid hw0
  have HW1 := Lib.hid hw1
  have HW2 := Lib.hid hw2
  have HALL := Lib.hid hall
  have e0 : l 8 = false := h0
  have f20 : l 20 = false := by
    cases e : l 20 with
    | false => rfl
    | true => have := hl e 8 (by omega); rw [e0] at this; cases this
  clear hl
  clear hK hu hw0 hw1 hw2 hall
  have hgw : Grows w W := by
    cases e : l 19 with
    | false => rw [HW0.out f20 e]; exact (Grows.refl _).drew
    | true => rw [HW1.out f20 e]; exact ((Grows.refl _).alloc _).drew
  clear h0 hdep
  clear e0
  go_simp
  refine HH.out _ _ ⟨(updn l 8 true), (updn u 8 ((vals11 bl B1 B2 yb p q m w.heap.size o0 y0 o1 y1 o2 y2 o3 y3 o4 y4 o5 y5 o6 y6 o7 y7 xs xi xt zs zi zt ws wi wt) 8)), rfl, rfl, (updn_ok HU.out 8), updn_all f20 (by omega), HW0.out, HW1.out, HW2.out⟩
set_option maxRecDepth 100000 in
set_option maxHeartbeats 8000000 in
theorem st11_9 {bl B1 B2 gN yb p q m : Nat} {o0 y0 o1 y1 o2 y2 o3 y3 o4 y4 o5 y5 o6 y6 o7 y7 xs xi xt zs zi zt ws wi wt : Int} {t0 t2 t5 t7 t11 t12 t13 t14 t15 t16 t17 t18 t19 t20 t21 t22 t23 t24 t25 t26 t27 t28 t29 t30 t31 t32 t33 t34 t35 t36 t37 t38 t39 t40 t41 t42 t43 t63 t64 t65 t66 t67 t68 : Value} {Q : Exit → Act → World → Prop} {w W : World} {listed : Array Bool} {a : Act} {K : Act → World → Prop} (hall : Rds11 bl B1 B2 gN yb p q m o0 y0 o1 y1 o2 y2 o3 y3 o4 y4 o5 y5 o6 y6 o7 y7 xs xi xt zs zi zt ws wi wt w) (hI : (I11 bl B1 B2 gN yb p q m o0 y0 o1 y1 o2 y2 o3 y3 o4 y4 o5 y5 o6 y6 o7 y7 xs xi xt zs zi zt ws wi wt t0 t2 t5 t7 t11 t12 t13 t14 t15 t16 t17 t18 t19 t20 t21 t22 t23 t24 t25 t26 t27 t28 t29 t30 t31 t32 t33 t34 t35 t36 t37 t38 t39 t40 t41 t42 t43 t63 t64 t65 t66 t67 t68 w) listed a W) (h0 : listed.getD 9 true = false) (hdep : ∀ e ∈ (#[{ on := 8, ground := Ground.data }] : Array Edge), Region.binds .any e = true → listed.getD e.on false = true)
    (hK : ∀ a1 w1, (I11 bl B1 B2 gN yb p q m o0 y0 o1 y1 o2 y2 o3 y3 o4 y4 o5 y5 o6 y6 o7 y7 xs xi xt zs zi zt ws wi wt t0 t2 t5 t7 t11 t12 t13 t14 t15 t16 t17 t18 t19 t20 t21 t22 t23 t24 t25 t26 t27 t28 t29 t30 t31 t32 t33 t34 t35 t36 t37 t38 t39 t40 t41 t42 t43 t63 t64 t65 t66 t67 t68 w) (listed.setIfInBounds 9 true) a1 w1 → K a1 w1) : if Region.wanted { dst := some 53, op := Op.load 31 (Operand.tmp 52), type := 31, pos := "witness.go:65", after := #[{ on := 8, ground := Ground.data }], guard := none } (yielded ops11 a.tmps) = true then Oper.wp Try.prog { dst := some 53, op := Op.load 31 (Operand.tmp 52), type := 31, pos := "witness.go:65", after := #[{ on := 8, ground := Ground.data }], guard := none } a W K Q else K (a.put (some 53) undef) W := by
  obtain ⟨l, u, rfl, rfl, hu, hl, hw0, hw1, hw2⟩ := hI
  have HH := Lib.hid hK
  have HU := Lib.hid hu
  have HW0 := Lib.hid hw0
  have HW1 := Lib.hid hw1
  have HW2 := Lib.hid hw2
  have HALL := Lib.hid hall
  have e0 : l 9 = false := h0
  have e9 : l 8 = true := hdep { on := 8, ground := .data } (by simp) rfl
  have f20 : l 20 = false := by
    cases e : l 20 with
    | false => rfl
    | true => have := hl e 9 (by omega); rw [e0] at this; cases this
  clear hl
  clear hK hu hw0 hw1 hw2 hall
  have hgw : Grows w W := by
    cases e : l 19 with
    | false => rw [HW0.out f20 e]; exact (Grows.refl _).drew
    | true => rw [HW1.out f20 e]; exact ((Grows.refl _).alloc _).drew
  clear h0 hdep
  have v8 : u 8 = .pointer (some ⟨yb, 5, none⟩) := HU.out 8 e9
  have hr := HALL.out
  unfold Rds11 at hr
  obtain ⟨⟨cb, cv0, cv1, cv2, cv3, cv4, cv5, cv6, cv7, cn0, cn1, cn2, hs0, hs1, hs2, hs3, hs4, hs5, hs6, hs7, ht0, ht1, ht2, hb4⟩, hwas⟩ := hr W hgw
  clear hr
  rw [v8]
  clear v8
  clear e9 e0
  go_simp
  refine HH.out _ _ ⟨(updn l 9 true), (updn (updn u 8 ((vals11 bl B1 B2 yb p q m w.heap.size o0 y0 o1 y1 o2 y2 o3 y3 o4 y4 o5 y5 o6 y6 o7 y7 xs xi xt zs zi zt ws wi wt) 8)) 9 ((vals11 bl B1 B2 yb p q m w.heap.size o0 y0 o1 y1 o2 y2 o3 y3 o4 y4 o5 y5 o6 y6 o7 y7 xs xi xt zs zi zt ws wi wt) 9)), rfl, rfl, (updn_ok (updn_keep HU.out 8) 9), updn_all f20 (by omega), HW0.out, HW1.out, HW2.out⟩
set_option maxRecDepth 100000 in
set_option maxHeartbeats 8000000 in
theorem st11_10 {bl B1 B2 gN yb p q m : Nat} {o0 y0 o1 y1 o2 y2 o3 y3 o4 y4 o5 y5 o6 y6 o7 y7 xs xi xt zs zi zt ws wi wt : Int} {t0 t2 t5 t7 t11 t12 t13 t14 t15 t16 t17 t18 t19 t20 t21 t22 t23 t24 t25 t26 t27 t28 t29 t30 t31 t32 t33 t34 t35 t36 t37 t38 t39 t40 t41 t42 t43 t63 t64 t65 t66 t67 t68 : Value} {Q : Exit → Act → World → Prop} {w W : World} {listed : Array Bool} {a : Act} {K : Act → World → Prop} (hall : Rds11 bl B1 B2 gN yb p q m o0 y0 o1 y1 o2 y2 o3 y3 o4 y4 o5 y5 o6 y6 o7 y7 xs xi xt zs zi zt ws wi wt w) (hI : (I11 bl B1 B2 gN yb p q m o0 y0 o1 y1 o2 y2 o3 y3 o4 y4 o5 y5 o6 y6 o7 y7 xs xi xt zs zi zt ws wi wt t0 t2 t5 t7 t11 t12 t13 t14 t15 t16 t17 t18 t19 t20 t21 t22 t23 t24 t25 t26 t27 t28 t29 t30 t31 t32 t33 t34 t35 t36 t37 t38 t39 t40 t41 t42 t43 t63 t64 t65 t66 t67 t68 w) listed a W) (h0 : listed.getD 10 true = false) (hdep : ∀ e ∈ (#[] : Array Edge), Region.binds .any e = true → listed.getD e.on false = true)
    (hK : ∀ a1 w1, (I11 bl B1 B2 gN yb p q m o0 y0 o1 y1 o2 y2 o3 y3 o4 y4 o5 y5 o6 y6 o7 y7 xs xi xt zs zi zt ws wi wt t0 t2 t5 t7 t11 t12 t13 t14 t15 t16 t17 t18 t19 t20 t21 t22 t23 t24 t25 t26 t27 t28 t29 t30 t31 t32 t33 t34 t35 t36 t37 t38 t39 t40 t41 t42 t43 t63 t64 t65 t66 t67 t68 w) (listed.setIfInBounds 10 true) a1 w1 → K a1 w1) : if Region.wanted { dst := some 54, op := Op.fieldAddr 36 (Operand.tmp 9) 2, type := 0, pos := "witness.go:65", after := #[], guard := none } (yielded ops11 a.tmps) = true then Oper.wp Try.prog { dst := some 54, op := Op.fieldAddr 36 (Operand.tmp 9) 2, type := 0, pos := "witness.go:65", after := #[], guard := none } a W K Q else K (a.put (some 54) undef) W := by
  obtain ⟨l, u, rfl, rfl, hu, hl, hw0, hw1, hw2⟩ := hI
  have HH := Lib.hid hK
  have HU := Lib.hid hu
  have HW0 := Lib.hid hw0
  have HW1 := Lib.hid hw1
  have HW2 := Lib.hid hw2
  have HALL := Lib.hid hall
  have e0 : l 10 = false := h0
  have f20 : l 20 = false := by
    cases e : l 20 with
    | false => rfl
    | true => have := hl e 10 (by omega); rw [e0] at this; cases this
  clear hl
  clear hK hu hw0 hw1 hw2 hall
  have hgw : Grows w W := by
    cases e : l 19 with
    | false => rw [HW0.out f20 e]; exact (Grows.refl _).drew
    | true => rw [HW1.out f20 e]; exact ((Grows.refl _).alloc _).drew
  clear h0 hdep
  clear e0
  go_simp
  refine HH.out _ _ ⟨(updn l 10 true), (updn u 10 ((vals11 bl B1 B2 yb p q m w.heap.size o0 y0 o1 y1 o2 y2 o3 y3 o4 y4 o5 y5 o6 y6 o7 y7 xs xi xt zs zi zt ws wi wt) 10)), rfl, rfl, (updn_ok HU.out 10), updn_all f20 (by omega), HW0.out, HW1.out, HW2.out⟩
set_option maxRecDepth 100000 in
set_option maxHeartbeats 8000000 in
theorem st11_11 {bl B1 B2 gN yb p q m : Nat} {o0 y0 o1 y1 o2 y2 o3 y3 o4 y4 o5 y5 o6 y6 o7 y7 xs xi xt zs zi zt ws wi wt : Int} {t0 t2 t5 t7 t11 t12 t13 t14 t15 t16 t17 t18 t19 t20 t21 t22 t23 t24 t25 t26 t27 t28 t29 t30 t31 t32 t33 t34 t35 t36 t37 t38 t39 t40 t41 t42 t43 t63 t64 t65 t66 t67 t68 : Value} {Q : Exit → Act → World → Prop} {w W : World} {listed : Array Bool} {a : Act} {K : Act → World → Prop} (hall : Rds11 bl B1 B2 gN yb p q m o0 y0 o1 y1 o2 y2 o3 y3 o4 y4 o5 y5 o6 y6 o7 y7 xs xi xt zs zi zt ws wi wt w) (hI : (I11 bl B1 B2 gN yb p q m o0 y0 o1 y1 o2 y2 o3 y3 o4 y4 o5 y5 o6 y6 o7 y7 xs xi xt zs zi zt ws wi wt t0 t2 t5 t7 t11 t12 t13 t14 t15 t16 t17 t18 t19 t20 t21 t22 t23 t24 t25 t26 t27 t28 t29 t30 t31 t32 t33 t34 t35 t36 t37 t38 t39 t40 t41 t42 t43 t63 t64 t65 t66 t67 t68 w) listed a W) (h0 : listed.getD 11 true = false) (hdep : ∀ e ∈ (#[{ on := 10, ground := Ground.data }] : Array Edge), Region.binds .any e = true → listed.getD e.on false = true)
    (hK : ∀ a1 w1, (I11 bl B1 B2 gN yb p q m o0 y0 o1 y1 o2 y2 o3 y3 o4 y4 o5 y5 o6 y6 o7 y7 xs xi xt zs zi zt ws wi wt t0 t2 t5 t7 t11 t12 t13 t14 t15 t16 t17 t18 t19 t20 t21 t22 t23 t24 t25 t26 t27 t28 t29 t30 t31 t32 t33 t34 t35 t36 t37 t38 t39 t40 t41 t42 t43 t63 t64 t65 t66 t67 t68 w) (listed.setIfInBounds 11 true) a1 w1 → K a1 w1) : if Region.wanted { dst := some 55, op := Op.load 3 (Operand.tmp 54), type := 3, pos := "witness.go:65", after := #[{ on := 10, ground := Ground.data }], guard := none } (yielded ops11 a.tmps) = true then Oper.wp Try.prog { dst := some 55, op := Op.load 3 (Operand.tmp 54), type := 3, pos := "witness.go:65", after := #[{ on := 10, ground := Ground.data }], guard := none } a W K Q else K (a.put (some 55) undef) W := by
  obtain ⟨l, u, rfl, rfl, hu, hl, hw0, hw1, hw2⟩ := hI
  have HH := Lib.hid hK
  have HU := Lib.hid hu
  have HW0 := Lib.hid hw0
  have HW1 := Lib.hid hw1
  have HW2 := Lib.hid hw2
  have HALL := Lib.hid hall
  have e0 : l 11 = false := h0
  have e11 : l 10 = true := hdep { on := 10, ground := .data } (by simp) rfl
  have f20 : l 20 = false := by
    cases e : l 20 with
    | false => rfl
    | true => have := hl e 11 (by omega); rw [e0] at this; cases this
  clear hl
  clear hK hu hw0 hw1 hw2 hall
  have hgw : Grows w W := by
    cases e : l 19 with
    | false => rw [HW0.out f20 e]; exact (Grows.refl _).drew
    | true => rw [HW1.out f20 e]; exact ((Grows.refl _).alloc _).drew
  clear h0 hdep
  have v10 : u 10 = .pointer (some ⟨yb, 4, none⟩) := HU.out 10 e11
  have hr := HALL.out
  unfold Rds11 at hr
  obtain ⟨⟨cb, cv0, cv1, cv2, cv3, cv4, cv5, cv6, cv7, cn0, cn1, cn2, hs0, hs1, hs2, hs3, hs4, hs5, hs6, hs7, ht0, ht1, ht2, hb4⟩, hwas⟩ := hr W hgw
  clear hr
  rw [v10]
  clear v10
  clear e11 e0
  go_simp
  refine HH.out _ _ ⟨(updn l 11 true), (updn (updn u 10 ((vals11 bl B1 B2 yb p q m w.heap.size o0 y0 o1 y1 o2 y2 o3 y3 o4 y4 o5 y5 o6 y6 o7 y7 xs xi xt zs zi zt ws wi wt) 10)) 11 ((vals11 bl B1 B2 yb p q m w.heap.size o0 y0 o1 y1 o2 y2 o3 y3 o4 y4 o5 y5 o6 y6 o7 y7 xs xi xt zs zi zt ws wi wt) 11)), rfl, rfl, (updn_ok (updn_keep HU.out 10) 11), updn_all f20 (by omega), HW0.out, HW1.out, HW2.out⟩
set_option maxRecDepth 100000 in
set_option maxHeartbeats 8000000 in
theorem st11_12 {bl B1 B2 gN yb p q m : Nat} {o0 y0 o1 y1 o2 y2 o3 y3 o4 y4 o5 y5 o6 y6 o7 y7 xs xi xt zs zi zt ws wi wt : Int} {t0 t2 t5 t7 t11 t12 t13 t14 t15 t16 t17 t18 t19 t20 t21 t22 t23 t24 t25 t26 t27 t28 t29 t30 t31 t32 t33 t34 t35 t36 t37 t38 t39 t40 t41 t42 t43 t63 t64 t65 t66 t67 t68 : Value} {Q : Exit → Act → World → Prop} {w W : World} {listed : Array Bool} {a : Act} {K : Act → World → Prop} (hq0 : (0 : Int) ≤ (q : Int)) (hq : (q : Int) < 32) (hall : Rds11 bl B1 B2 gN yb p q m o0 y0 o1 y1 o2 y2 o3 y3 o4 y4 o5 y5 o6 y6 o7 y7 xs xi xt zs zi zt ws wi wt w) (hI : (I11 bl B1 B2 gN yb p q m o0 y0 o1 y1 o2 y2 o3 y3 o4 y4 o5 y5 o6 y6 o7 y7 xs xi xt zs zi zt ws wi wt t0 t2 t5 t7 t11 t12 t13 t14 t15 t16 t17 t18 t19 t20 t21 t22 t23 t24 t25 t26 t27 t28 t29 t30 t31 t32 t33 t34 t35 t36 t37 t38 t39 t40 t41 t42 t43 t63 t64 t65 t66 t67 t68 w) listed a W) (h0 : listed.getD 12 true = false) (hdep : ∀ e ∈ (#[{ on := 11, ground := Ground.data }] : Array Edge), Region.binds .any e = true → listed.getD e.on false = true)
    (hK : ∀ a1 w1, (I11 bl B1 B2 gN yb p q m o0 y0 o1 y1 o2 y2 o3 y3 o4 y4 o5 y5 o6 y6 o7 y7 xs xi xt zs zi zt ws wi wt t0 t2 t5 t7 t11 t12 t13 t14 t15 t16 t17 t18 t19 t20 t21 t22 t23 t24 t25 t26 t27 t28 t29 t30 t31 t32 t33 t34 t35 t36 t37 t38 t39 t40 t41 t42 t43 t63 t64 t65 t66 t67 t68 w) (listed.setIfInBounds 12 true) a1 w1 → K a1 w1) : if Region.wanted { dst := some 56, op := Op.indexAddr 77 (Operand.tmp 4) (Operand.tmp 55), type := 0, pos := "witness.go:65", after := #[{ on := 11, ground := Ground.data }], guard := none } (yielded ops11 a.tmps) = true then Oper.wp Try.prog { dst := some 56, op := Op.indexAddr 77 (Operand.tmp 4) (Operand.tmp 55), type := 0, pos := "witness.go:65", after := #[{ on := 11, ground := Ground.data }], guard := none } a W K Q else K (a.put (some 56) undef) W := by
  obtain ⟨l, u, rfl, rfl, hu, hl, hw0, hw1, hw2⟩ := hI
  have HH := Lib.hid hK
  have HU := Lib.hid hu
  have HW0 := Lib.hid hw0
  have HW1 := Lib.hid hw1
  have HW2 := Lib.hid hw2
  have HALL := Lib.hid hall
  have e0 : l 12 = false := h0
  have e12 : l 11 = true := hdep { on := 11, ground := .data } (by simp) rfl
  have f20 : l 20 = false := by
    cases e : l 20 with
    | false => rfl
    | true => have := hl e 12 (by omega); rw [e0] at this; cases this
  clear hl
  clear hK hu hw0 hw1 hw2 hall
  have hgw : Grows w W := by
    cases e : l 19 with
    | false => rw [HW0.out f20 e]; exact (Grows.refl _).drew
    | true => rw [HW1.out f20 e]; exact ((Grows.refl _).alloc _).drew
  clear h0 hdep
  have v11 : u 11 = .int .i64 (q : Int) := HU.out 11 e12
  rw [v11]
  clear v11
  clear e12 e0
  go_simp
  refine HH.out _ _ ⟨(updn l 12 true), (updn (updn u 11 ((vals11 bl B1 B2 yb p q m w.heap.size o0 y0 o1 y1 o2 y2 o3 y3 o4 y4 o5 y5 o6 y6 o7 y7 xs xi xt zs zi zt ws wi wt) 11)) 12 ((vals11 bl B1 B2 yb p q m w.heap.size o0 y0 o1 y1 o2 y2 o3 y3 o4 y4 o5 y5 o6 y6 o7 y7 xs xi xt zs zi zt ws wi wt) 12)), rfl, rfl, (updn_ok (updn_keep HU.out 11) 12), updn_all f20 (by omega), HW0.out, HW1.out, HW2.out⟩
set_option maxRecDepth 100000 in
set_option maxHeartbeats 8000000 in
theorem st11_13 {bl B1 B2 gN yb p q m : Nat} {o0 y0 o1 y1 o2 y2 o3 y3 o4 y4 o5 y5 o6 y6 o7 y7 xs xi xt zs zi zt ws wi wt : Int} {t0 t2 t5 t7 t11 t12 t13 t14 t15 t16 t17 t18 t19 t20 t21 t22 t23 t24 t25 t26 t27 t28 t29 t30 t31 t32 t33 t34 t35 t36 t37 t38 t39 t40 t41 t42 t43 t63 t64 t65 t66 t67 t68 : Value} {Q : Exit → Act → World → Prop} {w W : World} {listed : Array Bool} {a : Act} {K : Act → World → Prop} (hall : Rds11 bl B1 B2 gN yb p q m o0 y0 o1 y1 o2 y2 o3 y3 o4 y4 o5 y5 o6 y6 o7 y7 xs xi xt zs zi zt ws wi wt w) (hI : (I11 bl B1 B2 gN yb p q m o0 y0 o1 y1 o2 y2 o3 y3 o4 y4 o5 y5 o6 y6 o7 y7 xs xi xt zs zi zt ws wi wt t0 t2 t5 t7 t11 t12 t13 t14 t15 t16 t17 t18 t19 t20 t21 t22 t23 t24 t25 t26 t27 t28 t29 t30 t31 t32 t33 t34 t35 t36 t37 t38 t39 t40 t41 t42 t43 t63 t64 t65 t66 t67 t68 w) listed a W) (h0 : listed.getD 13 true = false) (hdep : ∀ e ∈ (#[{ on := 12, ground := Ground.data }] : Array Edge), Region.binds .any e = true → listed.getD e.on false = true)
    (hK : ∀ a1 w1, (I11 bl B1 B2 gN yb p q m o0 y0 o1 y1 o2 y2 o3 y3 o4 y4 o5 y5 o6 y6 o7 y7 xs xi xt zs zi zt ws wi wt t0 t2 t5 t7 t11 t12 t13 t14 t15 t16 t17 t18 t19 t20 t21 t22 t23 t24 t25 t26 t27 t28 t29 t30 t31 t32 t33 t34 t35 t36 t37 t38 t39 t40 t41 t42 t43 t63 t64 t65 t66 t67 t68 w) (listed.setIfInBounds 13 true) a1 w1 → K a1 w1) : if Region.wanted { dst := some 57, op := Op.load 29 (Operand.tmp 56), type := 29, pos := "witness.go:65", after := #[{ on := 12, ground := Ground.data }], guard := none } (yielded ops11 a.tmps) = true then Oper.wp Try.prog { dst := some 57, op := Op.load 29 (Operand.tmp 56), type := 29, pos := "witness.go:65", after := #[{ on := 12, ground := Ground.data }], guard := none } a W K Q else K (a.put (some 57) undef) W := by
  obtain ⟨l, u, rfl, rfl, hu, hl, hw0, hw1, hw2⟩ := hI
  have HH := Lib.hid hK
  have HU := Lib.hid hu
  have HW0 := Lib.hid hw0
  have HW1 := Lib.hid hw1
  have HW2 := Lib.hid hw2
  have HALL := Lib.hid hall
  have e0 : l 13 = false := h0
  have e13 : l 12 = true := hdep { on := 12, ground := .data } (by simp) rfl
  have f20 : l 20 = false := by
    cases e : l 20 with
    | false => rfl
    | true => have := hl e 13 (by omega); rw [e0] at this; cases this
  clear hl
  clear hK hu hw0 hw1 hw2 hall
  have hgw : Grows w W := by
    cases e : l 19 with
    | false => rw [HW0.out f20 e]; exact (Grows.refl _).drew
    | true => rw [HW1.out f20 e]; exact ((Grows.refl _).alloc _).drew
  clear h0 hdep
  have v12 : u 12 = .pointer (some ⟨B2, q * 3, none⟩) := HU.out 12 e13
  have hr := HALL.out
  unfold Rds11 at hr
  obtain ⟨⟨cb, cv0, cv1, cv2, cv3, cv4, cv5, cv6, cv7, cn0, cn1, cn2, hs0, hs1, hs2, hs3, hs4, hs5, hs6, hs7, ht0, ht1, ht2, hb4⟩, hwas⟩ := hr W hgw
  clear hr
  rw [v12]
  clear v12
  clear e13 e0
  go_simp
  refine HH.out _ _ ⟨(updn l 13 true), (updn (updn u 12 ((vals11 bl B1 B2 yb p q m w.heap.size o0 y0 o1 y1 o2 y2 o3 y3 o4 y4 o5 y5 o6 y6 o7 y7 xs xi xt zs zi zt ws wi wt) 12)) 13 ((vals11 bl B1 B2 yb p q m w.heap.size o0 y0 o1 y1 o2 y2 o3 y3 o4 y4 o5 y5 o6 y6 o7 y7 xs xi xt zs zi zt ws wi wt) 13)), rfl, rfl, (updn_ok (updn_keep HU.out 12) 13), updn_all f20 (by omega), HW0.out, HW1.out, HW2.out⟩
set_option maxRecDepth 100000 in
set_option maxHeartbeats 8000000 in
theorem st11_14 {bl B1 B2 gN yb p q m : Nat} {o0 y0 o1 y1 o2 y2 o3 y3 o4 y4 o5 y5 o6 y6 o7 y7 xs xi xt zs zi zt ws wi wt : Int} {t0 t2 t5 t7 t11 t12 t13 t14 t15 t16 t17 t18 t19 t20 t21 t22 t23 t24 t25 t26 t27 t28 t29 t30 t31 t32 t33 t34 t35 t36 t37 t38 t39 t40 t41 t42 t43 t63 t64 t65 t66 t67 t68 : Value} {Q : Exit → Act → World → Prop} {w W : World} {listed : Array Bool} {a : Act} {K : Act → World → Prop} (hall : Rds11 bl B1 B2 gN yb p q m o0 y0 o1 y1 o2 y2 o3 y3 o4 y4 o5 y5 o6 y6 o7 y7 xs xi xt zs zi zt ws wi wt w) (hI : (I11 bl B1 B2 gN yb p q m o0 y0 o1 y1 o2 y2 o3 y3 o4 y4 o5 y5 o6 y6 o7 y7 xs xi xt zs zi zt ws wi wt t0 t2 t5 t7 t11 t12 t13 t14 t15 t16 t17 t18 t19 t20 t21 t22 t23 t24 t25 t26 t27 t28 t29 t30 t31 t32 t33 t34 t35 t36 t37 t38 t39 t40 t41 t42 t43 t63 t64 t65 t66 t67 t68 w) listed a W) (h0 : listed.getD 14 true = false) (hdep : ∀ e ∈ (#[] : Array Edge), Region.binds .any e = true → listed.getD e.on false = true)
    (hK : ∀ a1 w1, (I11 bl B1 B2 gN yb p q m o0 y0 o1 y1 o2 y2 o3 y3 o4 y4 o5 y5 o6 y6 o7 y7 xs xi xt zs zi zt ws wi wt t0 t2 t5 t7 t11 t12 t13 t14 t15 t16 t17 t18 t19 t20 t21 t22 t23 t24 t25 t26 t27 t28 t29 t30 t31 t32 t33 t34 t35 t36 t37 t38 t39 t40 t41 t42 t43 t63 t64 t65 t66 t67 t68 w) (listed.setIfInBounds 14 true) a1 w1 → K a1 w1) : if Region.wanted { dst := some 58, op := Op.fieldAddr 63 (Operand.tmp 1) 4, type := 0, pos := "witness.go:65", after := #[], guard := none } (yielded ops11 a.tmps) = true then Oper.wp Try.prog { dst := some 58, op := Op.fieldAddr 63 (Operand.tmp 1) 4, type := 0, pos := "witness.go:65", after := #[], guard := none } a W K Q else K (a.put (some 58) undef) W := by
  obtain ⟨l, u, rfl, rfl, hu, hl, hw0, hw1, hw2⟩ := hI
  have HH := Lib.hid hK
  have HU := Lib.hid hu
  have HW0 := Lib.hid hw0
  have HW1 := Lib.hid hw1
  have HW2 := Lib.hid hw2
  have HALL := Lib.hid hall
  have e0 : l 14 = false := h0
  have f20 : l 20 = false := by
    cases e : l 20 with
    | false => rfl
    | true => have := hl e 14 (by omega); rw [e0] at this; cases this
  clear hl
  clear hK hu hw0 hw1 hw2 hall
  have hgw : Grows w W := by
    cases e : l 19 with
    | false => rw [HW0.out f20 e]; exact (Grows.refl _).drew
    | true => rw [HW1.out f20 e]; exact ((Grows.refl _).alloc _).drew
  clear h0 hdep
  clear e0
  go_simp
  refine HH.out _ _ ⟨(updn l 14 true), (updn u 14 ((vals11 bl B1 B2 yb p q m w.heap.size o0 y0 o1 y1 o2 y2 o3 y3 o4 y4 o5 y5 o6 y6 o7 y7 xs xi xt zs zi zt ws wi wt) 14)), rfl, rfl, (updn_ok HU.out 14), updn_all f20 (by omega), HW0.out, HW1.out, HW2.out⟩
set_option maxRecDepth 100000 in
set_option maxHeartbeats 8000000 in
theorem st11_15 {bl B1 B2 gN yb p q m : Nat} {o0 y0 o1 y1 o2 y2 o3 y3 o4 y4 o5 y5 o6 y6 o7 y7 xs xi xt zs zi zt ws wi wt : Int} {t0 t2 t5 t7 t11 t12 t13 t14 t15 t16 t17 t18 t19 t20 t21 t22 t23 t24 t25 t26 t27 t28 t29 t30 t31 t32 t33 t34 t35 t36 t37 t38 t39 t40 t41 t42 t43 t63 t64 t65 t66 t67 t68 : Value} {Q : Exit → Act → World → Prop} {w W : World} {listed : Array Bool} {a : Act} {K : Act → World → Prop} (hall : Rds11 bl B1 B2 gN yb p q m o0 y0 o1 y1 o2 y2 o3 y3 o4 y4 o5 y5 o6 y6 o7 y7 xs xi xt zs zi zt ws wi wt w) (hI : (I11 bl B1 B2 gN yb p q m o0 y0 o1 y1 o2 y2 o3 y3 o4 y4 o5 y5 o6 y6 o7 y7 xs xi xt zs zi zt ws wi wt t0 t2 t5 t7 t11 t12 t13 t14 t15 t16 t17 t18 t19 t20 t21 t22 t23 t24 t25 t26 t27 t28 t29 t30 t31 t32 t33 t34 t35 t36 t37 t38 t39 t40 t41 t42 t43 t63 t64 t65 t66 t67 t68 w) listed a W) (h0 : listed.getD 15 true = false) (hdep : ∀ e ∈ (#[{ on := 14, ground := Ground.data }] : Array Edge), Region.binds .any e = true → listed.getD e.on false = true)
    (hK : ∀ a1 w1, (I11 bl B1 B2 gN yb p q m o0 y0 o1 y1 o2 y2 o3 y3 o4 y4 o5 y5 o6 y6 o7 y7 xs xi xt zs zi zt ws wi wt t0 t2 t5 t7 t11 t12 t13 t14 t15 t16 t17 t18 t19 t20 t21 t22 t23 t24 t25 t26 t27 t28 t29 t30 t31 t32 t33 t34 t35 t36 t37 t38 t39 t40 t41 t42 t43 t63 t64 t65 t66 t67 t68 w) (listed.setIfInBounds 15 true) a1 w1 → K a1 w1) : if Region.wanted { dst := some 59, op := Op.load 61 (Operand.tmp 58), type := 61, pos := "witness.go:65", after := #[{ on := 14, ground := Ground.data }], guard := none } (yielded ops11 a.tmps) = true then Oper.wp Try.prog { dst := some 59, op := Op.load 61 (Operand.tmp 58), type := 61, pos := "witness.go:65", after := #[{ on := 14, ground := Ground.data }], guard := none } a W K Q else K (a.put (some 59) undef) W := by
  obtain ⟨l, u, rfl, rfl, hu, hl, hw0, hw1, hw2⟩ := hI
  have HH := Lib.hid hK
  have HU := Lib.hid hu
  have HW0 := Lib.hid hw0
  have HW1 := Lib.hid hw1
  have HW2 := Lib.hid hw2
  have HALL := Lib.hid hall
  have e0 : l 15 = false := h0
  have e15 : l 14 = true := hdep { on := 14, ground := .data } (by simp) rfl
  have f20 : l 20 = false := by
    cases e : l 20 with
    | false => rfl
    | true => have := hl e 15 (by omega); rw [e0] at this; cases this
  clear hl
  clear hK hu hw0 hw1 hw2 hall
  have hgw : Grows w W := by
    cases e : l 19 with
    | false => rw [HW0.out f20 e]; exact (Grows.refl _).drew
    | true => rw [HW1.out f20 e]; exact ((Grows.refl _).alloc _).drew
  clear h0 hdep
  have v14 : u 14 = .pointer (some ⟨bl, 4, none⟩) := HU.out 14 e15
  have hr := HALL.out
  unfold Rds11 at hr
  obtain ⟨⟨cb, cv0, cv1, cv2, cv3, cv4, cv5, cv6, cv7, cn0, cn1, cn2, hs0, hs1, hs2, hs3, hs4, hs5, hs6, hs7, ht0, ht1, ht2, hb4⟩, hwas⟩ := hr W hgw
  clear hr
  rw [v14]
  clear v14
  clear e15 e0
  go_simp
  refine HH.out _ _ ⟨(updn l 15 true), (updn (updn u 14 ((vals11 bl B1 B2 yb p q m w.heap.size o0 y0 o1 y1 o2 y2 o3 y3 o4 y4 o5 y5 o6 y6 o7 y7 xs xi xt zs zi zt ws wi wt) 14)) 15 ((vals11 bl B1 B2 yb p q m w.heap.size o0 y0 o1 y1 o2 y2 o3 y3 o4 y4 o5 y5 o6 y6 o7 y7 xs xi xt zs zi zt ws wi wt) 15)), rfl, rfl, (updn_ok (updn_keep HU.out 14) 15), updn_all f20 (by omega), HW0.out, HW1.out, HW2.out⟩
set_option maxRecDepth 100000 in
set_option maxHeartbeats 8000000 in
theorem st11_16 {bl B1 B2 gN yb p q m : Nat} {o0 y0 o1 y1 o2 y2 o3 y3 o4 y4 o5 y5 o6 y6 o7 y7 xs xi xt zs zi zt ws wi wt : Int} {t0 t2 t5 t7 t11 t12 t13 t14 t15 t16 t17 t18 t19 t20 t21 t22 t23 t24 t25 t26 t27 t28 t29 t30 t31 t32 t33 t34 t35 t36 t37 t38 t39 t40 t41 t42 t43 t63 t64 t65 t66 t67 t68 : Value} {Q : Exit → Act → World → Prop} {w W : World} {listed : Array Bool} {a : Act} {K : Act → World → Prop} (hall : Rds11 bl B1 B2 gN yb p q m o0 y0 o1 y1 o2 y2 o3 y3 o4 y4 o5 y5 o6 y6 o7 y7 xs xi xt zs zi zt ws wi wt w) (hI : (I11 bl B1 B2 gN yb p q m o0 y0 o1 y1 o2 y2 o3 y3 o4 y4 o5 y5 o6 y6 o7 y7 xs xi xt zs zi zt ws wi wt t0 t2 t5 t7 t11 t12 t13 t14 t15 t16 t17 t18 t19 t20 t21 t22 t23 t24 t25 t26 t27 t28 t29 t30 t31 t32 t33 t34 t35 t36 t37 t38 t39 t40 t41 t42 t43 t63 t64 t65 t66 t67 t68 w) listed a W) (h0 : listed.getD 16 true = false) (hdep : ∀ e ∈ (#[] : Array Edge), Region.binds .any e = true → listed.getD e.on false = true)
    (hK : ∀ a1 w1, (I11 bl B1 B2 gN yb p q m o0 y0 o1 y1 o2 y2 o3 y3 o4 y4 o5 y5 o6 y6 o7 y7 xs xi xt zs zi zt ws wi wt t0 t2 t5 t7 t11 t12 t13 t14 t15 t16 t17 t18 t19 t20 t21 t22 t23 t24 t25 t26 t27 t28 t29 t30 t31 t32 t33 t34 t35 t36 t37 t38 t39 t40 t41 t42 t43 t63 t64 t65 t66 t67 t68 w) (listed.setIfInBounds 16 true) a1 w1 → K a1 w1) : if Region.wanted { dst := some 60, op := Op.move (Operand.tmp 8), type := 3, pos := "witness.go:65", after := #[], guard := none } (yielded ops11 a.tmps) = true then Oper.wp Try.prog { dst := some 60, op := Op.move (Operand.tmp 8), type := 3, pos := "witness.go:65", after := #[], guard := none } a W K Q else K (a.put (some 60) undef) W := by
  obtain ⟨l, u, rfl, rfl, hu, hl, hw0, hw1, hw2⟩ := hI
  have HH := Lib.hid hK
  have HU := Lib.hid hu
  have HW0 := Lib.hid hw0
  have HW1 := Lib.hid hw1
  have HW2 := Lib.hid hw2
  have HALL := Lib.hid hall
  have e0 : l 16 = false := h0
  have f20 : l 20 = false := by
    cases e : l 20 with
    | false => rfl
    | true => have := hl e 16 (by omega); rw [e0] at this; cases this
  clear hl
  clear hK hu hw0 hw1 hw2 hall
  have hgw : Grows w W := by
    cases e : l 19 with
    | false => rw [HW0.out f20 e]; exact (Grows.refl _).drew
    | true => rw [HW1.out f20 e]; exact ((Grows.refl _).alloc _).drew
  clear h0 hdep
  clear e0
  go_simp
  refine HH.out _ _ ⟨(updn l 16 true), (updn u 16 ((vals11 bl B1 B2 yb p q m w.heap.size o0 y0 o1 y1 o2 y2 o3 y3 o4 y4 o5 y5 o6 y6 o7 y7 xs xi xt zs zi zt ws wi wt) 16)), rfl, rfl, (updn_ok HU.out 16), updn_all f20 (by omega), HW0.out, HW1.out, HW2.out⟩
set_option maxRecDepth 100000 in
set_option maxHeartbeats 8000000 in
theorem st11_17 {bl B1 B2 gN yb p q m : Nat} {o0 y0 o1 y1 o2 y2 o3 y3 o4 y4 o5 y5 o6 y6 o7 y7 xs xi xt zs zi zt ws wi wt : Int} {t0 t2 t5 t7 t11 t12 t13 t14 t15 t16 t17 t18 t19 t20 t21 t22 t23 t24 t25 t26 t27 t28 t29 t30 t31 t32 t33 t34 t35 t36 t37 t38 t39 t40 t41 t42 t43 t63 t64 t65 t66 t67 t68 : Value} {Q : Exit → Act → World → Prop} {w W : World} {listed : Array Bool} {a : Act} {K : Act → World → Prop} (hall : Rds11 bl B1 B2 gN yb p q m o0 y0 o1 y1 o2 y2 o3 y3 o4 y4 o5 y5 o6 y6 o7 y7 xs xi xt zs zi zt ws wi wt w) (hI : (I11 bl B1 B2 gN yb p q m o0 y0 o1 y1 o2 y2 o3 y3 o4 y4 o5 y5 o6 y6 o7 y7 xs xi xt zs zi zt ws wi wt t0 t2 t5 t7 t11 t12 t13 t14 t15 t16 t17 t18 t19 t20 t21 t22 t23 t24 t25 t26 t27 t28 t29 t30 t31 t32 t33 t34 t35 t36 t37 t38 t39 t40 t41 t42 t43 t63 t64 t65 t66 t67 t68 w) listed a W) (h0 : listed.getD 17 true = false) (hdep : ∀ e ∈ (#[{ on := 15, ground := Ground.data }, { on := 16, ground := Ground.data }] : Array Edge), Region.binds .any e = true → listed.getD e.on false = true)
    (hK : ∀ a1 w1, (I11 bl B1 B2 gN yb p q m o0 y0 o1 y1 o2 y2 o3 y3 o4 y4 o5 y5 o6 y6 o7 y7 xs xi xt zs zi zt ws wi wt t0 t2 t5 t7 t11 t12 t13 t14 t15 t16 t17 t18 t19 t20 t21 t22 t23 t24 t25 t26 t27 t28 t29 t30 t31 t32 t33 t34 t35 t36 t37 t38 t39 t40 t41 t42 t43 t63 t64 t65 t66 t67 t68 w) (listed.setIfInBounds 17 true) a1 w1 → K a1 w1) : if Region.wanted { dst := some 61, op := Op.lookup 61 (Operand.tmp 59) (Operand.tmp 60) false, type := 29, pos := "witness.go:65", after := #[{ on := 15, ground := Ground.data }, { on := 16, ground := Ground.data }], guard := none } (yielded ops11 a.tmps) = true then Oper.wp Try.prog { dst := some 61, op := Op.lookup 61 (Operand.tmp 59) (Operand.tmp 60) false, type := 29, pos := "witness.go:65", after := #[{ on := 15, ground := Ground.data }, { on := 16, ground := Ground.data }], guard := none } a W K Q else K (a.put (some 61) undef) W := by
  obtain ⟨l, u, rfl, rfl, hu, hl, hw0, hw1, hw2⟩ := hI
  have HH := Lib.hid hK
  have HU := Lib.hid hu
  have HW0 := Lib.hid hw0
  have HW1 := Lib.hid hw1
  have HW2 := Lib.hid hw2
  have HALL := Lib.hid hall
  have e0 : l 17 = false := h0
  have e16 : l 15 = true := hdep { on := 15, ground := .data } (by simp) rfl
  have e17 : l 16 = true := hdep { on := 16, ground := .data } (by simp) rfl
  have f20 : l 20 = false := by
    cases e : l 20 with
    | false => rfl
    | true => have := hl e 17 (by omega); rw [e0] at this; cases this
  clear hl
  clear hK hu hw0 hw1 hw2 hall
  have hgw : Grows w W := by
    cases e : l 19 with
    | false => rw [HW0.out f20 e]; exact (Grows.refl _).drew
    | true => rw [HW1.out f20 e]; exact ((Grows.refl _).alloc _).drew
  clear h0 hdep
  have v15 : u 15 = .map (some m) := HU.out 15 e16
  have v16 : u 16 = .int .i64 (p : Int) := HU.out 16 e17
  have hr := HALL.out
  unfold Rds11 at hr
  obtain ⟨⟨cb, cv0, cv1, cv2, cv3, cv4, cv5, cv6, cv7, cn0, cn1, cn2, hs0, hs1, hs2, hs3, hs4, hs5, hs6, hs7, ht0, ht1, ht2, hb4⟩, hwas⟩ := hr W hgw
  clear hr
  rw [v15, v16]
  clear v15 v16
  clear e16 e17 e0
  go_simp
  refine HH.out _ _ ⟨(updn l 17 true), (updn (updn (updn u 15 ((vals11 bl B1 B2 yb p q m w.heap.size o0 y0 o1 y1 o2 y2 o3 y3 o4 y4 o5 y5 o6 y6 o7 y7 xs xi xt zs zi zt ws wi wt) 15)) 16 ((vals11 bl B1 B2 yb p q m w.heap.size o0 y0 o1 y1 o2 y2 o3 y3 o4 y4 o5 y5 o6 y6 o7 y7 xs xi xt zs zi zt ws wi wt) 16)) 17 ((vals11 bl B1 B2 yb p q m w.heap.size o0 y0 o1 y1 o2 y2 o3 y3 o4 y4 o5 y5 o6 y6 o7 y7 xs xi xt zs zi zt ws wi wt) 17)), rfl, rfl, (updn_ok (updn_keep (updn_keep HU.out 15) 16) 17), updn_all f20 (by omega), HW0.out, HW1.out, HW2.out⟩
set_option maxRecDepth 100000 in
set_option maxHeartbeats 8000000 in
theorem st11_18 {bl B1 B2 gN yb p q m : Nat} {o0 y0 o1 y1 o2 y2 o3 y3 o4 y4 o5 y5 o6 y6 o7 y7 xs xi xt zs zi zt ws wi wt : Int} {t0 t2 t5 t7 t11 t12 t13 t14 t15 t16 t17 t18 t19 t20 t21 t22 t23 t24 t25 t26 t27 t28 t29 t30 t31 t32 t33 t34 t35 t36 t37 t38 t39 t40 t41 t42 t43 t63 t64 t65 t66 t67 t68 : Value} {Q : Exit → Act → World → Prop} {w W : World} {listed : Array Bool} {a : Act} {K : Act → World → Prop} (hall : Rds11 bl B1 B2 gN yb p q m o0 y0 o1 y1 o2 y2 o3 y3 o4 y4 o5 y5 o6 y6 o7 y7 xs xi xt zs zi zt ws wi wt w) (hI : (I11 bl B1 B2 gN yb p q m o0 y0 o1 y1 o2 y2 o3 y3 o4 y4 o5 y5 o6 y6 o7 y7 xs xi xt zs zi zt ws wi wt t0 t2 t5 t7 t11 t12 t13 t14 t15 t16 t17 t18 t19 t20 t21 t22 t23 t24 t25 t26 t27 t28 t29 t30 t31 t32 t33 t34 t35 t36 t37 t38 t39 t40 t41 t42 t43 t63 t64 t65 t66 t67 t68 w) listed a W) (h0 : listed.getD 18 true = false) (hdep : ∀ e ∈ (#[{ on := 0, ground := Ground.data }, { on := 1, ground := Ground.data }, { on := 3, ground := Ground.data }, { on := 7, ground := Ground.data }, { on := 9, ground := Ground.data }, { on := 13, ground := Ground.data }, { on := 17, ground := Ground.data }] : Array Edge), Region.binds .any e = true → listed.getD e.on false = true)
    (hK : ∀ a1 w1, (I11 bl B1 B2 gN yb p q m o0 y0 o1 y1 o2 y2 o3 y3 o4 y4 o5 y5 o6 y6 o7 y7 xs xi xt zs zi zt ws wi wt t0 t2 t5 t7 t11 t12 t13 t14 t15 t16 t17 t18 t19 t20 t21 t22 t23 t24 t25 t26 t27 t28 t29 t30 t31 t32 t33 t34 t35 t36 t37 t38 t39 t40 t41 t42 t43 t63 t64 t65 t66 t67 t68 w) (listed.setIfInBounds 18 true) a1 w1 → K a1 w1) : if Region.wanted { dst := some 62, op := Op.build 34 #[(0, Operand.tmp 44), (1, Operand.tmp 45), (2, Operand.tmp 47), (3, Operand.tmp 51), (4, Operand.tmp 53), (5, Operand.tmp 57), (6, Operand.tmp 61)], type := 34, pos := "witness.go:65", after := #[{ on := 0, ground := Ground.data }, { on := 1, ground := Ground.data }, { on := 3, ground := Ground.data }, { on := 7, ground := Ground.data }, { on := 9, ground := Ground.data }, { on := 13, ground := Ground.data }, { on := 17, ground := Ground.data }], guard := none } (yielded ops11 a.tmps) = true then Oper.wp Try.prog { dst := some 62, op := Op.build 34 #[(0, Operand.tmp 44), (1, Operand.tmp 45), (2, Operand.tmp 47), (3, Operand.tmp 51), (4, Operand.tmp 53), (5, Operand.tmp 57), (6, Operand.tmp 61)], type := 34, pos := "witness.go:65", after := #[{ on := 0, ground := Ground.data }, { on := 1, ground := Ground.data }, { on := 3, ground := Ground.data }, { on := 7, ground := Ground.data }, { on := 9, ground := Ground.data }, { on := 13, ground := Ground.data }, { on := 17, ground := Ground.data }], guard := none } a W K Q else K (a.put (some 62) undef) W := by
  obtain ⟨l, u, rfl, rfl, hu, hl, hw0, hw1, hw2⟩ := hI
  have HH := Lib.hid hK
  have HU := Lib.hid hu
  have HW0 := Lib.hid hw0
  have HW1 := Lib.hid hw1
  have HW2 := Lib.hid hw2
  have HALL := Lib.hid hall
  have e0 : l 18 = false := h0
  have e1 : l 0 = true := hdep { on := 0, ground := .data } (by simp) rfl
  have e2 : l 1 = true := hdep { on := 1, ground := .data } (by simp) rfl
  have e4 : l 3 = true := hdep { on := 3, ground := .data } (by simp) rfl
  have e8 : l 7 = true := hdep { on := 7, ground := .data } (by simp) rfl
  have e10 : l 9 = true := hdep { on := 9, ground := .data } (by simp) rfl
  have e14 : l 13 = true := hdep { on := 13, ground := .data } (by simp) rfl
  have e18 : l 17 = true := hdep { on := 17, ground := .data } (by simp) rfl
  have f20 : l 20 = false := by
    cases e : l 20 with
    | false => rfl
    | true => have := hl e 18 (by omega); rw [e0] at this; cases this
  clear hl
  clear hK hu hw0 hw1 hw2 hall
  have hgw : Grows w W := by
    cases e : l 19 with
    | false => rw [HW0.out f20 e]; exact (Grows.refl _).drew
    | true => rw [HW1.out f20 e]; exact ((Grows.refl _).alloc _).drew
  clear h0 hdep
  have v0 : u 0 = .int .i64 (p : Int) := HU.out 0 e1
  have v1 : u 1 = .agg #[.int .i64 xs, .int .i64 xi, .int .i64 xt] := HU.out 1 e2
  have v3 : u 3 = .int .i64 (q : Int) := HU.out 3 e4
  have v7 : u 7 = .agg #[.int .u8 o0, .int .u8 o1, .int .u8 o2, .int .u8 o3, .int .u8 o4, .int .u8 o5, .int .u8 o6, .int .u8 o7] := HU.out 7 e8
  have v9 : u 9 = .agg #[.int .u8 y0, .int .u8 y1, .int .u8 y2, .int .u8 y3, .int .u8 y4, .int .u8 y5, .int .u8 y6, .int .u8 y7] := HU.out 9 e10
  have v13 : u 13 = .agg #[.int .i64 zs, .int .i64 zi, .int .i64 zt] := HU.out 13 e14
  have v17 : u 17 = .agg #[.int .i64 ws, .int .i64 wi, .int .i64 wt] := HU.out 17 e18
  rw [v0, v1, v3, v7, v9, v13, v17]
  clear v0 v1 v3 v7 v9 v13 v17
  clear e1 e2 e4 e8 e10 e14 e18 e0
  go_simp
  refine HH.out _ _ ⟨(updn l 18 true), (updn (updn (updn (updn (updn (updn (updn (updn u 0 ((vals11 bl B1 B2 yb p q m w.heap.size o0 y0 o1 y1 o2 y2 o3 y3 o4 y4 o5 y5 o6 y6 o7 y7 xs xi xt zs zi zt ws wi wt) 0)) 1 ((vals11 bl B1 B2 yb p q m w.heap.size o0 y0 o1 y1 o2 y2 o3 y3 o4 y4 o5 y5 o6 y6 o7 y7 xs xi xt zs zi zt ws wi wt) 1)) 3 ((vals11 bl B1 B2 yb p q m w.heap.size o0 y0 o1 y1 o2 y2 o3 y3 o4 y4 o5 y5 o6 y6 o7 y7 xs xi xt zs zi zt ws wi wt) 3)) 7 ((vals11 bl B1 B2 yb p q m w.heap.size o0 y0 o1 y1 o2 y2 o3 y3 o4 y4 o5 y5 o6 y6 o7 y7 xs xi xt zs zi zt ws wi wt) 7)) 9 ((vals11 bl B1 B2 yb p q m w.heap.size o0 y0 o1 y1 o2 y2 o3 y3 o4 y4 o5 y5 o6 y6 o7 y7 xs xi xt zs zi zt ws wi wt) 9)) 13 ((vals11 bl B1 B2 yb p q m w.heap.size o0 y0 o1 y1 o2 y2 o3 y3 o4 y4 o5 y5 o6 y6 o7 y7 xs xi xt zs zi zt ws wi wt) 13)) 17 ((vals11 bl B1 B2 yb p q m w.heap.size o0 y0 o1 y1 o2 y2 o3 y3 o4 y4 o5 y5 o6 y6 o7 y7 xs xi xt zs zi zt ws wi wt) 17)) 18 ((vals11 bl B1 B2 yb p q m w.heap.size o0 y0 o1 y1 o2 y2 o3 y3 o4 y4 o5 y5 o6 y6 o7 y7 xs xi xt zs zi zt ws wi wt) 18)), rfl, rfl, (updn_ok (updn_keep (updn_keep (updn_keep (updn_keep (updn_keep (updn_keep (updn_keep HU.out 0) 1) 3) 7) 9) 13) 17) 18), updn_all f20 (by omega), HW0.out, HW1.out, HW2.out⟩
set_option maxRecDepth 100000 in
set_option maxHeartbeats 8000000 in
theorem st11_19 {bl B1 B2 gN yb p q m : Nat} {o0 y0 o1 y1 o2 y2 o3 y3 o4 y4 o5 y5 o6 y6 o7 y7 xs xi xt zs zi zt ws wi wt : Int} {t0 t2 t5 t7 t11 t12 t13 t14 t15 t16 t17 t18 t19 t20 t21 t22 t23 t24 t25 t26 t27 t28 t29 t30 t31 t32 t33 t34 t35 t36 t37 t38 t39 t40 t41 t42 t43 t63 t64 t65 t66 t67 t68 : Value} {Q : Exit → Act → World → Prop} {w W : World} {listed : Array Bool} {a : Act} {K : Act → World → Prop} (hall : Rds11 bl B1 B2 gN yb p q m o0 y0 o1 y1 o2 y2 o3 y3 o4 y4 o5 y5 o6 y6 o7 y7 xs xi xt zs zi zt ws wi wt w) (hI : (I11 bl B1 B2 gN yb p q m o0 y0 o1 y1 o2 y2 o3 y3 o4 y4 o5 y5 o6 y6 o7 y7 xs xi xt zs zi zt ws wi wt t0 t2 t5 t7 t11 t12 t13 t14 t15 t16 t17 t18 t19 t20 t21 t22 t23 t24 t25 t26 t27 t28 t29 t30 t31 t32 t33 t34 t35 t36 t37 t38 t39 t40 t41 t42 t43 t63 t64 t65 t66 t67 t68 w) listed a W) (h0 : listed.getD 19 true = false) (hdep : ∀ e ∈ (#[] : Array Edge), Region.binds .any e = true → listed.getD e.on false = true)
    (hK : ∀ a1 w1, (I11 bl B1 B2 gN yb p q m o0 y0 o1 y1 o2 y2 o3 y3 o4 y4 o5 y5 o6 y6 o7 y7 xs xi xt zs zi zt ws wi wt t0 t2 t5 t7 t11 t12 t13 t14 t15 t16 t17 t18 t19 t20 t21 t22 t23 t24 t25 t26 t27 t28 t29 t30 t31 t32 t33 t34 t35 t36 t37 t38 t39 t40 t41 t42 t43 t63 t64 t65 t66 t67 t68 w) (listed.setIfInBounds 19 true) a1 w1 → K a1 w1) : if Region.wanted { dst := some 10, op := Op.alloc 34, type := 0, pos := "witness.go:65", after := #[], guard := none } (yielded ops11 a.tmps) = true then Oper.wp Try.prog { dst := some 10, op := Op.alloc 34, type := 0, pos := "witness.go:65", after := #[], guard := none } a W K Q else K (a.put (some 10) undef) W := by
  obtain ⟨l, u, rfl, rfl, hu, hl, hw0, hw1, hw2⟩ := hI
  have HH := Lib.hid hK
  have HU := Lib.hid hu
  have HW0 := Lib.hid hw0
  have HW1 := Lib.hid hw1
  have HW2 := Lib.hid hw2
  have HALL := Lib.hid hall
  have e0 : l 19 = false := h0
  have f20 : l 20 = false := by
    cases e : l 20 with
    | false => rfl
    | true => have := hl e 19 (by omega); rw [e0] at this; cases this
  clear hl
  clear hK hu hw0 hw1 hw2 hall
  obtain rfl := HW0.out f20 e0
  clear h0 hdep
  go_simp
  refine HH.out _ _ ⟨(updn l 19 true), (updn u 19 ((vals11 bl B1 B2 yb p q m w.heap.size o0 y0 o1 y1 o2 y2 o3 y3 o4 y4 o5 y5 o6 y6 o7 y7 xs xi xt zs zi zt ws wi wt) 19)), rfl, rfl, (updn_ok HU.out 19), updn_all f20 (by omega), fun _ h => (by cases h), fun _ _ => rfl, fun h => (by rw [show updn l 19 true 20 = l 20 from rfl, f20] at h; cases h)⟩
set_option maxRecDepth 100000 in
set_option maxHeartbeats 8000000 in
theorem st11_20 {bl B1 B2 gN yb p q m : Nat} {o0 y0 o1 y1 o2 y2 o3 y3 o4 y4 o5 y5 o6 y6 o7 y7 xs xi xt zs zi zt ws wi wt : Int} {t0 t2 t5 t7 t11 t12 t13 t14 t15 t16 t17 t18 t19 t20 t21 t22 t23 t24 t25 t26 t27 t28 t29 t30 t31 t32 t33 t34 t35 t36 t37 t38 t39 t40 t41 t42 t43 t63 t64 t65 t66 t67 t68 : Value} {Q : Exit → Act → World → Prop} {w W : World} {listed : Array Bool} {a : Act} {K : Act → World → Prop} (hall : Rds11 bl B1 B2 gN yb p q m o0 y0 o1 y1 o2 y2 o3 y3 o4 y4 o5 y5 o6 y6 o7 y7 xs xi xt zs zi zt ws wi wt w) (hI : (I11 bl B1 B2 gN yb p q m o0 y0 o1 y1 o2 y2 o3 y3 o4 y4 o5 y5 o6 y6 o7 y7 xs xi xt zs zi zt ws wi wt t0 t2 t5 t7 t11 t12 t13 t14 t15 t16 t17 t18 t19 t20 t21 t22 t23 t24 t25 t26 t27 t28 t29 t30 t31 t32 t33 t34 t35 t36 t37 t38 t39 t40 t41 t42 t43 t63 t64 t65 t66 t67 t68 w) listed a W) (h0 : listed.getD 20 true = false) (hdep : ∀ e ∈ (#[{ on := 19, ground := Ground.data }, { on := 18, ground := Ground.data }, { on := 0, ground := Ground.phase }, { on := 1, ground := Ground.phase }, { on := 2, ground := Ground.phase }, { on := 3, ground := Ground.phase }, { on := 4, ground := Ground.phase }, { on := 5, ground := Ground.phase }, { on := 6, ground := Ground.phase }, { on := 7, ground := Ground.phase }, { on := 8, ground := Ground.phase }, { on := 9, ground := Ground.phase }, { on := 10, ground := Ground.phase }, { on := 11, ground := Ground.phase }, { on := 12, ground := Ground.phase }, { on := 13, ground := Ground.phase }, { on := 14, ground := Ground.phase }, { on := 15, ground := Ground.phase }, { on := 16, ground := Ground.phase }, { on := 17, ground := Ground.phase }, { on := 18, ground := Ground.phase }, { on := 19, ground := Ground.phase }] : Array Edge), Region.binds .any e = true → listed.getD e.on false = true)
    (hK : ∀ a1 w1, (I11 bl B1 B2 gN yb p q m o0 y0 o1 y1 o2 y2 o3 y3 o4 y4 o5 y5 o6 y6 o7 y7 xs xi xt zs zi zt ws wi wt t0 t2 t5 t7 t11 t12 t13 t14 t15 t16 t17 t18 t19 t20 t21 t22 t23 t24 t25 t26 t27 t28 t29 t30 t31 t32 t33 t34 t35 t36 t37 t38 t39 t40 t41 t42 t43 t63 t64 t65 t66 t67 t68 w) (listed.setIfInBounds 20 true) a1 w1 → K a1 w1) : if Region.wanted { dst := none, op := Op.store 34 (Operand.tmp 10) (Operand.tmp 62), type := 0, pos := "witness.go:65", after := #[{ on := 19, ground := Ground.data }, { on := 18, ground := Ground.data }, { on := 0, ground := Ground.phase }, { on := 1, ground := Ground.phase }, { on := 2, ground := Ground.phase }, { on := 3, ground := Ground.phase }, { on := 4, ground := Ground.phase }, { on := 5, ground := Ground.phase }, { on := 6, ground := Ground.phase }, { on := 7, ground := Ground.phase }, { on := 8, ground := Ground.phase }, { on := 9, ground := Ground.phase }, { on := 10, ground := Ground.phase }, { on := 11, ground := Ground.phase }, { on := 12, ground := Ground.phase }, { on := 13, ground := Ground.phase }, { on := 14, ground := Ground.phase }, { on := 15, ground := Ground.phase }, { on := 16, ground := Ground.phase }, { on := 17, ground := Ground.phase }, { on := 18, ground := Ground.phase }, { on := 19, ground := Ground.phase }], guard := none } (yielded ops11 a.tmps) = true then Oper.wp Try.prog { dst := none, op := Op.store 34 (Operand.tmp 10) (Operand.tmp 62), type := 0, pos := "witness.go:65", after := #[{ on := 19, ground := Ground.data }, { on := 18, ground := Ground.data }, { on := 0, ground := Ground.phase }, { on := 1, ground := Ground.phase }, { on := 2, ground := Ground.phase }, { on := 3, ground := Ground.phase }, { on := 4, ground := Ground.phase }, { on := 5, ground := Ground.phase }, { on := 6, ground := Ground.phase }, { on := 7, ground := Ground.phase }, { on := 8, ground := Ground.phase }, { on := 9, ground := Ground.phase }, { on := 10, ground := Ground.phase }, { on := 11, ground := Ground.phase }, { on := 12, ground := Ground.phase }, { on := 13, ground := Ground.phase }, { on := 14, ground := Ground.phase }, { on := 15, ground := Ground.phase }, { on := 16, ground := Ground.phase }, { on := 17, ground := Ground.phase }, { on := 18, ground := Ground.phase }, { on := 19, ground := Ground.phase }], guard := none } a W K Q else K (a.put none undef) W := by
  obtain ⟨l, u, rfl, rfl, hu, hl, hw0, hw1, hw2⟩ := hI
  have HH := Lib.hid hK
  have HU := Lib.hid hu
  have HW0 := Lib.hid hw0
  have HW1 := Lib.hid hw1
  have HW2 := Lib.hid hw2
  have HALL := Lib.hid hall
  have e0 : l 20 = false := h0
  have e1 : l 0 = true := hdep { on := 0, ground := .phase } (by simp) rfl
  have e2 : l 1 = true := hdep { on := 1, ground := .phase } (by simp) rfl
  have e3 : l 2 = true := hdep { on := 2, ground := .phase } (by simp) rfl
  have e4 : l 3 = true := hdep { on := 3, ground := .phase } (by simp) rfl
  have e5 : l 4 = true := hdep { on := 4, ground := .phase } (by simp) rfl
  have e6 : l 5 = true := hdep { on := 5, ground := .phase } (by simp) rfl
  have e7 : l 6 = true := hdep { on := 6, ground := .phase } (by simp) rfl
  have e8 : l 7 = true := hdep { on := 7, ground := .phase } (by simp) rfl
  have e9 : l 8 = true := hdep { on := 8, ground := .phase } (by simp) rfl
  have e10 : l 9 = true := hdep { on := 9, ground := .phase } (by simp) rfl
  have e11 : l 10 = true := hdep { on := 10, ground := .phase } (by simp) rfl
  have e12 : l 11 = true := hdep { on := 11, ground := .phase } (by simp) rfl
  have e13 : l 12 = true := hdep { on := 12, ground := .phase } (by simp) rfl
  have e14 : l 13 = true := hdep { on := 13, ground := .phase } (by simp) rfl
  have e15 : l 14 = true := hdep { on := 14, ground := .phase } (by simp) rfl
  have e16 : l 15 = true := hdep { on := 15, ground := .phase } (by simp) rfl
  have e17 : l 16 = true := hdep { on := 16, ground := .phase } (by simp) rfl
  have e18 : l 17 = true := hdep { on := 17, ground := .phase } (by simp) rfl
  have e19 : l 18 = true := hdep { on := 18, ground := .data } (by simp) rfl
  have e20 : l 19 = true := hdep { on := 19, ground := .data } (by simp) rfl
  clear hl
  clear hK hu hw0 hw1 hw2 hall
  obtain rfl := HW1.out e0 e20
  clear h0 hdep
  have v18 : u 18 = .agg #[.int .i64 (p : Int), .int .i64 xs, .int .i64 xi, .int .i64 xt, .int .i64 (q : Int), .int .u8 o0, .int .u8 o1, .int .u8 o2, .int .u8 o3, .int .u8 o4, .int .u8 o5, .int .u8 o6, .int .u8 o7, .int .u8 y0, .int .u8 y1, .int .u8 y2, .int .u8 y3, .int .u8 y4, .int .u8 y5, .int .u8 y6, .int .u8 y7, .int .i64 zs, .int .i64 zi, .int .i64 zt, .int .i64 ws, .int .i64 wi, .int .i64 wt, .int .i8 0] := HU.out 18 e19
  have v19 : u 19 = .pointer (some ⟨w.heap.size, 0, none⟩) := HU.out 19 e20
  refine step_store_mid rfl 34 (.tmp 10) (.tmp 62) rfl w.heap.size 0 #[.int .i64 (p : Int), .int .i64 xs, .int .i64 xi, .int .i64 xt, .int .i64 (q : Int), .int .u8 o0, .int .u8 o1, .int .u8 o2, .int .u8 o3, .int .u8 o4, .int .u8 o5, .int .u8 o6, .int .u8 o7, .int .u8 y0, .int .u8 y1, .int .u8 y2, .int .u8 y3, .int .u8 y4, .int .u8 y5, .int .u8 y6, .int .u8 y7, .int .i64 zs, .int .i64 zi, .int .i64 zt, .int .i64 ws, .int .i64 wi, .int .i64 wt, .int .i8 0] v19 v18 (((At.new w _ _).grows (Grows.refl _).drew).there 0 28 (by simp)) (by kernel_rfl) (by simp [Value.oneCell']) ?_
  refine HH.out _ _ ⟨updn l 20 true, updn u 20 ((vals11 bl B1 B2 yb p q m w.heap.size o0 y0 o1 y1 o2 y2 o3 y3 o4 y4 o5 y5 o6 y6 o7 y7 xs xi xt zs zi zt ws wi wt) 20), rfl, rfl, updn_ok HU.out 20, fun _ j hj => ?_, fun h => (by cases h), fun h => (by cases h), fun _ => rfl⟩
  have : j = 0 ∨ j = 1 ∨ j = 2 ∨ j = 3 ∨ j = 4 ∨ j = 5 ∨ j = 6 ∨ j = 7 ∨ j = 8 ∨ j = 9 ∨ j = 10 ∨ j = 11 ∨ j = 12 ∨ j = 13 ∨ j = 14 ∨ j = 15 ∨ j = 16 ∨ j = 17 ∨ j = 18 ∨ j = 19 := by omega
  rcases this with rfl | rfl | rfl | rfl | rfl | rfl | rfl | rfl | rfl | rfl | rfl | rfl | rfl | rfl | rfl | rfl | rfl | rfl | rfl | rfl <;> assumption
set_option maxRecDepth 100000 in
set_option maxHeartbeats 8000000 in
theorem dn11 {bl B1 B2 gN yb p q m : Nat} {o0 y0 o1 y1 o2 y2 o3 y3 o4 y4 o5 y5 o6 y6 o7 y7 xs xi xt zs zi zt ws wi wt : Int} {t0 t2 t5 t7 t11 t12 t13 t14 t15 t16 t17 t18 t19 t20 t21 t22 t23 t24 t25 t26 t27 t28 t29 t30 t31 t32 t33 t34 t35 t36 t37 t38 t39 t40 t41 t42 t43 t63 t64 t65 t66 t67 t68 : Value} {w W : World} {listed : Array Bool} {a : Act} (hI : (I11 bl B1 B2 gN yb p q m o0 y0 o1 y1 o2 y2 o3 y3 o4 y4 o5 y5 o6 y6 o7 y7 xs xi xt zs zi zt ws wi wt t0 t2 t5 t7 t11 t12 t13 t14 t15 t16 t17 t18 t19 t20 t21 t22 t23 t24 t25 t26 t27 t28 t29 t30 t31 t32 t33 t34 t35 t36 t37 t38 t39 t40 t41 t42 t43 t63 t64 t65 t66 t67 t68 w) listed a W) (hr : Region.ready .any ops11 listed = []) : ∃ u44 u45 u46 u47 u48 u49 u50 u51 u52 u53 u54 u55 u56 u57 u58 u59 u60 u61 u62 : Value, a = { tmps := #[t0, .pointer (some ⟨bl, 0, none⟩), t2, .pointer (some ⟨B1, 0, none⟩), .pointer (some ⟨B2, 0, none⟩), t5, .pointer (some ⟨gN, 0, none⟩), t7, .int .i64 (p : Int), .pointer (some ⟨yb, 0, none⟩), .pointer (some ⟨w.heap.size, 0, none⟩), t11, t12, t13, t14, t15, t16, t17, t18, t19, t20, t21, t22, t23, t24, t25, t26, t27, t28, t29, t30, t31, t32, t33, t34, t35, t36, t37, t38, t39, t40, t41, t42, t43, u44, u45, u46, u47, u48, u49, u50, u51, u52, u53, u54, u55, u56, u57, u58, u59, u60, u61, u62, t63, t64, t65, t66, t67, t68], defers := [] } ∧ W = ((w.alloc (.cells #[.int .i64 0, .int .i64 0, .int .i64 0, .int .i64 0, .int .i64 0, .int .u8 0, .int .u8 0, .int .u8 0, .int .u8 0, .int .u8 0, .int .u8 0, .int .u8 0, .int .u8 0, .int .u8 0, .int .u8 0, .int .u8 0, .int .u8 0, .int .u8 0, .int .u8 0, .int .u8 0, .int .u8 0, .int .i64 0, .int .i64 0, .int .i64 0, .int .i64 0, .int .i64 0, .int .i64 0, .int .i8 0] 34)).drew).setCells w.heap.size 0 (#[.int .i64 (p : Int), .int .i64 xs, .int .i64 xi, .int .i64 xt, .int .i64 (q : Int), .int .u8 o0, .int .u8 o1, .int .u8 o2, .int .u8 o3, .int .u8 o4, .int .u8 o5, .int .u8 o6, .int .u8 o7, .int .u8 y0, .int .u8 y1, .int .u8 y2, .int .u8 y3, .int .u8 y4, .int .u8 y5, .int .u8 y6, .int .u8 y7, .int .i64 zs, .int .i64 zi, .int .i64 zt, .int .i64 ws, .int .i64 wi, .int .i64 wt, .int .i8 0] : Array Value).toList := by
  obtain ⟨l, u, rfl, rfl, hu, hl, hw0, hw1, hw2⟩ := hI
  have hin : ∀ i o, ops11[i]? = some o → (#[l 0, l 1, l 2, l 3, l 4, l 5, l 6, l 7, l 8, l 9, l 10, l 11, l 12, l 13, l 14, l 15, l 16, l 17, l 18, l 19, l 20] : Array Bool).getD i true = false → (∀ e ∈ o.after, Region.binds .any e = true → (#[l 0, l 1, l 2, l 3, l 4, l 5, l 6, l 7, l 8, l 9, l 10, l 11, l 12, l 13, l 14, l 15, l 16, l 17, l 18, l 19, l 20] : Array Bool).getD e.on false = true) → False := fun i o h1 h2 h3 => by
    have := mem_ready.2 ⟨h2, o, h1, h3⟩
    rw [hr] at this; cases this
  have d0 : l 0 = true := by
    cases e : l 0 with
    | true => rfl
    | false =>
      refine (hin 0 _ rfl e (fun e he _ => ?_)).elim
      have he : e ∈ (#[] : Array Edge) := he
      simp at he
  have d1 : l 1 = true := by
    cases e : l 1 with
    | true => rfl
    | false =>
      refine (hin 1 _ rfl e (fun e he _ => ?_)).elim
      have he : e ∈ (#[] : Array Edge) := he
      simp at he
  have d2 : l 2 = true := by
    cases e : l 2 with
    | true => rfl
    | false =>
      refine (hin 2 _ rfl e (fun e he _ => ?_)).elim
      have he : e ∈ (#[] : Array Edge) := he
      simp at he
  have d3 : l 3 = true := by
    cases e : l 3 with
    | true => rfl
    | false =>
      refine (hin 3 _ rfl e (fun e he _ => ?_)).elim
      have he : e ∈ (#[{ on := 2, ground := Ground.data }] : Array Edge) := he
      simp only [List.mem_toArray, List.mem_cons, List.not_mem_nil, or_false] at he
      rcases he with rfl <;> assumption
  have d4 : l 4 = true := by
    cases e : l 4 with
    | true => rfl
    | false =>
      refine (hin 4 _ rfl e (fun e he _ => ?_)).elim
      have he : e ∈ (#[] : Array Edge) := he
      simp at he
  have d5 : l 5 = true := by
    cases e : l 5 with
    | true => rfl
    | false =>
      refine (hin 5 _ rfl e (fun e he _ => ?_)).elim
      have he : e ∈ (#[{ on := 4, ground := Ground.data }] : Array Edge) := he
      simp only [List.mem_toArray, List.mem_cons, List.not_mem_nil, or_false] at he
      rcases he with rfl <;> assumption
  have d6 : l 6 = true := by
    cases e : l 6 with
    | true => rfl
    | false =>
      refine (hin 6 _ rfl e (fun e he _ => ?_)).elim
      have he : e ∈ (#[{ on := 5, ground := Ground.data }] : Array Edge) := he
      simp only [List.mem_toArray, List.mem_cons, List.not_mem_nil, or_false] at he
      rcases he with rfl <;> assumption
  have d7 : l 7 = true := by
    cases e : l 7 with
    | true => rfl
    | false =>
      refine (hin 7 _ rfl e (fun e he _ => ?_)).elim
      have he : e ∈ (#[{ on := 6, ground := Ground.data }] : Array Edge) := he
      simp only [List.mem_toArray, List.mem_cons, List.not_mem_nil, or_false] at he
      rcases he with rfl <;> assumption
  have d8 : l 8 = true := by
    cases e : l 8 with
    | true => rfl
    | false =>
      refine (hin 8 _ rfl e (fun e he _ => ?_)).elim
      have he : e ∈ (#[] : Array Edge) := he
      simp at he
  have d9 : l 9 = true := by
    cases e : l 9 with
    | true => rfl
    | false =>
      refine (hin 9 _ rfl e (fun e he _ => ?_)).elim
      have he : e ∈ (#[{ on := 8, ground := Ground.data }] : Array Edge) := he
      simp only [List.mem_toArray, List.mem_cons, List.not_mem_nil, or_false] at he
      rcases he with rfl <;> assumption
  have d10 : l 10 = true := by
    cases e : l 10 with
    | true => rfl
    | false =>
      refine (hin 10 _ rfl e (fun e he _ => ?_)).elim
      have he : e ∈ (#[] : Array Edge) := he
      simp at he
  have d11 : l 11 = true := by
    cases e : l 11 with
    | true => rfl
    | false =>
      refine (hin 11 _ rfl e (fun e he _ => ?_)).elim
      have he : e ∈ (#[{ on := 10, ground := Ground.data }] : Array Edge) := he
      simp only [List.mem_toArray, List.mem_cons, List.not_mem_nil, or_false] at he
      rcases he with rfl <;> assumption
  have d12 : l 12 = true := by
    cases e : l 12 with
    | true => rfl
    | false =>
      refine (hin 12 _ rfl e (fun e he _ => ?_)).elim
      have he : e ∈ (#[{ on := 11, ground := Ground.data }] : Array Edge) := he
      simp only [List.mem_toArray, List.mem_cons, List.not_mem_nil, or_false] at he
      rcases he with rfl <;> assumption
  have d13 : l 13 = true := by
    cases e : l 13 with
    | true => rfl
    | false =>
      refine (hin 13 _ rfl e (fun e he _ => ?_)).elim
      have he : e ∈ (#[{ on := 12, ground := Ground.data }] : Array Edge) := he
      simp only [List.mem_toArray, List.mem_cons, List.not_mem_nil, or_false] at he
      rcases he with rfl <;> assumption
  have d14 : l 14 = true := by
    cases e : l 14 with
    | true => rfl
    | false =>
      refine (hin 14 _ rfl e (fun e he _ => ?_)).elim
      have he : e ∈ (#[] : Array Edge) := he
      simp at he
  have d15 : l 15 = true := by
    cases e : l 15 with
    | true => rfl
    | false =>
      refine (hin 15 _ rfl e (fun e he _ => ?_)).elim
      have he : e ∈ (#[{ on := 14, ground := Ground.data }] : Array Edge) := he
      simp only [List.mem_toArray, List.mem_cons, List.not_mem_nil, or_false] at he
      rcases he with rfl <;> assumption
  have d16 : l 16 = true := by
    cases e : l 16 with
    | true => rfl
    | false =>
      refine (hin 16 _ rfl e (fun e he _ => ?_)).elim
      have he : e ∈ (#[] : Array Edge) := he
      simp at he
  have d17 : l 17 = true := by
    cases e : l 17 with
    | true => rfl
    | false =>
      refine (hin 17 _ rfl e (fun e he _ => ?_)).elim
      have he : e ∈ (#[{ on := 15, ground := Ground.data }, { on := 16, ground := Ground.data }] : Array Edge) := he
      simp only [List.mem_toArray, List.mem_cons, List.not_mem_nil, or_false] at he
      rcases he with rfl | rfl <;> assumption
  have d18 : l 18 = true := by
    cases e : l 18 with
    | true => rfl
    | false =>
      refine (hin 18 _ rfl e (fun e he _ => ?_)).elim
      have he : e ∈ (#[{ on := 0, ground := Ground.data }, { on := 1, ground := Ground.data }, { on := 3, ground := Ground.data }, { on := 7, ground := Ground.data }, { on := 9, ground := Ground.data }, { on := 13, ground := Ground.data }, { on := 17, ground := Ground.data }] : Array Edge) := he
      simp only [List.mem_toArray, List.mem_cons, List.not_mem_nil, or_false] at he
      rcases he with rfl | rfl | rfl | rfl | rfl | rfl | rfl <;> assumption
  have d19 : l 19 = true := by
    cases e : l 19 with
    | true => rfl
    | false =>
      refine (hin 19 _ rfl e (fun e he _ => ?_)).elim
      have he : e ∈ (#[] : Array Edge) := he
      simp at he
  have d20 : l 20 = true := by
    cases e : l 20 with
    | true => rfl
    | false =>
      refine (hin 20 _ rfl e (fun e he _ => ?_)).elim
      have he : e ∈ (#[{ on := 19, ground := Ground.data }, { on := 18, ground := Ground.data }, { on := 0, ground := Ground.phase }, { on := 1, ground := Ground.phase }, { on := 2, ground := Ground.phase }, { on := 3, ground := Ground.phase }, { on := 4, ground := Ground.phase }, { on := 5, ground := Ground.phase }, { on := 6, ground := Ground.phase }, { on := 7, ground := Ground.phase }, { on := 8, ground := Ground.phase }, { on := 9, ground := Ground.phase }, { on := 10, ground := Ground.phase }, { on := 11, ground := Ground.phase }, { on := 12, ground := Ground.phase }, { on := 13, ground := Ground.phase }, { on := 14, ground := Ground.phase }, { on := 15, ground := Ground.phase }, { on := 16, ground := Ground.phase }, { on := 17, ground := Ground.phase }, { on := 18, ground := Ground.phase }, { on := 19, ground := Ground.phase }] : Array Edge) := he
      simp only [List.mem_toArray, List.mem_cons, List.not_mem_nil, or_false] at he
      rcases he with rfl | rfl | rfl | rfl | rfl | rfl | rfl | rfl | rfl | rfl | rfl | rfl | rfl | rfl | rfl | rfl | rfl | rfl | rfl | rfl | rfl | rfl <;> assumption
  rw [hw2 d20, hu 19 d19]
  exact ⟨_, _, _, _, _, _, _, _, _, _, _, _, _, _, _, _, _, _, _, rfl, rfl⟩
set_option maxRecDepth 100000 in
set_option maxHeartbeats 8000000 in
theorem region11 {K1 : Act → World → Prop} {Q1 : Exit → Act → World → Prop} (bl B1 B2 gN yb p q m : Nat) (o0 y0 o1 y1 o2 y2 o3 y3 o4 y4 o5 y5 o6 y6 o7 y7 xs xi xt zs zi zt ws wi wt : Int) (t0 t2 t5 t7 t11 t12 t13 t14 t15 t16 t17 t18 t19 t20 t21 t22 t23 t24 t25 t26 t27 t28 t29 t30 t31 t32 t33 t34 t35 t36 t37 t38 t39 t40 t41 t42 t43 t63 t64 t65 t66 t67 t68 : Value) (t44 t45 t46 t47 t48 t49 t50 t51 t52 t53 t54 t55 t56 t57 t58 t59 t60 t61 t62 t10 : Value) (hq : (q : Int) < 32) (w : World) (hall : Rds11 bl B1 B2 gN yb p q m o0 y0 o1 y1 o2 y2 o3 y3 o4 y4 o5 y5 o6 y6 o7 y7 xs xi xt zs zi zt ws wi wt w)
    (hK : ∀ u44 u45 u46 u47 u48 u49 u50 u51 u52 u53 u54 u55 u56 u57 u58 u59 u60 u61 u62 : Value, K1 { tmps := #[t0, .pointer (some ⟨bl, 0, none⟩), t2, .pointer (some ⟨B1, 0, none⟩), .pointer (some ⟨B2, 0, none⟩), t5, .pointer (some ⟨gN, 0, none⟩), t7, .int .i64 (p : Int), .pointer (some ⟨yb, 0, none⟩), .pointer (some ⟨w.heap.size, 0, none⟩), t11, t12, t13, t14, t15, t16, t17, t18, t19, t20, t21, t22, t23, t24, t25, t26, t27, t28, t29, t30, t31, t32, t33, t34, t35, t36, t37, t38, t39, t40, t41, t42, t43, u44, u45, u46, u47, u48, u49, u50, u51, u52, u53, u54, u55, u56, u57, u58, u59, u60, u61, u62, t63, t64, t65, t66, t67, t68], defers := [] } (((w.alloc (.cells #[.int .i64 0, .int .i64 0, .int .i64 0, .int .i64 0, .int .i64 0, .int .u8 0, .int .u8 0, .int .u8 0, .int .u8 0, .int .u8 0, .int .u8 0, .int .u8 0, .int .u8 0, .int .u8 0, .int .u8 0, .int .u8 0, .int .u8 0, .int .u8 0, .int .u8 0, .int .u8 0, .int .u8 0, .int .i64 0, .int .i64 0, .int .i64 0, .int .i64 0, .int .i64 0, .int .i64 0, .int .i8 0] 34)).drew).setCells w.heap.size 0 (#[.int .i64 (p : Int), .int .i64 xs, .int .i64 xi, .int .i64 xt, .int .i64 (q : Int), .int .u8 o0, .int .u8 o1, .int .u8 o2, .int .u8 o3, .int .u8 o4, .int .u8 o5, .int .u8 o6, .int .u8 o7, .int .u8 y0, .int .u8 y1, .int .u8 y2, .int .u8 y3, .int .u8 y4, .int .u8 y5, .int .u8 y6, .int .u8 y7, .int .i64 zs, .int .i64 zi, .int .i64 zt, .int .i64 ws, .int .i64 wi, .int .i64 wt, .int .i8 0] : Array Value).toList)) :
    (Code.region 11 ops11 true).wp Try.prog (Exit.then K1 Q1) { tmps := #[t0, .pointer (some ⟨bl, 0, none⟩), t2, .pointer (some ⟨B1, 0, none⟩), .pointer (some ⟨B2, 0, none⟩), t5, .pointer (some ⟨gN, 0, none⟩), t7, .int .i64 (p : Int), .pointer (some ⟨yb, 0, none⟩), t10, t11, t12, t13, t14, t15, t16, t17, t18, t19, t20, t21, t22, t23, t24, t25, t26, t27, t28, t29, t30, t31, t32, t33, t34, t35, t36, t37, t38, t39, t40, t41, t42, t43, t44, t45, t46, t47, t48, t49, t50, t51, t52, t53, t54, t55, t56, t57, t58, t59, t60, t61, t62, t63, t64, t65, t66, t67, t68], defers := [] } w := by
  have hq0 : (0 : Int) ≤ (q : Int) := by omega
  refine wp_region_inv (by kernel_rfl) (I11 bl B1 B2 gN yb p q m o0 y0 o1 y1 o2 y2 o3 y3 o4 y4 o5 y5 o6 y6 o7 y7 xs xi xt zs zi zt ws wi wt t0 t2 t5 t7 t11 t12 t13 t14 t15 t16 t17 t18 t19 t20 t21 t22 t23 t24 t25 t26 t27 t28 t29 t30 t31 t32 t33 t34 t35 t36 t37 t38 t39 t40 t41 t42 t43 t63 t64 t65 t66 t67 t68 w) ?start ?step ?done
  case start => exact ⟨fun _ => false, fun j => (#[t44, t45, t46, t47, t48, t49, t50, t51, t52, t53, t54, t55, t56, t57, t58, t59, t60, t61, t62, t10] : Array Value).getD j undef, rfl, rfl, fun j h => (by cases h), fun h => (by cases h), fun _ _ => rfl, fun _ h => (by cases h), fun h => (by cases h)⟩
  case done =>
    intro listed a W hI hr
    obtain ⟨u44, u45, u46, u47, u48, u49, u50, u51, u52, u53, u54, u55, u56, u57, u58, u59, u60, u61, u62, rfl, rfl⟩ := dn11 hI hr
    exact hK u44 u45 u46 u47 u48 u49 u50 u51 u52 u53 u54 u55 u56 u57 u58 u59 u60 u61 u62
  case step =>
    intro listed a W i o hI ho h0 hdep K hK
    have hi : i < 21 := (Array.getElem?_eq_some_iff.1 ho).1
    have hcs : i = 0 ∨ i = 1 ∨ i = 2 ∨ i = 3 ∨ i = 4 ∨ i = 5 ∨ i = 6 ∨ i = 7 ∨ i = 8 ∨ i = 9 ∨ i = 10 ∨ i = 11 ∨ i = 12 ∨ i = 13 ∨ i = 14 ∨ i = 15 ∨ i = 16 ∨ i = 17 ∨ i = 18 ∨ i = 19 ∨ i = 20 := by omega
    clear hi
    rcases hcs with rfl | rfl | rfl | rfl | rfl | rfl | rfl | rfl | rfl | rfl | rfl | rfl | rfl | rfl | rfl | rfl | rfl | rfl | rfl | rfl | rfl
    · obtain rfl : o = { dst := some 44, op := Op.move (Operand.tmp 8), type := 3, pos := "witness.go:65", after := #[], guard := none } := by
        have h : ops11[0]? = some { dst := some 44, op := Op.move (Operand.tmp 8), type := 3, pos := "witness.go:65", after := #[], guard := none } := rfl
        rw [h] at ho; exact (Option.some.inj ho).symm
      exact st11_0 hall hI h0 hdep hK
    · obtain rfl : o = { dst := some 45, op := Op.load 29 (Operand.tmp 6), type := 29, pos := "witness.go:65", after := #[], guard := none } := by
        have h : ops11[1]? = some { dst := some 45, op := Op.load 29 (Operand.tmp 6), type := 29, pos := "witness.go:65", after := #[], guard := none } := rfl
        rw [h] at ho; exact (Option.some.inj ho).symm
      exact st11_1 hall hI h0 hdep hK
    · obtain rfl : o = { dst := some 46, op := Op.fieldAddr 36 (Operand.tmp 9) 2, type := 0, pos := "witness.go:65", after := #[], guard := none } := by
        have h : ops11[2]? = some { dst := some 46, op := Op.fieldAddr 36 (Operand.tmp 9) 2, type := 0, pos := "witness.go:65", after := #[], guard := none } := rfl
        rw [h] at ho; exact (Option.some.inj ho).symm
      exact st11_2 hall hI h0 hdep hK
    · obtain rfl : o = { dst := some 47, op := Op.load 3 (Operand.tmp 46), type := 3, pos := "witness.go:65", after := #[{ on := 2, ground := Ground.data }], guard := none } := by
        have h : ops11[3]? = some { dst := some 47, op := Op.load 3 (Operand.tmp 46), type := 3, pos := "witness.go:65", after := #[{ on := 2, ground := Ground.data }], guard := none } := rfl
        rw [h] at ho; exact (Option.some.inj ho).symm
      exact st11_3 hall hI h0 hdep hK
    · obtain rfl : o = { dst := some 48, op := Op.fieldAddr 36 (Operand.tmp 9) 2, type := 0, pos := "witness.go:65", after := #[], guard := none } := by
        have h : ops11[4]? = some { dst := some 48, op := Op.fieldAddr 36 (Operand.tmp 9) 2, type := 0, pos := "witness.go:65", after := #[], guard := none } := rfl
        rw [h] at ho; exact (Option.some.inj ho).symm
      exact st11_4 hall hI h0 hdep hK
    · obtain rfl : o = { dst := some 49, op := Op.load 3 (Operand.tmp 48), type := 3, pos := "witness.go:65", after := #[{ on := 4, ground := Ground.data }], guard := none } := by
        have h : ops11[5]? = some { dst := some 49, op := Op.load 3 (Operand.tmp 48), type := 3, pos := "witness.go:65", after := #[{ on := 4, ground := Ground.data }], guard := none } := rfl
        rw [h] at ho; exact (Option.some.inj ho).symm
      exact st11_5 hall hI h0 hdep hK
    · obtain rfl : o = { dst := some 50, op := Op.indexAddr 46 (Operand.tmp 3) (Operand.tmp 49), type := 0, pos := "witness.go:65", after := #[{ on := 5, ground := Ground.data }], guard := none } := by
        have h : ops11[6]? = some { dst := some 50, op := Op.indexAddr 46 (Operand.tmp 3) (Operand.tmp 49), type := 0, pos := "witness.go:65", after := #[{ on := 5, ground := Ground.data }], guard := none } := rfl
        rw [h] at ho; exact (Option.some.inj ho).symm
      exact st11_6 hq0 hq hall hI h0 hdep hK
    · obtain rfl : o = { dst := some 51, op := Op.load 31 (Operand.tmp 50), type := 31, pos := "witness.go:65", after := #[{ on := 6, ground := Ground.data }], guard := none } := by
        have h : ops11[7]? = some { dst := some 51, op := Op.load 31 (Operand.tmp 50), type := 31, pos := "witness.go:65", after := #[{ on := 6, ground := Ground.data }], guard := none } := rfl
        rw [h] at ho; exact (Option.some.inj ho).symm
      exact st11_7 hall hI h0 hdep hK
    · obtain rfl : o = { dst := some 52, op := Op.fieldAddr 36 (Operand.tmp 9) 3, type := 0, pos := "witness.go:65", after := #[], guard := none } := by
        have h : ops11[8]? = some { dst := some 52, op := Op.fieldAddr 36 (Operand.tmp 9) 3, type := 0, pos := "witness.go:65", after := #[], guard := none } := rfl
        rw [h] at ho; exact (Option.some.inj ho).symm
      exact st11_8 hall hI h0 hdep hK
    · obtain rfl : o = { dst := some 53, op := Op.load 31 (Operand.tmp 52), type := 31, pos := "witness.go:65", after := #[{ on := 8, ground := Ground.data }], guard := none } := by
        have h : ops11[9]? = some { dst := some 53, op := Op.load 31 (Operand.tmp 52), type := 31, pos := "witness.go:65", after := #[{ on := 8, ground := Ground.data }], guard := none } := rfl
        rw [h] at ho; exact (Option.some.inj ho).symm
      exact st11_9 hall hI h0 hdep hK
    · obtain rfl : o = { dst := some 54, op := Op.fieldAddr 36 (Operand.tmp 9) 2, type := 0, pos := "witness.go:65", after := #[], guard := none } := by
        have h : ops11[10]? = some { dst := some 54, op := Op.fieldAddr 36 (Operand.tmp 9) 2, type := 0, pos := "witness.go:65", after := #[], guard := none } := rfl
        rw [h] at ho; exact (Option.some.inj ho).symm
      exact st11_10 hall hI h0 hdep hK
    · obtain rfl : o = { dst := some 55, op := Op.load 3 (Operand.tmp 54), type := 3, pos := "witness.go:65", after := #[{ on := 10, ground := Ground.data }], guard := none } := by
        have h : ops11[11]? = some { dst := some 55, op := Op.load 3 (Operand.tmp 54), type := 3, pos := "witness.go:65", after := #[{ on := 10, ground := Ground.data }], guard := none } := rfl
        rw [h] at ho; exact (Option.some.inj ho).symm
      exact st11_11 hall hI h0 hdep hK
    · obtain rfl : o = { dst := some 56, op := Op.indexAddr 77 (Operand.tmp 4) (Operand.tmp 55), type := 0, pos := "witness.go:65", after := #[{ on := 11, ground := Ground.data }], guard := none } := by
        have h : ops11[12]? = some { dst := some 56, op := Op.indexAddr 77 (Operand.tmp 4) (Operand.tmp 55), type := 0, pos := "witness.go:65", after := #[{ on := 11, ground := Ground.data }], guard := none } := rfl
        rw [h] at ho; exact (Option.some.inj ho).symm
      exact st11_12 hq0 hq hall hI h0 hdep hK
    · obtain rfl : o = { dst := some 57, op := Op.load 29 (Operand.tmp 56), type := 29, pos := "witness.go:65", after := #[{ on := 12, ground := Ground.data }], guard := none } := by
        have h : ops11[13]? = some { dst := some 57, op := Op.load 29 (Operand.tmp 56), type := 29, pos := "witness.go:65", after := #[{ on := 12, ground := Ground.data }], guard := none } := rfl
        rw [h] at ho; exact (Option.some.inj ho).symm
      exact st11_13 hall hI h0 hdep hK
    · obtain rfl : o = { dst := some 58, op := Op.fieldAddr 63 (Operand.tmp 1) 4, type := 0, pos := "witness.go:65", after := #[], guard := none } := by
        have h : ops11[14]? = some { dst := some 58, op := Op.fieldAddr 63 (Operand.tmp 1) 4, type := 0, pos := "witness.go:65", after := #[], guard := none } := rfl
        rw [h] at ho; exact (Option.some.inj ho).symm
      exact st11_14 hall hI h0 hdep hK
    · obtain rfl : o = { dst := some 59, op := Op.load 61 (Operand.tmp 58), type := 61, pos := "witness.go:65", after := #[{ on := 14, ground := Ground.data }], guard := none } := by
        have h : ops11[15]? = some { dst := some 59, op := Op.load 61 (Operand.tmp 58), type := 61, pos := "witness.go:65", after := #[{ on := 14, ground := Ground.data }], guard := none } := rfl
        rw [h] at ho; exact (Option.some.inj ho).symm
      exact st11_15 hall hI h0 hdep hK
    · obtain rfl : o = { dst := some 60, op := Op.move (Operand.tmp 8), type := 3, pos := "witness.go:65", after := #[], guard := none } := by
        have h : ops11[16]? = some { dst := some 60, op := Op.move (Operand.tmp 8), type := 3, pos := "witness.go:65", after := #[], guard := none } := rfl
        rw [h] at ho; exact (Option.some.inj ho).symm
      exact st11_16 hall hI h0 hdep hK
    · obtain rfl : o = { dst := some 61, op := Op.lookup 61 (Operand.tmp 59) (Operand.tmp 60) false, type := 29, pos := "witness.go:65", after := #[{ on := 15, ground := Ground.data }, { on := 16, ground := Ground.data }], guard := none } := by
        have h : ops11[17]? = some { dst := some 61, op := Op.lookup 61 (Operand.tmp 59) (Operand.tmp 60) false, type := 29, pos := "witness.go:65", after := #[{ on := 15, ground := Ground.data }, { on := 16, ground := Ground.data }], guard := none } := rfl
        rw [h] at ho; exact (Option.some.inj ho).symm
      exact st11_17 hall hI h0 hdep hK
    · obtain rfl : o = { dst := some 62, op := Op.build 34 #[(0, Operand.tmp 44), (1, Operand.tmp 45), (2, Operand.tmp 47), (3, Operand.tmp 51), (4, Operand.tmp 53), (5, Operand.tmp 57), (6, Operand.tmp 61)], type := 34, pos := "witness.go:65", after := #[{ on := 0, ground := Ground.data }, { on := 1, ground := Ground.data }, { on := 3, ground := Ground.data }, { on := 7, ground := Ground.data }, { on := 9, ground := Ground.data }, { on := 13, ground := Ground.data }, { on := 17, ground := Ground.data }], guard := none } := by
        have h : ops11[18]? = some { dst := some 62, op := Op.build 34 #[(0, Operand.tmp 44), (1, Operand.tmp 45), (2, Operand.tmp 47), (3, Operand.tmp 51), (4, Operand.tmp 53), (5, Operand.tmp 57), (6, Operand.tmp 61)], type := 34, pos := "witness.go:65", after := #[{ on := 0, ground := Ground.data }, { on := 1, ground := Ground.data }, { on := 3, ground := Ground.data }, { on := 7, ground := Ground.data }, { on := 9, ground := Ground.data }, { on := 13, ground := Ground.data }, { on := 17, ground := Ground.data }], guard := none } := rfl
        rw [h] at ho; exact (Option.some.inj ho).symm
      exact st11_18 hall hI h0 hdep hK
    · obtain rfl : o = { dst := some 10, op := Op.alloc 34, type := 0, pos := "witness.go:65", after := #[], guard := none } := by
        have h : ops11[19]? = some { dst := some 10, op := Op.alloc 34, type := 0, pos := "witness.go:65", after := #[], guard := none } := rfl
        rw [h] at ho; exact (Option.some.inj ho).symm
      exact st11_19 hall hI h0 hdep hK
    · obtain rfl : o = { dst := none, op := Op.store 34 (Operand.tmp 10) (Operand.tmp 62), type := 0, pos := "witness.go:65", after := #[{ on := 19, ground := Ground.data }, { on := 18, ground := Ground.data }, { on := 0, ground := Ground.phase }, { on := 1, ground := Ground.phase }, { on := 2, ground := Ground.phase }, { on := 3, ground := Ground.phase }, { on := 4, ground := Ground.phase }, { on := 5, ground := Ground.phase }, { on := 6, ground := Ground.phase }, { on := 7, ground := Ground.phase }, { on := 8, ground := Ground.phase }, { on := 9, ground := Ground.phase }, { on := 10, ground := Ground.phase }, { on := 11, ground := Ground.phase }, { on := 12, ground := Ground.phase }, { on := 13, ground := Ground.phase }, { on := 14, ground := Ground.phase }, { on := 15, ground := Ground.phase }, { on := 16, ground := Ground.phase }, { on := 17, ground := Ground.phase }, { on := 18, ground := Ground.phase }, { on := 19, ground := Ground.phase }], guard := none } := by
        have h : ops11[20]? = some { dst := none, op := Op.store 34 (Operand.tmp 10) (Operand.tmp 62), type := 0, pos := "witness.go:65", after := #[{ on := 19, ground := Ground.data }, { on := 18, ground := Ground.data }, { on := 0, ground := Ground.phase }, { on := 1, ground := Ground.phase }, { on := 2, ground := Ground.phase }, { on := 3, ground := Ground.phase }, { on := 4, ground := Ground.phase }, { on := 5, ground := Ground.phase }, { on := 6, ground := Ground.phase }, { on := 7, ground := Ground.phase }, { on := 8, ground := Ground.phase }, { on := 9, ground := Ground.phase }, { on := 10, ground := Ground.phase }, { on := 11, ground := Ground.phase }, { on := 12, ground := Ground.phase }, { on := 13, ground := Ground.phase }, { on := 14, ground := Ground.phase }, { on := 15, ground := Ground.phase }, { on := 16, ground := Ground.phase }, { on := 17, ground := Ground.phase }, { on := 18, ground := Ground.phase }, { on := 19, ground := Ground.phase }], guard := none } := rfl
        rw [h] at ho; exact (Option.some.inj ho).symm
      exact st11_20 hall hI h0 hdep hK
end Go.Proofs.Ytfigoeoimefngaa
