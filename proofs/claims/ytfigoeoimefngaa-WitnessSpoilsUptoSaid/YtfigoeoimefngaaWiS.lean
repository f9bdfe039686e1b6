/-
  witness.view.reads: the region of a write.
-/
import Derived.Test.YtfigoeoimefngaaWiG
import Derived.Test.YtfigoeoimefngaaZa
namespace Go.Proofs.Ytfigoeoimefngaa
open Go.RowKit Go.Maps Go.Shelf
attribute [local go_sem] Oper.semAt_some

def vals10 (B1 B2 yb q : Nat) (y0 y1 y2 y3 y4 y5 y6 y7 xs xi xt : Int) (i : Nat) : Value := (#[.pointer (some ⟨yb, 4, none⟩), .int .i64 (q : Int), .pointer (some ⟨yb, 4, none⟩), .int .i64 (q : Int), .pointer (some ⟨yb, 5, none⟩), .agg #[.int .u8 y0, .int .u8 y1, .int .u8 y2, .int .u8 y3, .int .u8 y4, .int .u8 y5, .int .u8 y6, .int .u8 y7], .agg #[.int .i64 xs, .int .i64 xi, .int .i64 xt], .pointer (some ⟨B1, q * 8, none⟩), undef, .pointer (some ⟨B2, q * 3, none⟩), undef] : Array Value).getD i undef
def ops10 : Array Oper := #[{ dst := some 35, op := Op.fieldAddr 36 (Operand.tmp 9) 2, type := 0, pos := "witness.go:62", after := #[], guard := none },
      { dst := some 36, op := Op.load 3 (Operand.tmp 35), type := 3, pos := "witness.go:62", after := #[{ on := 0, ground := Ground.data }], guard := none },
      { dst := some 37, op := Op.fieldAddr 36 (Operand.tmp 9) 2, type := 0, pos := "witness.go:62", after := #[{ on := 8, ground := Ground.gcOnly Departure.lateStores }], guard := none },
      { dst := some 38, op := Op.load 3 (Operand.tmp 37), type := 3, pos := "witness.go:62", after := #[{ on := 2, ground := Ground.data }, { on := 8, ground := Ground.gcOnly Departure.lateStores }], guard := none },
      { dst := some 39, op := Op.fieldAddr 36 (Operand.tmp 9) 3, type := 0, pos := "witness.go:62", after := #[], guard := none },
      { dst := some 40, op := Op.load 31 (Operand.tmp 39), type := 31, pos := "witness.go:62", after := #[{ on := 4, ground := Ground.data }], guard := none },
      { dst := some 41, op := Op.load 29 (Operand.tmp 6), type := 29, pos := "witness.go:62", after := #[{ on := 8, ground := Ground.gcOnly Departure.lateStores }], guard := none },
      { dst := some 42, op := Op.indexAddr 46 (Operand.tmp 3) (Operand.tmp 36), type := 0, pos := "witness.go:62", after := #[{ on := 1, ground := Ground.data }, { on := 0, ground := Ground.phase }, { on := 1, ground := Ground.phase }, { on := 2, ground := Ground.textOnly Departure.lateStores }, { on := 3, ground := Ground.textOnly Departure.lateStores }, { on := 4, ground := Ground.phase }, { on := 5, ground := Ground.phase }, { on := 6, ground := Ground.textOnly Departure.lateStores }], guard := none },
      { dst := none, op := Op.store 31 (Operand.tmp 42) (Operand.tmp 40), type := 0, pos := "witness.go:62", after := #[{ on := 7, ground := Ground.data }, { on := 5, ground := Ground.data }, { on := 0, ground := Ground.phase }, { on := 1, ground := Ground.phase }, { on := 2, ground := Ground.textOnly Departure.lateStores }, { on := 3, ground := Ground.textOnly Departure.lateStores }, { on := 4, ground := Ground.phase }, { on := 5, ground := Ground.phase }, { on := 6, ground := Ground.textOnly Departure.lateStores }], guard := none },
      { dst := some 43, op := Op.indexAddr 77 (Operand.tmp 4) (Operand.tmp 38), type := 0, pos := "witness.go:62", after := #[{ on := 3, ground := Ground.data }, { on := 0, ground := Ground.phase }, { on := 1, ground := Ground.phase }, { on := 2, ground := Ground.phase }, { on := 3, ground := Ground.phase }, { on := 4, ground := Ground.phase }, { on := 5, ground := Ground.phase }, { on := 6, ground := Ground.phase }, { on := 7, ground := Ground.phase }, { on := 8, ground := Ground.phase }], guard := none },
      { dst := none, op := Op.store 29 (Operand.tmp 43) (Operand.tmp 41), type := 0, pos := "witness.go:62", after := #[{ on := 9, ground := Ground.data }, { on := 6, ground := Ground.data }, { on := 8, ground := Ground.chain }, { on := 0, ground := Ground.phase }, { on := 1, ground := Ground.phase }, { on := 2, ground := Ground.phase }, { on := 3, ground := Ground.phase }, { on := 4, ground := Ground.phase }, { on := 5, ground := Ground.phase }, { on := 6, ground := Ground.phase }, { on := 7, ground := Ground.phase }, { on := 8, ground := Ground.phase }], guard := none }]
/-- What the region reads; where it stores. -/
def Rds10 (B1 B2 gN yb q : Nat) (y0 y1 y2 y3 y4 y5 y6 y7 xs xi xt : Int) (w : World) : Prop := (∀ Wq, Wq = w.drew ∨ Wq = (w.drew.setCells B1 (q * 8) (#[.int .u8 y0, .int .u8 y1, .int .u8 y2, .int .u8 y3, .int .u8 y4, .int .u8 y5, .int .u8 y6, .int .u8 y7] : Array Value).toList) → Wq.cell? ⟨yb, 4, none⟩ = some (.int .i64 (q : Int)) ∧ Wq.cell? ⟨yb, 5, none⟩ = some (.int .u8 y0) ∧ Wq.cell? ⟨yb, 6, none⟩ = some (.int .u8 y1) ∧ Wq.cell? ⟨yb, 7, none⟩ = some (.int .u8 y2) ∧ Wq.cell? ⟨yb, 8, none⟩ = some (.int .u8 y3) ∧ Wq.cell? ⟨yb, 9, none⟩ = some (.int .u8 y4) ∧ Wq.cell? ⟨yb, 10, none⟩ = some (.int .u8 y5) ∧ Wq.cell? ⟨yb, 11, none⟩ = some (.int .u8 y6) ∧ Wq.cell? ⟨yb, 12, none⟩ = some (.int .u8 y7) ∧ Wq.cell? ⟨gN, 0, none⟩ = some (.int .i64 xs) ∧ Wq.cell? ⟨gN, 1, none⟩ = some (.int .i64 xi) ∧ Wq.cell? ⟨gN, 2, none⟩ = some (.int .i64 xt)) ∧ w.drew.there B1 (q * 8) 8 ∧ (w.drew.setCells B1 (q * 8) (#[.int .u8 y0, .int .u8 y1, .int .u8 y2, .int .u8 y3, .int .u8 y4, .int .u8 y5, .int .u8 y6, .int .u8 y7] : Array Value).toList).there B2 (q * 3) 3
/-- What holds wherever some of the operations have come up. -/
def I10 (B1 B2 gN yb q : Nat) (y0 y1 y2 y3 y4 y5 y6 y7 xs xi xt : Int) (t0 t1 t2 t5 t7 t8 t10 t11 t12 t13 t14 t15 t16 t17 t18 t19 t20 t21 t22 t23 t24 t25 t26 t27 t28 t29 t30 t31 t32 t33 t34 t44 t45 t46 t47 t48 t49 t50 t51 t52 t53 t54 t55 t56 t57 t58 t59 t60 t61 t62 t63 t64 t65 t66 t67 t68 : Value) (w : World) : Array Bool → Act → World → Prop := fun (listed : Array Bool) (a : Act) (W : World) => ∃ (l : Nat → Bool) (u : Nat → Value), listed = #[l 0, l 1, l 2, l 3, l 4, l 5, l 6, l 7, l 8, l 9, l 10] ∧ a = { tmps := #[t0, t1, t2, .pointer (some ⟨B1, 0, none⟩), .pointer (some ⟨B2, 0, none⟩), t5, .pointer (some ⟨gN, 0, none⟩), t7, t8, .pointer (some ⟨yb, 0, none⟩), t10, t11, t12, t13, t14, t15, t16, t17, t18, t19, t20, t21, t22, t23, t24, t25, t26, t27, t28, t29, t30, t31, t32, t33, t34, u 0, u 1, u 2, u 3, u 4, u 5, u 6, u 7, u 9, t44, t45, t46, t47, t48, t49, t50, t51, t52, t53, t54, t55, t56, t57, t58, t59, t60, t61, t62, t63, t64, t65, t66, t67, t68], defers := [] } ∧ (∀ j, l j = true → u j = (vals10 B1 B2 yb q y0 y1 y2 y3 y4 y5 y6 y7 xs xi xt) j) ∧ (l 10 = true → ∀ j, j < 10 → l j = true) ∧ (l 8 = false → W = w.drew) ∧ (l 8 = true → l 10 = false → W = (w.drew.setCells B1 (q * 8) (#[.int .u8 y0, .int .u8 y1, .int .u8 y2, .int .u8 y3, .int .u8 y4, .int .u8 y5, .int .u8 y6, .int .u8 y7] : Array Value).toList)) ∧ (l 10 = true → W = ((w.drew.setCells B1 (q * 8) (#[.int .u8 y0, .int .u8 y1, .int .u8 y2, .int .u8 y3, .int .u8 y4, .int .u8 y5, .int .u8 y6, .int .u8 y7] : Array Value).toList).setCells B2 (q * 3) (#[.int .i64 xs, .int .i64 xi, .int .i64 xt] : Array Value).toList))
set_option maxRecDepth 100000 in
set_option maxHeartbeats 8000000 in
theorem st10_0 {B1 B2 gN yb q : Nat} {y0 y1 y2 y3 y4 y5 y6 y7 xs xi xt : Int} {t0 t1 t2 t5 t7 t8 t10 t11 t12 t13 t14 t15 t16 t17 t18 t19 t20 t21 t22 t23 t24 t25 t26 t27 t28 t29 t30 t31 t32 t33 t34 t44 t45 t46 t47 t48 t49 t50 t51 t52 t53 t54 t55 t56 t57 t58 t59 t60 t61 t62 t63 t64 t65 t66 t67 t68 : Value} {Q : Exit → Act → World → Prop} {w W : World} {listed : Array Bool} {a : Act} {K : Act → World → Prop} (hall : Rds10 B1 B2 gN yb q y0 y1 y2 y3 y4 y5 y6 y7 xs xi xt w) (hI : (I10 B1 B2 gN yb q y0 y1 y2 y3 y4 y5 y6 y7 xs xi xt t0 t1 t2 t5 t7 t8 t10 t11 t12 t13 t14 t15 t16 t17 t18 t19 t20 t21 t22 t23 t24 t25 t26 t27 t28 t29 t30 t31 t32 t33 t34 t44 t45 t46 t47 t48 t49 t50 t51 t52 t53 t54 t55 t56 t57 t58 t59 t60 t61 t62 t63 t64 t65 t66 t67 t68 w) listed a W) (h0 : listed.getD 0 true = false) (hdep : ∀ e ∈ (#[] : Array Edge), Region.binds .any e = true → listed.getD e.on false = true)
    (hK : ∀ a1 w1, (I10 B1 B2 gN yb q y0 y1 y2 y3 y4 y5 y6 y7 xs xi xt t0 t1 t2 t5 t7 t8 t10 t11 t12 t13 t14 t15 t16 t17 t18 t19 t20 t21 t22 t23 t24 t25 t26 t27 t28 t29 t30 t31 t32 t33 t34 t44 t45 t46 t47 t48 t49 t50 t51 t52 t53 t54 t55 t56 t57 t58 t59 t60 t61 t62 t63 t64 t65 t66 t67 t68 w) (listed.setIfInBounds 0 true) a1 w1 → K a1 w1) : if Region.wanted { dst := some 35, op := Op.fieldAddr 36 (Operand.tmp 9) 2, type := 0, pos := "witness.go:62", after := #[], guard := none } (yielded ops10 a.tmps) = true then Oper.wp Try.prog { dst := some 35, op := Op.fieldAddr 36 (Operand.tmp 9) 2, type := 0, pos := "witness.go:62", after := #[], guard := none } a W K Q else K (a.put (some 35) undef) W := by
  obtain ⟨l, u, rfl, rfl, hu, hl, hw0, hw1, hw2⟩ := hI
  have HH := Lib.hid hK
  have HU := Lib.hid hu
  have HW0 := Lib.hid hw0
  have HW1 := Lib.hid hw1
  have HW2 := Lib.hid hw2
  have HALL := Lib.hid hall
  have e0 : l 0 = false := h0
  have f20 : l 10 = false := by
    cases e : l 10 with
    | false => rfl
    | true => have := hl e 0 (by omega); rw [e0] at this; cases this
  clear hl
  clear hK hu hw0 hw1 hw2 hall
  have hgw : W = w.drew ∨ W = (w.drew.setCells B1 (q * 8) (#[.int .u8 y0, .int .u8 y1, .int .u8 y2, .int .u8 y3, .int .u8 y4, .int .u8 y5, .int .u8 y6, .int .u8 y7] : Array Value).toList) := by
    cases e : l 8 with
    | false => exact .inl (HW0.out e)
    | true => exact .inr (HW1.out e f20)
  clear h0 hdep
  clear e0
  go_simp
  exact HH.out _ _ ⟨updn l 0 true, (updn u 0 ((vals10 B1 B2 yb q y0 y1 y2 y3 y4 y5 y6 y7 xs xi xt) 0)), rfl, rfl, (updn_ok HU.out 0), updn_all f20 (by omega), HW0.out, HW1.out, HW2.out⟩
set_option maxRecDepth 100000 in
set_option maxHeartbeats 8000000 in
theorem st10_1 {B1 B2 gN yb q : Nat} {y0 y1 y2 y3 y4 y5 y6 y7 xs xi xt : Int} {t0 t1 t2 t5 t7 t8 t10 t11 t12 t13 t14 t15 t16 t17 t18 t19 t20 t21 t22 t23 t24 t25 t26 t27 t28 t29 t30 t31 t32 t33 t34 t44 t45 t46 t47 t48 t49 t50 t51 t52 t53 t54 t55 t56 t57 t58 t59 t60 t61 t62 t63 t64 t65 t66 t67 t68 : Value} {Q : Exit → Act → World → Prop} {w W : World} {listed : Array Bool} {a : Act} {K : Act → World → Prop} (hall : Rds10 B1 B2 gN yb q y0 y1 y2 y3 y4 y5 y6 y7 xs xi xt w) (hI : (I10 B1 B2 gN yb q y0 y1 y2 y3 y4 y5 y6 y7 xs xi xt t0 t1 t2 t5 t7 t8 t10 t11 t12 t13 t14 t15 t16 t17 t18 t19 t20 t21 t22 t23 t24 t25 t26 t27 t28 t29 t30 t31 t32 t33 t34 t44 t45 t46 t47 t48 t49 t50 t51 t52 t53 t54 t55 t56 t57 t58 t59 t60 t61 t62 t63 t64 t65 t66 t67 t68 w) listed a W) (h0 : listed.getD 1 true = false) (hdep : ∀ e ∈ (#[{ on := 0, ground := Ground.data }] : Array Edge), Region.binds .any e = true → listed.getD e.on false = true)
    (hK : ∀ a1 w1, (I10 B1 B2 gN yb q y0 y1 y2 y3 y4 y5 y6 y7 xs xi xt t0 t1 t2 t5 t7 t8 t10 t11 t12 t13 t14 t15 t16 t17 t18 t19 t20 t21 t22 t23 t24 t25 t26 t27 t28 t29 t30 t31 t32 t33 t34 t44 t45 t46 t47 t48 t49 t50 t51 t52 t53 t54 t55 t56 t57 t58 t59 t60 t61 t62 t63 t64 t65 t66 t67 t68 w) (listed.setIfInBounds 1 true) a1 w1 → K a1 w1) : if Region.wanted { dst := some 36, op := Op.load 3 (Operand.tmp 35), type := 3, pos := "witness.go:62", after := #[{ on := 0, ground := Ground.data }], guard := none } (yielded ops10 a.tmps) = true then Oper.wp Try.prog { dst := some 36, op := Op.load 3 (Operand.tmp 35), type := 3, pos := "witness.go:62", after := #[{ on := 0, ground := Ground.data }], guard := none } a W K Q else K (a.put (some 36) undef) W := by
  obtain ⟨l, u, rfl, rfl, hu, hl, hw0, hw1, hw2⟩ := hI
  have HH := Lib.hid hK
  have HU := Lib.hid hu
  have HW0 := Lib.hid hw0
  have HW1 := Lib.hid hw1
  have HW2 := Lib.hid hw2
  have HALL := Lib.hid hall
  have e0 : l 1 = false := h0
  have e1 : l 0 = true := hdep { on := 0, ground := .data } (by simp) rfl
  have f20 : l 10 = false := by
    cases e : l 10 with
    | false => rfl
    | true => have := hl e 1 (by omega); rw [e0] at this; cases this
  clear hl
  clear hK hu hw0 hw1 hw2 hall
  have hgw : W = w.drew ∨ W = (w.drew.setCells B1 (q * 8) (#[.int .u8 y0, .int .u8 y1, .int .u8 y2, .int .u8 y3, .int .u8 y4, .int .u8 y5, .int .u8 y6, .int .u8 y7] : Array Value).toList) := by
    cases e : l 8 with
    | false => exact .inl (HW0.out e)
    | true => exact .inr (HW1.out e f20)
  clear h0 hdep
  have v0 : u 0 = .pointer (some ⟨yb, 4, none⟩) := HU.out 0 e1
  obtain ⟨cb, cv0, cv1, cv2, cv3, cv4, cv5, cv6, cv7, cn0, cn1, cn2⟩ := HALL.out.1 W hgw
  rw [v0]
  clear v0
  clear e1 e0
  go_simp
  exact HH.out _ _ ⟨updn l 1 true, (updn (updn u 0 ((vals10 B1 B2 yb q y0 y1 y2 y3 y4 y5 y6 y7 xs xi xt) 0)) 1 ((vals10 B1 B2 yb q y0 y1 y2 y3 y4 y5 y6 y7 xs xi xt) 1)), rfl, rfl, (updn_ok (updn_keep HU.out 0) 1), updn_all f20 (by omega), HW0.out, HW1.out, HW2.out⟩
set_option maxRecDepth 100000 in
set_option maxHeartbeats 8000000 in
theorem st10_2 {B1 B2 gN yb q : Nat} {y0 y1 y2 y3 y4 y5 y6 y7 xs xi xt : Int} {t0 t1 t2 t5 t7 t8 t10 t11 t12 t13 t14 t15 t16 t17 t18 t19 t20 t21 t22 t23 t24 t25 t26 t27 t28 t29 t30 t31 t32 t33 t34 t44 t45 t46 t47 t48 t49 t50 t51 t52 t53 t54 t55 t56 t57 t58 t59 t60 t61 t62 t63 t64 t65 t66 t67 t68 : Value} {Q : Exit → Act → World → Prop} {w W : World} {listed : Array Bool} {a : Act} {K : Act → World → Prop} (hall : Rds10 B1 B2 gN yb q y0 y1 y2 y3 y4 y5 y6 y7 xs xi xt w) (hI : (I10 B1 B2 gN yb q y0 y1 y2 y3 y4 y5 y6 y7 xs xi xt t0 t1 t2 t5 t7 t8 t10 t11 t12 t13 t14 t15 t16 t17 t18 t19 t20 t21 t22 t23 t24 t25 t26 t27 t28 t29 t30 t31 t32 t33 t34 t44 t45 t46 t47 t48 t49 t50 t51 t52 t53 t54 t55 t56 t57 t58 t59 t60 t61 t62 t63 t64 t65 t66 t67 t68 w) listed a W) (h0 : listed.getD 2 true = false) (hdep : ∀ e ∈ (#[{ on := 8, ground := Ground.gcOnly Departure.lateStores }] : Array Edge), Region.binds .any e = true → listed.getD e.on false = true)
    (hK : ∀ a1 w1, (I10 B1 B2 gN yb q y0 y1 y2 y3 y4 y5 y6 y7 xs xi xt t0 t1 t2 t5 t7 t8 t10 t11 t12 t13 t14 t15 t16 t17 t18 t19 t20 t21 t22 t23 t24 t25 t26 t27 t28 t29 t30 t31 t32 t33 t34 t44 t45 t46 t47 t48 t49 t50 t51 t52 t53 t54 t55 t56 t57 t58 t59 t60 t61 t62 t63 t64 t65 t66 t67 t68 w) (listed.setIfInBounds 2 true) a1 w1 → K a1 w1) : if Region.wanted { dst := some 37, op := Op.fieldAddr 36 (Operand.tmp 9) 2, type := 0, pos := "witness.go:62", after := #[{ on := 8, ground := Ground.gcOnly Departure.lateStores }], guard := none } (yielded ops10 a.tmps) = true then Oper.wp Try.prog { dst := some 37, op := Op.fieldAddr 36 (Operand.tmp 9) 2, type := 0, pos := "witness.go:62", after := #[{ on := 8, ground := Ground.gcOnly Departure.lateStores }], guard := none } a W K Q else K (a.put (some 37) undef) W := by
  obtain ⟨l, u, rfl, rfl, hu, hl, hw0, hw1, hw2⟩ := hI
  have HH := Lib.hid hK
  have HU := Lib.hid hu
  have HW0 := Lib.hid hw0
  have HW1 := Lib.hid hw1
  have HW2 := Lib.hid hw2
  have HALL := Lib.hid hall
  have e0 : l 2 = false := h0
  have f20 : l 10 = false := by
    cases e : l 10 with
    | false => rfl
    | true => have := hl e 2 (by omega); rw [e0] at this; cases this
  clear hl
  clear hK hu hw0 hw1 hw2 hall
  have hgw : W = w.drew ∨ W = (w.drew.setCells B1 (q * 8) (#[.int .u8 y0, .int .u8 y1, .int .u8 y2, .int .u8 y3, .int .u8 y4, .int .u8 y5, .int .u8 y6, .int .u8 y7] : Array Value).toList) := by
    cases e : l 8 with
    | false => exact .inl (HW0.out e)
    | true => exact .inr (HW1.out e f20)
  clear h0 hdep
  clear e0
  go_simp
  exact HH.out _ _ ⟨updn l 2 true, (updn u 2 ((vals10 B1 B2 yb q y0 y1 y2 y3 y4 y5 y6 y7 xs xi xt) 2)), rfl, rfl, (updn_ok HU.out 2), updn_all f20 (by omega), HW0.out, HW1.out, HW2.out⟩
set_option maxRecDepth 100000 in
set_option maxHeartbeats 8000000 in
theorem st10_3 {B1 B2 gN yb q : Nat} {y0 y1 y2 y3 y4 y5 y6 y7 xs xi xt : Int} {t0 t1 t2 t5 t7 t8 t10 t11 t12 t13 t14 t15 t16 t17 t18 t19 t20 t21 t22 t23 t24 t25 t26 t27 t28 t29 t30 t31 t32 t33 t34 t44 t45 t46 t47 t48 t49 t50 t51 t52 t53 t54 t55 t56 t57 t58 t59 t60 t61 t62 t63 t64 t65 t66 t67 t68 : Value} {Q : Exit → Act → World → Prop} {w W : World} {listed : Array Bool} {a : Act} {K : Act → World → Prop} (hall : Rds10 B1 B2 gN yb q y0 y1 y2 y3 y4 y5 y6 y7 xs xi xt w) (hI : (I10 B1 B2 gN yb q y0 y1 y2 y3 y4 y5 y6 y7 xs xi xt t0 t1 t2 t5 t7 t8 t10 t11 t12 t13 t14 t15 t16 t17 t18 t19 t20 t21 t22 t23 t24 t25 t26 t27 t28 t29 t30 t31 t32 t33 t34 t44 t45 t46 t47 t48 t49 t50 t51 t52 t53 t54 t55 t56 t57 t58 t59 t60 t61 t62 t63 t64 t65 t66 t67 t68 w) listed a W) (h0 : listed.getD 3 true = false) (hdep : ∀ e ∈ (#[{ on := 2, ground := Ground.data }, { on := 8, ground := Ground.gcOnly Departure.lateStores }] : Array Edge), Region.binds .any e = true → listed.getD e.on false = true)
    (hK : ∀ a1 w1, (I10 B1 B2 gN yb q y0 y1 y2 y3 y4 y5 y6 y7 xs xi xt t0 t1 t2 t5 t7 t8 t10 t11 t12 t13 t14 t15 t16 t17 t18 t19 t20 t21 t22 t23 t24 t25 t26 t27 t28 t29 t30 t31 t32 t33 t34 t44 t45 t46 t47 t48 t49 t50 t51 t52 t53 t54 t55 t56 t57 t58 t59 t60 t61 t62 t63 t64 t65 t66 t67 t68 w) (listed.setIfInBounds 3 true) a1 w1 → K a1 w1) : if Region.wanted { dst := some 38, op := Op.load 3 (Operand.tmp 37), type := 3, pos := "witness.go:62", after := #[{ on := 2, ground := Ground.data }, { on := 8, ground := Ground.gcOnly Departure.lateStores }], guard := none } (yielded ops10 a.tmps) = true then Oper.wp Try.prog { dst := some 38, op := Op.load 3 (Operand.tmp 37), type := 3, pos := "witness.go:62", after := #[{ on := 2, ground := Ground.data }, { on := 8, ground := Ground.gcOnly Departure.lateStores }], guard := none } a W K Q else K (a.put (some 38) undef) W := by
  obtain ⟨l, u, rfl, rfl, hu, hl, hw0, hw1, hw2⟩ := hI
  have HH := Lib.hid hK
  have HU := Lib.hid hu
  have HW0 := Lib.hid hw0
  have HW1 := Lib.hid hw1
  have HW2 := Lib.hid hw2
  have HALL := Lib.hid hall
  have e0 : l 3 = false := h0
  have e3 : l 2 = true := hdep { on := 2, ground := .data } (by simp) rfl
  have f20 : l 10 = false := by
    cases e : l 10 with
    | false => rfl
    | true => have := hl e 3 (by omega); rw [e0] at this; cases this
  clear hl
  clear hK hu hw0 hw1 hw2 hall
  have hgw : W = w.drew ∨ W = (w.drew.setCells B1 (q * 8) (#[.int .u8 y0, .int .u8 y1, .int .u8 y2, .int .u8 y3, .int .u8 y4, .int .u8 y5, .int .u8 y6, .int .u8 y7] : Array Value).toList) := by
    cases e : l 8 with
    | false => exact .inl (HW0.out e)
    | true => exact .inr (HW1.out e f20)
  clear h0 hdep
  have v2 : u 2 = .pointer (some ⟨yb, 4, none⟩) := HU.out 2 e3
  obtain ⟨cb, cv0, cv1, cv2, cv3, cv4, cv5, cv6, cv7, cn0, cn1, cn2⟩ := HALL.out.1 W hgw
  rw [v2]
  clear v2
  clear e3 e0
  go_simp
  exact HH.out _ _ ⟨updn l 3 true, (updn (updn u 2 ((vals10 B1 B2 yb q y0 y1 y2 y3 y4 y5 y6 y7 xs xi xt) 2)) 3 ((vals10 B1 B2 yb q y0 y1 y2 y3 y4 y5 y6 y7 xs xi xt) 3)), rfl, rfl, (updn_ok (updn_keep HU.out 2) 3), updn_all f20 (by omega), HW0.out, HW1.out, HW2.out⟩
set_option maxRecDepth 100000 in
set_option maxHeartbeats 8000000 in
theorem st10_4 {B1 B2 gN yb q : Nat} {y0 y1 y2 y3 y4 y5 y6 y7 xs xi xt : Int} {t0 t1 t2 t5 t7 t8 t10 t11 t12 t13 t14 t15 t16 t17 t18 t19 t20 t21 t22 t23 t24 t25 t26 t27 t28 t29 t30 t31 t32 t33 t34 t44 t45 t46 t47 t48 t49 t50 t51 t52 t53 t54 t55 t56 t57 t58 t59 t60 t61 t62 t63 t64 t65 t66 t67 t68 : Value} {Q : Exit → Act → World → Prop} {w W : World} {listed : Array Bool} {a : Act} {K : Act → World → Prop} (hall : Rds10 B1 B2 gN yb q y0 y1 y2 y3 y4 y5 y6 y7 xs xi xt w) (hI : (I10 B1 B2 gN yb q y0 y1 y2 y3 y4 y5 y6 y7 xs xi xt t0 t1 t2 t5 t7 t8 t10 t11 t12 t13 t14 t15 t16 t17 t18 t19 t20 t21 t22 t23 t24 t25 t26 t27 t28 t29 t30 t31 t32 t33 t34 t44 t45 t46 t47 t48 t49 t50 t51 t52 t53 t54 t55 t56 t57 t58 t59 t60 t61 t62 t63 t64 t65 t66 t67 t68 w) listed a W) (h0 : listed.getD 4 true = false) (hdep : ∀ e ∈ (#[] : Array Edge), Region.binds .any e = true → listed.getD e.on false = true)
    (hK : ∀ a1 w1, (I10 B1 B2 gN yb q y0 y1 y2 y3 y4 y5 y6 y7 xs xi xt t0 t1 t2 t5 t7 t8 t10 t11 t12 t13 t14 t15 t16 t17 t18 t19 t20 t21 t22 t23 t24 t25 t26 t27 t28 t29 t30 t31 t32 t33 t34 t44 t45 t46 t47 t48 t49 t50 t51 t52 t53 t54 t55 t56 t57 t58 t59 t60 t61 t62 t63 t64 t65 t66 t67 t68 w) (listed.setIfInBounds 4 true) a1 w1 → K a1 w1) : if Region.wanted { dst := some 39, op := Op.fieldAddr 36 (Operand.tmp 9) 3, type := 0, pos := "witness.go:62", after := #[], guard := none } (yielded ops10 a.tmps) = true then Oper.wp Try.prog { dst := some 39, op := Op.fieldAddr 36 (Operand.tmp 9) 3, type := 0, pos := "witness.go:62", after := #[], guard := none } a W K Q else K (a.put (some 39) undef) W := by
  obtain ⟨l, u, rfl, rfl, hu, hl, hw0, hw1, hw2⟩ := hI
  have HH := Lib.hid hK
  have HU := Lib.hid hu
  have HW0 := Lib.hid hw0
  have HW1 := Lib.hid hw1
  have HW2 := Lib.hid hw2
  have HALL := Lib.hid hall
  have e0 : l 4 = false := h0
  have f20 : l 10 = false := by
    cases e : l 10 with
    | false => rfl
    | true => have := hl e 4 (by omega); rw [e0] at this; cases this
  clear hl
  clear hK hu hw0 hw1 hw2 hall
  have hgw : W = w.drew ∨ W = (w.drew.setCells B1 (q * 8) (#[.int .u8 y0, .int .u8 y1, .int .u8 y2, .int .u8 y3, .int .u8 y4, .int .u8 y5, .int .u8 y6, .int .u8 y7] : Array Value).toList) := by
    cases e : l 8 with
    | false => exact .inl (HW0.out e)
    | true => exact .inr (HW1.out e f20)
  clear h0 hdep
  clear e0
  go_simp
  exact HH.out _ _ ⟨updn l 4 true, (updn u 4 ((vals10 B1 B2 yb q y0 y1 y2 y3 y4 y5 y6 y7 xs xi xt) 4)), rfl, rfl, (updn_ok HU.out 4), updn_all f20 (by omega), HW0.out, HW1.out, HW2.out⟩
set_option maxRecDepth 100000 in
set_option maxHeartbeats 8000000 in
theorem st10_5 {B1 B2 gN yb q : Nat} {y0 y1 y2 y3 y4 y5 y6 y7 xs xi xt : Int} {t0 t1 t2 t5 t7 t8 t10 t11 t12 t13 t14 t15 t16 t17 t18 t19 t20 t21 t22 t23 t24 t25 t26 t27 t28 t29 t30 t31 t32 t33 t34 t44 t45 t46 t47 t48 t49 t50 t51 t52 t53 t54 t55 t56 t57 t58 t59 t60 t61 t62 t63 t64 t65 t66 t67 t68 : Value} {Q : Exit → Act → World → Prop} {w W : World} {listed : Array Bool} {a : Act} {K : Act → World → Prop} (hall : Rds10 B1 B2 gN yb q y0 y1 y2 y3 y4 y5 y6 y7 xs xi xt w) (hI : (I10 B1 B2 gN yb q y0 y1 y2 y3 y4 y5 y6 y7 xs xi xt t0 t1 t2 t5 t7 t8 t10 t11 t12 t13 t14 t15 t16 t17 t18 t19 t20 t21 t22 t23 t24 t25 t26 t27 t28 t29 t30 t31 t32 t33 t34 t44 t45 t46 t47 t48 t49 t50 t51 t52 t53 t54 t55 t56 t57 t58 t59 t60 t61 t62 t63 t64 t65 t66 t67 t68 w) listed a W) (h0 : listed.getD 5 true = false) (hdep : ∀ e ∈ (#[{ on := 4, ground := Ground.data }] : Array Edge), Region.binds .any e = true → listed.getD e.on false = true)
    (hK : ∀ a1 w1, (I10 B1 B2 gN yb q y0 y1 y2 y3 y4 y5 y6 y7 xs xi xt t0 t1 t2 t5 t7 t8 t10 t11 t12 t13 t14 t15 t16 t17 t18 t19 t20 t21 t22 t23 t24 t25 t26 t27 t28 t29 t30 t31 t32 t33 t34 t44 t45 t46 t47 t48 t49 t50 t51 t52 t53 t54 t55 t56 t57 t58 t59 t60 t61 t62 t63 t64 t65 t66 t67 t68 w) (listed.setIfInBounds 5 true) a1 w1 → K a1 w1) : if Region.wanted { dst := some 40, op := Op.load 31 (Operand.tmp 39), type := 31, pos := "witness.go:62", after := #[{ on := 4, ground := Ground.data }], guard := none } (yielded ops10 a.tmps) = true then Oper.wp Try.prog { dst := some 40, op := Op.load 31 (Operand.tmp 39), type := 31, pos := "witness.go:62", after := #[{ on := 4, ground := Ground.data }], guard := none } a W K Q else K (a.put (some 40) undef) W := by
  obtain ⟨l, u, rfl, rfl, hu, hl, hw0, hw1, hw2⟩ := hI
  have HH := Lib.hid hK
  have HU := Lib.hid hu
  have HW0 := Lib.hid hw0
  have HW1 := Lib.hid hw1
  have HW2 := Lib.hid hw2
  have HALL := Lib.hid hall
  have e0 : l 5 = false := h0
  have e5 : l 4 = true := hdep { on := 4, ground := .data } (by simp) rfl
  have f20 : l 10 = false := by
    cases e : l 10 with
    | false => rfl
    | true => have := hl e 5 (by omega); rw [e0] at this; cases this
  clear hl
  clear hK hu hw0 hw1 hw2 hall
  have hgw : W = w.drew ∨ W = (w.drew.setCells B1 (q * 8) (#[.int .u8 y0, .int .u8 y1, .int .u8 y2, .int .u8 y3, .int .u8 y4, .int .u8 y5, .int .u8 y6, .int .u8 y7] : Array Value).toList) := by
    cases e : l 8 with
    | false => exact .inl (HW0.out e)
    | true => exact .inr (HW1.out e f20)
  clear h0 hdep
  have v4 : u 4 = .pointer (some ⟨yb, 5, none⟩) := HU.out 4 e5
  obtain ⟨cb, cv0, cv1, cv2, cv3, cv4, cv5, cv6, cv7, cn0, cn1, cn2⟩ := HALL.out.1 W hgw
  rw [v4]
  clear v4
  clear e5 e0
  go_simp
  exact HH.out _ _ ⟨updn l 5 true, (updn (updn u 4 ((vals10 B1 B2 yb q y0 y1 y2 y3 y4 y5 y6 y7 xs xi xt) 4)) 5 ((vals10 B1 B2 yb q y0 y1 y2 y3 y4 y5 y6 y7 xs xi xt) 5)), rfl, rfl, (updn_ok (updn_keep HU.out 4) 5), updn_all f20 (by omega), HW0.out, HW1.out, HW2.out⟩
set_option maxRecDepth 100000 in
set_option maxHeartbeats 8000000 in
theorem st10_6 {B1 B2 gN yb q : Nat} {y0 y1 y2 y3 y4 y5 y6 y7 xs xi xt : Int} {t0 t1 t2 t5 t7 t8 t10 t11 t12 t13 t14 t15 t16 t17 t18 t19 t20 t21 t22 t23 t24 t25 t26 t27 t28 t29 t30 t31 t32 t33 t34 t44 t45 t46 t47 t48 t49 t50 t51 t52 t53 t54 t55 t56 t57 t58 t59 t60 t61 t62 t63 t64 t65 t66 t67 t68 : Value} {Q : Exit → Act → World → Prop} {w W : World} {listed : Array Bool} {a : Act} {K : Act → World → Prop} (hall : Rds10 B1 B2 gN yb q y0 y1 y2 y3 y4 y5 y6 y7 xs xi xt w) (hI : (I10 B1 B2 gN yb q y0 y1 y2 y3 y4 y5 y6 y7 xs xi xt t0 t1 t2 t5 t7 t8 t10 t11 t12 t13 t14 t15 t16 t17 t18 t19 t20 t21 t22 t23 t24 t25 t26 t27 t28 t29 t30 t31 t32 t33 t34 t44 t45 t46 t47 t48 t49 t50 t51 t52 t53 t54 t55 t56 t57 t58 t59 t60 t61 t62 t63 t64 t65 t66 t67 t68 w) listed a W) (h0 : listed.getD 6 true = false) (hdep : ∀ e ∈ (#[{ on := 8, ground := Ground.gcOnly Departure.lateStores }] : Array Edge), Region.binds .any e = true → listed.getD e.on false = true)
    (hK : ∀ a1 w1, (I10 B1 B2 gN yb q y0 y1 y2 y3 y4 y5 y6 y7 xs xi xt t0 t1 t2 t5 t7 t8 t10 t11 t12 t13 t14 t15 t16 t17 t18 t19 t20 t21 t22 t23 t24 t25 t26 t27 t28 t29 t30 t31 t32 t33 t34 t44 t45 t46 t47 t48 t49 t50 t51 t52 t53 t54 t55 t56 t57 t58 t59 t60 t61 t62 t63 t64 t65 t66 t67 t68 w) (listed.setIfInBounds 6 true) a1 w1 → K a1 w1) : if Region.wanted { dst := some 41, op := Op.load 29 (Operand.tmp 6), type := 29, pos := "witness.go:62", after := #[{ on := 8, ground := Ground.gcOnly Departure.lateStores }], guard := none } (yielded ops10 a.tmps) = true then Oper.wp Try.prog { dst := some 41, op := Op.load 29 (Operand.tmp 6), type := 29, pos := "witness.go:62", after := #[{ on := 8, ground := Ground.gcOnly Departure.lateStores }], guard := none } a W K Q else K (a.put (some 41) undef) W := by
  obtain ⟨l, u, rfl, rfl, hu, hl, hw0, hw1, hw2⟩ := hI
  have HH := Lib.hid hK
  have HU := Lib.hid hu
  have HW0 := Lib.hid hw0
  have HW1 := Lib.hid hw1
  have HW2 := Lib.hid hw2
  have HALL := Lib.hid hall
  have e0 : l 6 = false := h0
  have f20 : l 10 = false := by
    cases e : l 10 with
    | false => rfl
    | true => have := hl e 6 (by omega); rw [e0] at this; cases this
  clear hl
  clear hK hu hw0 hw1 hw2 hall
  have hgw : W = w.drew ∨ W = (w.drew.setCells B1 (q * 8) (#[.int .u8 y0, .int .u8 y1, .int .u8 y2, .int .u8 y3, .int .u8 y4, .int .u8 y5, .int .u8 y6, .int .u8 y7] : Array Value).toList) := by
    cases e : l 8 with
    | false => exact .inl (HW0.out e)
    | true => exact .inr (HW1.out e f20)
  clear h0 hdep
  obtain ⟨cb, cv0, cv1, cv2, cv3, cv4, cv5, cv6, cv7, cn0, cn1, cn2⟩ := HALL.out.1 W hgw
  clear e0
  go_simp
  exact HH.out _ _ ⟨updn l 6 true, (updn u 6 ((vals10 B1 B2 yb q y0 y1 y2 y3 y4 y5 y6 y7 xs xi xt) 6)), rfl, rfl, (updn_ok HU.out 6), updn_all f20 (by omega), HW0.out, HW1.out, HW2.out⟩
set_option maxRecDepth 100000 in
set_option maxHeartbeats 8000000 in
theorem st10_7 {B1 B2 gN yb q : Nat} {y0 y1 y2 y3 y4 y5 y6 y7 xs xi xt : Int} {t0 t1 t2 t5 t7 t8 t10 t11 t12 t13 t14 t15 t16 t17 t18 t19 t20 t21 t22 t23 t24 t25 t26 t27 t28 t29 t30 t31 t32 t33 t34 t44 t45 t46 t47 t48 t49 t50 t51 t52 t53 t54 t55 t56 t57 t58 t59 t60 t61 t62 t63 t64 t65 t66 t67 t68 : Value} {Q : Exit → Act → World → Prop} {w W : World} {listed : Array Bool} {a : Act} {K : Act → World → Prop} (hq0 : (0 : Int) ≤ (q : Int)) (hq : (q : Int) < 32) (hall : Rds10 B1 B2 gN yb q y0 y1 y2 y3 y4 y5 y6 y7 xs xi xt w) (hI : (I10 B1 B2 gN yb q y0 y1 y2 y3 y4 y5 y6 y7 xs xi xt t0 t1 t2 t5 t7 t8 t10 t11 t12 t13 t14 t15 t16 t17 t18 t19 t20 t21 t22 t23 t24 t25 t26 t27 t28 t29 t30 t31 t32 t33 t34 t44 t45 t46 t47 t48 t49 t50 t51 t52 t53 t54 t55 t56 t57 t58 t59 t60 t61 t62 t63 t64 t65 t66 t67 t68 w) listed a W) (h0 : listed.getD 7 true = false) (hdep : ∀ e ∈ (#[{ on := 1, ground := Ground.data }, { on := 0, ground := Ground.phase }, { on := 1, ground := Ground.phase }, { on := 2, ground := Ground.textOnly Departure.lateStores }, { on := 3, ground := Ground.textOnly Departure.lateStores }, { on := 4, ground := Ground.phase }, { on := 5, ground := Ground.phase }, { on := 6, ground := Ground.textOnly Departure.lateStores }] : Array Edge), Region.binds .any e = true → listed.getD e.on false = true)
    (hK : ∀ a1 w1, (I10 B1 B2 gN yb q y0 y1 y2 y3 y4 y5 y6 y7 xs xi xt t0 t1 t2 t5 t7 t8 t10 t11 t12 t13 t14 t15 t16 t17 t18 t19 t20 t21 t22 t23 t24 t25 t26 t27 t28 t29 t30 t31 t32 t33 t34 t44 t45 t46 t47 t48 t49 t50 t51 t52 t53 t54 t55 t56 t57 t58 t59 t60 t61 t62 t63 t64 t65 t66 t67 t68 w) (listed.setIfInBounds 7 true) a1 w1 → K a1 w1) : if Region.wanted { dst := some 42, op := Op.indexAddr 46 (Operand.tmp 3) (Operand.tmp 36), type := 0, pos := "witness.go:62", after := #[{ on := 1, ground := Ground.data }, { on := 0, ground := Ground.phase }, { on := 1, ground := Ground.phase }, { on := 2, ground := Ground.textOnly Departure.lateStores }, { on := 3, ground := Ground.textOnly Departure.lateStores }, { on := 4, ground := Ground.phase }, { on := 5, ground := Ground.phase }, { on := 6, ground := Ground.textOnly Departure.lateStores }], guard := none } (yielded ops10 a.tmps) = true then Oper.wp Try.prog { dst := some 42, op := Op.indexAddr 46 (Operand.tmp 3) (Operand.tmp 36), type := 0, pos := "witness.go:62", after := #[{ on := 1, ground := Ground.data }, { on := 0, ground := Ground.phase }, { on := 1, ground := Ground.phase }, { on := 2, ground := Ground.textOnly Departure.lateStores }, { on := 3, ground := Ground.textOnly Departure.lateStores }, { on := 4, ground := Ground.phase }, { on := 5, ground := Ground.phase }, { on := 6, ground := Ground.textOnly Departure.lateStores }], guard := none } a W K Q else K (a.put (some 42) undef) W := by
  obtain ⟨l, u, rfl, rfl, hu, hl, hw0, hw1, hw2⟩ := hI
  have HH := Lib.hid hK
  have HU := Lib.hid hu
  have HW0 := Lib.hid hw0
  have HW1 := Lib.hid hw1
  have HW2 := Lib.hid hw2
  have HALL := Lib.hid hall
  have e0 : l 7 = false := h0
  have e1 : l 0 = true := hdep { on := 0, ground := .phase } (by simp) rfl
  have e2 : l 1 = true := hdep { on := 1, ground := .data } (by simp) rfl
  have e5 : l 4 = true := hdep { on := 4, ground := .phase } (by simp) rfl
  have e6 : l 5 = true := hdep { on := 5, ground := .phase } (by simp) rfl
  have f20 : l 10 = false := by
    cases e : l 10 with
    | false => rfl
    | true => have := hl e 7 (by omega); rw [e0] at this; cases this
  clear hl
  clear hK hu hw0 hw1 hw2 hall
  have hgw : W = w.drew ∨ W = (w.drew.setCells B1 (q * 8) (#[.int .u8 y0, .int .u8 y1, .int .u8 y2, .int .u8 y3, .int .u8 y4, .int .u8 y5, .int .u8 y6, .int .u8 y7] : Array Value).toList) := by
    cases e : l 8 with
    | false => exact .inl (HW0.out e)
    | true => exact .inr (HW1.out e f20)
  clear h0 hdep
  have v1 : u 1 = .int .i64 (q : Int) := HU.out 1 e2
  rw [v1]
  clear v1
  clear e1 e2 e5 e6 e0
  go_simp
  exact HH.out _ _ ⟨updn l 7 true, (updn (updn u 1 ((vals10 B1 B2 yb q y0 y1 y2 y3 y4 y5 y6 y7 xs xi xt) 1)) 7 ((vals10 B1 B2 yb q y0 y1 y2 y3 y4 y5 y6 y7 xs xi xt) 7)), rfl, rfl, (updn_ok (updn_keep HU.out 1) 7), updn_all f20 (by omega), HW0.out, HW1.out, HW2.out⟩
set_option maxRecDepth 100000 in
set_option maxHeartbeats 8000000 in
theorem st10_8 {B1 B2 gN yb q : Nat} {y0 y1 y2 y3 y4 y5 y6 y7 xs xi xt : Int} {t0 t1 t2 t5 t7 t8 t10 t11 t12 t13 t14 t15 t16 t17 t18 t19 t20 t21 t22 t23 t24 t25 t26 t27 t28 t29 t30 t31 t32 t33 t34 t44 t45 t46 t47 t48 t49 t50 t51 t52 t53 t54 t55 t56 t57 t58 t59 t60 t61 t62 t63 t64 t65 t66 t67 t68 : Value} {Q : Exit → Act → World → Prop} {w W : World} {listed : Array Bool} {a : Act} {K : Act → World → Prop} (hall : Rds10 B1 B2 gN yb q y0 y1 y2 y3 y4 y5 y6 y7 xs xi xt w) (hI : (I10 B1 B2 gN yb q y0 y1 y2 y3 y4 y5 y6 y7 xs xi xt t0 t1 t2 t5 t7 t8 t10 t11 t12 t13 t14 t15 t16 t17 t18 t19 t20 t21 t22 t23 t24 t25 t26 t27 t28 t29 t30 t31 t32 t33 t34 t44 t45 t46 t47 t48 t49 t50 t51 t52 t53 t54 t55 t56 t57 t58 t59 t60 t61 t62 t63 t64 t65 t66 t67 t68 w) listed a W) (h0 : listed.getD 8 true = false) (hdep : ∀ e ∈ (#[{ on := 7, ground := Ground.data }, { on := 5, ground := Ground.data }, { on := 0, ground := Ground.phase }, { on := 1, ground := Ground.phase }, { on := 2, ground := Ground.textOnly Departure.lateStores }, { on := 3, ground := Ground.textOnly Departure.lateStores }, { on := 4, ground := Ground.phase }, { on := 5, ground := Ground.phase }, { on := 6, ground := Ground.textOnly Departure.lateStores }] : Array Edge), Region.binds .any e = true → listed.getD e.on false = true)
    (hK : ∀ a1 w1, (I10 B1 B2 gN yb q y0 y1 y2 y3 y4 y5 y6 y7 xs xi xt t0 t1 t2 t5 t7 t8 t10 t11 t12 t13 t14 t15 t16 t17 t18 t19 t20 t21 t22 t23 t24 t25 t26 t27 t28 t29 t30 t31 t32 t33 t34 t44 t45 t46 t47 t48 t49 t50 t51 t52 t53 t54 t55 t56 t57 t58 t59 t60 t61 t62 t63 t64 t65 t66 t67 t68 w) (listed.setIfInBounds 8 true) a1 w1 → K a1 w1) : if Region.wanted { dst := none, op := Op.store 31 (Operand.tmp 42) (Operand.tmp 40), type := 0, pos := "witness.go:62", after := #[{ on := 7, ground := Ground.data }, { on := 5, ground := Ground.data }, { on := 0, ground := Ground.phase }, { on := 1, ground := Ground.phase }, { on := 2, ground := Ground.textOnly Departure.lateStores }, { on := 3, ground := Ground.textOnly Departure.lateStores }, { on := 4, ground := Ground.phase }, { on := 5, ground := Ground.phase }, { on := 6, ground := Ground.textOnly Departure.lateStores }], guard := none } (yielded ops10 a.tmps) = true then Oper.wp Try.prog { dst := none, op := Op.store 31 (Operand.tmp 42) (Operand.tmp 40), type := 0, pos := "witness.go:62", after := #[{ on := 7, ground := Ground.data }, { on := 5, ground := Ground.data }, { on := 0, ground := Ground.phase }, { on := 1, ground := Ground.phase }, { on := 2, ground := Ground.textOnly Departure.lateStores }, { on := 3, ground := Ground.textOnly Departure.lateStores }, { on := 4, ground := Ground.phase }, { on := 5, ground := Ground.phase }, { on := 6, ground := Ground.textOnly Departure.lateStores }], guard := none } a W K Q else K (a.put none undef) W := by
  obtain ⟨l, u, rfl, rfl, hu, hl, hw0, hw1, hw2⟩ := hI
  have HH := Lib.hid hK
  have HU := Lib.hid hu
  have HW0 := Lib.hid hw0
  have HW1 := Lib.hid hw1
  have HW2 := Lib.hid hw2
  have HALL := Lib.hid hall
  have e0 : l 8 = false := h0
  have e1 : l 0 = true := hdep { on := 0, ground := .phase } (by simp) rfl
  have e2 : l 1 = true := hdep { on := 1, ground := .phase } (by simp) rfl
  have e5 : l 4 = true := hdep { on := 4, ground := .phase } (by simp) rfl
  have e6 : l 5 = true := hdep { on := 5, ground := .data } (by simp) rfl
  have e8 : l 7 = true := hdep { on := 7, ground := .data } (by simp) rfl
  have f20 : l 10 = false := by
    cases e : l 10 with
    | false => rfl
    | true => have := hl e 8 (by omega); rw [e0] at this; cases this
  clear hl
  clear hK hu hw0 hw1 hw2 hall
  obtain rfl := HW0.out e0
  clear h0 hdep
  have v5 : u 5 = .agg #[.int .u8 y0, .int .u8 y1, .int .u8 y2, .int .u8 y3, .int .u8 y4, .int .u8 y5, .int .u8 y6, .int .u8 y7] := HU.out 5 e6
  have v7 : u 7 = .pointer (some ⟨B1, q * 8, none⟩) := HU.out 7 e8
  refine step_store_mid rfl 31 (.tmp 42) (.tmp 40) rfl B1 (q * 8) #[.int .u8 y0, .int .u8 y1, .int .u8 y2, .int .u8 y3, .int .u8 y4, .int .u8 y5, .int .u8 y6, .int .u8 y7] v7 v5 HALL.out.2.1 (by kernel_rfl) (by simp [Value.oneCell']) ?_
  refine HH.out _ _ ⟨updn l 8 true, updn u 8 ((vals10 B1 B2 yb q y0 y1 y2 y3 y4 y5 y6 y7 xs xi xt) 8), rfl, rfl, updn_ok HU.out 8, updn_all f20 (by omega), fun h => (by cases h), fun _ _ => rfl, fun h => (by rw [show updn l 8 true 10 = l 10 from rfl, f20] at h; cases h)⟩
set_option maxRecDepth 100000 in
set_option maxHeartbeats 8000000 in
theorem st10_9 {B1 B2 gN yb q : Nat} {y0 y1 y2 y3 y4 y5 y6 y7 xs xi xt : Int} {t0 t1 t2 t5 t7 t8 t10 t11 t12 t13 t14 t15 t16 t17 t18 t19 t20 t21 t22 t23 t24 t25 t26 t27 t28 t29 t30 t31 t32 t33 t34 t44 t45 t46 t47 t48 t49 t50 t51 t52 t53 t54 t55 t56 t57 t58 t59 t60 t61 t62 t63 t64 t65 t66 t67 t68 : Value} {Q : Exit → Act → World → Prop} {w W : World} {listed : Array Bool} {a : Act} {K : Act → World → Prop} (hq0 : (0 : Int) ≤ (q : Int)) (hq : (q : Int) < 32) (hall : Rds10 B1 B2 gN yb q y0 y1 y2 y3 y4 y5 y6 y7 xs xi xt w) (hI : (I10 B1 B2 gN yb q y0 y1 y2 y3 y4 y5 y6 y7 xs xi xt t0 t1 t2 t5 t7 t8 t10 t11 t12 t13 t14 t15 t16 t17 t18 t19 t20 t21 t22 t23 t24 t25 t26 t27 t28 t29 t30 t31 t32 t33 t34 t44 t45 t46 t47 t48 t49 t50 t51 t52 t53 t54 t55 t56 t57 t58 t59 t60 t61 t62 t63 t64 t65 t66 t67 t68 w) listed a W) (h0 : listed.getD 9 true = false) (hdep : ∀ e ∈ (#[{ on := 3, ground := Ground.data }, { on := 0, ground := Ground.phase }, { on := 1, ground := Ground.phase }, { on := 2, ground := Ground.phase }, { on := 3, ground := Ground.phase }, { on := 4, ground := Ground.phase }, { on := 5, ground := Ground.phase }, { on := 6, ground := Ground.phase }, { on := 7, ground := Ground.phase }, { on := 8, ground := Ground.phase }] : Array Edge), Region.binds .any e = true → listed.getD e.on false = true)
    (hK : ∀ a1 w1, (I10 B1 B2 gN yb q y0 y1 y2 y3 y4 y5 y6 y7 xs xi xt t0 t1 t2 t5 t7 t8 t10 t11 t12 t13 t14 t15 t16 t17 t18 t19 t20 t21 t22 t23 t24 t25 t26 t27 t28 t29 t30 t31 t32 t33 t34 t44 t45 t46 t47 t48 t49 t50 t51 t52 t53 t54 t55 t56 t57 t58 t59 t60 t61 t62 t63 t64 t65 t66 t67 t68 w) (listed.setIfInBounds 9 true) a1 w1 → K a1 w1) : if Region.wanted { dst := some 43, op := Op.indexAddr 77 (Operand.tmp 4) (Operand.tmp 38), type := 0, pos := "witness.go:62", after := #[{ on := 3, ground := Ground.data }, { on := 0, ground := Ground.phase }, { on := 1, ground := Ground.phase }, { on := 2, ground := Ground.phase }, { on := 3, ground := Ground.phase }, { on := 4, ground := Ground.phase }, { on := 5, ground := Ground.phase }, { on := 6, ground := Ground.phase }, { on := 7, ground := Ground.phase }, { on := 8, ground := Ground.phase }], guard := none } (yielded ops10 a.tmps) = true then Oper.wp Try.prog { dst := some 43, op := Op.indexAddr 77 (Operand.tmp 4) (Operand.tmp 38), type := 0, pos := "witness.go:62", after := #[{ on := 3, ground := Ground.data }, { on := 0, ground := Ground.phase }, { on := 1, ground := Ground.phase }, { on := 2, ground := Ground.phase }, { on := 3, ground := Ground.phase }, { on := 4, ground := Ground.phase }, { on := 5, ground := Ground.phase }, { on := 6, ground := Ground.phase }, { on := 7, ground := Ground.phase }, { on := 8, ground := Ground.phase }], guard := none } a W K Q else K (a.put (some 43) undef) W := by
  obtain ⟨l, u, rfl, rfl, hu, hl, hw0, hw1, hw2⟩ := hI
  have HH := Lib.hid hK
  have HU := Lib.hid hu
  have HW0 := Lib.hid hw0
  have HW1 := Lib.hid hw1
  have HW2 := Lib.hid hw2
  have HALL := Lib.hid hall
  have e0 : l 9 = false := h0
  have e1 : l 0 = true := hdep { on := 0, ground := .phase } (by simp) rfl
  have e2 : l 1 = true := hdep { on := 1, ground := .phase } (by simp) rfl
  have e3 : l 2 = true := hdep { on := 2, ground := .phase } (by simp) rfl
  have e4 : l 3 = true := hdep { on := 3, ground := .data } (by simp) rfl
  have e5 : l 4 = true := hdep { on := 4, ground := .phase } (by simp) rfl
  have e6 : l 5 = true := hdep { on := 5, ground := .phase } (by simp) rfl
  have e7 : l 6 = true := hdep { on := 6, ground := .phase } (by simp) rfl
  have e8 : l 7 = true := hdep { on := 7, ground := .phase } (by simp) rfl
  have e9 : l 8 = true := hdep { on := 8, ground := .phase } (by simp) rfl
  have f20 : l 10 = false := by
    cases e : l 10 with
    | false => rfl
    | true => have := hl e 9 (by omega); rw [e0] at this; cases this
  clear hl
  clear hK hu hw0 hw1 hw2 hall
  have hgw : W = w.drew ∨ W = (w.drew.setCells B1 (q * 8) (#[.int .u8 y0, .int .u8 y1, .int .u8 y2, .int .u8 y3, .int .u8 y4, .int .u8 y5, .int .u8 y6, .int .u8 y7] : Array Value).toList) := by
    cases e : l 8 with
    | false => exact .inl (HW0.out e)
    | true => exact .inr (HW1.out e f20)
  clear h0 hdep
  have v3 : u 3 = .int .i64 (q : Int) := HU.out 3 e4
  rw [v3]
  clear v3
  clear e1 e2 e3 e4 e5 e6 e7 e8 e9 e0
  go_simp
  exact HH.out _ _ ⟨updn l 9 true, (updn (updn u 3 ((vals10 B1 B2 yb q y0 y1 y2 y3 y4 y5 y6 y7 xs xi xt) 3)) 9 ((vals10 B1 B2 yb q y0 y1 y2 y3 y4 y5 y6 y7 xs xi xt) 9)), rfl, rfl, (updn_ok (updn_keep HU.out 3) 9), updn_all f20 (by omega), HW0.out, HW1.out, HW2.out⟩
set_option maxRecDepth 100000 in
set_option maxHeartbeats 8000000 in
theorem st10_10 {B1 B2 gN yb q : Nat} {y0 y1 y2 y3 y4 y5 y6 y7 xs xi xt : Int} {t0 t1 t2 t5 t7 t8 t10 t11 t12 t13 t14 t15 t16 t17 t18 t19 t20 t21 t22 t23 t24 t25 t26 t27 t28 t29 t30 t31 t32 t33 t34 t44 t45 t46 t47 t48 t49 t50 t51 t52 t53 t54 t55 t56 t57 t58 t59 t60 t61 t62 t63 t64 t65 t66 t67 t68 : Value} {Q : Exit → Act → World → Prop} {w W : World} {listed : Array Bool} {a : Act} {K : Act → World → Prop} (hall : Rds10 B1 B2 gN yb q y0 y1 y2 y3 y4 y5 y6 y7 xs xi xt w) (hI : (I10 B1 B2 gN yb q y0 y1 y2 y3 y4 y5 y6 y7 xs xi xt t0 t1 t2 t5 t7 t8 t10 t11 t12 t13 t14 t15 t16 t17 t18 t19 t20 t21 t22 t23 t24 t25 t26 t27 t28 t29 t30 t31 t32 t33 t34 t44 t45 t46 t47 t48 t49 t50 t51 t52 t53 t54 t55 t56 t57 t58 t59 t60 t61 t62 t63 t64 t65 t66 t67 t68 w) listed a W) (h0 : listed.getD 10 true = false) (hdep : ∀ e ∈ (#[{ on := 9, ground := Ground.data }, { on := 6, ground := Ground.data }, { on := 8, ground := Ground.chain }, { on := 0, ground := Ground.phase }, { on := 1, ground := Ground.phase }, { on := 2, ground := Ground.phase }, { on := 3, ground := Ground.phase }, { on := 4, ground := Ground.phase }, { on := 5, ground := Ground.phase }, { on := 6, ground := Ground.phase }, { on := 7, ground := Ground.phase }, { on := 8, ground := Ground.phase }] : Array Edge), Region.binds .any e = true → listed.getD e.on false = true)
    (hK : ∀ a1 w1, (I10 B1 B2 gN yb q y0 y1 y2 y3 y4 y5 y6 y7 xs xi xt t0 t1 t2 t5 t7 t8 t10 t11 t12 t13 t14 t15 t16 t17 t18 t19 t20 t21 t22 t23 t24 t25 t26 t27 t28 t29 t30 t31 t32 t33 t34 t44 t45 t46 t47 t48 t49 t50 t51 t52 t53 t54 t55 t56 t57 t58 t59 t60 t61 t62 t63 t64 t65 t66 t67 t68 w) (listed.setIfInBounds 10 true) a1 w1 → K a1 w1) : if Region.wanted { dst := none, op := Op.store 29 (Operand.tmp 43) (Operand.tmp 41), type := 0, pos := "witness.go:62", after := #[{ on := 9, ground := Ground.data }, { on := 6, ground := Ground.data }, { on := 8, ground := Ground.chain }, { on := 0, ground := Ground.phase }, { on := 1, ground := Ground.phase }, { on := 2, ground := Ground.phase }, { on := 3, ground := Ground.phase }, { on := 4, ground := Ground.phase }, { on := 5, ground := Ground.phase }, { on := 6, ground := Ground.phase }, { on := 7, ground := Ground.phase }, { on := 8, ground := Ground.phase }], guard := none } (yielded ops10 a.tmps) = true then Oper.wp Try.prog { dst := none, op := Op.store 29 (Operand.tmp 43) (Operand.tmp 41), type := 0, pos := "witness.go:62", after := #[{ on := 9, ground := Ground.data }, { on := 6, ground := Ground.data }, { on := 8, ground := Ground.chain }, { on := 0, ground := Ground.phase }, { on := 1, ground := Ground.phase }, { on := 2, ground := Ground.phase }, { on := 3, ground := Ground.phase }, { on := 4, ground := Ground.phase }, { on := 5, ground := Ground.phase }, { on := 6, ground := Ground.phase }, { on := 7, ground := Ground.phase }, { on := 8, ground := Ground.phase }], guard := none } a W K Q else K (a.put none undef) W := by
  obtain ⟨l, u, rfl, rfl, hu, hl, hw0, hw1, hw2⟩ := hI
  have HH := Lib.hid hK
  have HU := Lib.hid hu
  have HW0 := Lib.hid hw0
  have HW1 := Lib.hid hw1
  have HW2 := Lib.hid hw2
  have HALL := Lib.hid hall
  have e0 : l 10 = false := h0
  have e1 : l 0 = true := hdep { on := 0, ground := .phase } (by simp) rfl
  have e2 : l 1 = true := hdep { on := 1, ground := .phase } (by simp) rfl
  have e3 : l 2 = true := hdep { on := 2, ground := .phase } (by simp) rfl
  have e4 : l 3 = true := hdep { on := 3, ground := .phase } (by simp) rfl
  have e5 : l 4 = true := hdep { on := 4, ground := .phase } (by simp) rfl
  have e6 : l 5 = true := hdep { on := 5, ground := .phase } (by simp) rfl
  have e7 : l 6 = true := hdep { on := 6, ground := .data } (by simp) rfl
  have e8 : l 7 = true := hdep { on := 7, ground := .phase } (by simp) rfl
  have e9 : l 8 = true := hdep { on := 8, ground := .phase } (by simp) rfl
  have e10 : l 9 = true := hdep { on := 9, ground := .data } (by simp) rfl
  clear hl
  clear hK hu hw0 hw1 hw2 hall
  obtain rfl := HW1.out e9 e0
  clear h0 hdep
  have v6 : u 6 = .agg #[.int .i64 xs, .int .i64 xi, .int .i64 xt] := HU.out 6 e7
  have v9 : u 9 = .pointer (some ⟨B2, q * 3, none⟩) := HU.out 9 e10
  refine step_store_mid rfl 29 (.tmp 43) (.tmp 41) rfl B2 (q * 3) #[.int .i64 xs, .int .i64 xi, .int .i64 xt] v9 v6 HALL.out.2.2 (by kernel_rfl) (by simp [Value.oneCell']) ?_
  refine HH.out _ _ ⟨updn l 10 true, updn u 10 ((vals10 B1 B2 yb q y0 y1 y2 y3 y4 y5 y6 y7 xs xi xt) 10), rfl, rfl, updn_ok HU.out 10, fun _ j hj => ?_, fun h => (by rw [show updn l 10 true 8 = l 8 from rfl, e9] at h; cases h), fun _ h => (by cases h), fun _ => rfl⟩
  have : j = 0 ∨ j = 1 ∨ j = 2 ∨ j = 3 ∨ j = 4 ∨ j = 5 ∨ j = 6 ∨ j = 7 ∨ j = 8 ∨ j = 9 := by omega
  rcases this with rfl | rfl | rfl | rfl | rfl | rfl | rfl | rfl | rfl | rfl <;> assumption
set_option maxRecDepth 100000 in
set_option maxHeartbeats 8000000 in
theorem dn10 {B1 B2 gN yb q : Nat} {y0 y1 y2 y3 y4 y5 y6 y7 xs xi xt : Int} {t0 t1 t2 t5 t7 t8 t10 t11 t12 t13 t14 t15 t16 t17 t18 t19 t20 t21 t22 t23 t24 t25 t26 t27 t28 t29 t30 t31 t32 t33 t34 t44 t45 t46 t47 t48 t49 t50 t51 t52 t53 t54 t55 t56 t57 t58 t59 t60 t61 t62 t63 t64 t65 t66 t67 t68 : Value} {w W : World} {listed : Array Bool} {a : Act} (hI : (I10 B1 B2 gN yb q y0 y1 y2 y3 y4 y5 y6 y7 xs xi xt t0 t1 t2 t5 t7 t8 t10 t11 t12 t13 t14 t15 t16 t17 t18 t19 t20 t21 t22 t23 t24 t25 t26 t27 t28 t29 t30 t31 t32 t33 t34 t44 t45 t46 t47 t48 t49 t50 t51 t52 t53 t54 t55 t56 t57 t58 t59 t60 t61 t62 t63 t64 t65 t66 t67 t68 w) listed a W) (hr : Region.ready .any ops10 listed = []) : ∃ u35 u36 u37 u38 u39 u40 u41 u42 u43 : Value, a = { tmps := #[t0, t1, t2, .pointer (some ⟨B1, 0, none⟩), .pointer (some ⟨B2, 0, none⟩), t5, .pointer (some ⟨gN, 0, none⟩), t7, t8, .pointer (some ⟨yb, 0, none⟩), t10, t11, t12, t13, t14, t15, t16, t17, t18, t19, t20, t21, t22, t23, t24, t25, t26, t27, t28, t29, t30, t31, t32, t33, t34, u35, u36, u37, u38, u39, u40, u41, u42, u43, t44, t45, t46, t47, t48, t49, t50, t51, t52, t53, t54, t55, t56, t57, t58, t59, t60, t61, t62, t63, t64, t65, t66, t67, t68], defers := [] } ∧ W = ((w.drew.setCells B1 (q * 8) (#[.int .u8 y0, .int .u8 y1, .int .u8 y2, .int .u8 y3, .int .u8 y4, .int .u8 y5, .int .u8 y6, .int .u8 y7] : Array Value).toList).setCells B2 (q * 3) (#[.int .i64 xs, .int .i64 xi, .int .i64 xt] : Array Value).toList) := by
  obtain ⟨l, u, rfl, rfl, hu, hl, hw0, hw1, hw2⟩ := hI
  have hin : ∀ i o, ops10[i]? = some o → (#[l 0, l 1, l 2, l 3, l 4, l 5, l 6, l 7, l 8, l 9, l 10] : Array Bool).getD i true = false → (∀ e ∈ o.after, Region.binds .any e = true → (#[l 0, l 1, l 2, l 3, l 4, l 5, l 6, l 7, l 8, l 9, l 10] : Array Bool).getD e.on false = true) → False := fun i o h1 h2 h3 => by
    have := mem_ready.2 ⟨h2, o, h1, h3⟩
    rw [hr] at this; cases this
  have d0 : l 0 = true := by
    cases e : l 0 with
    | true => rfl
    | false =>
      refine (hin 0 _ rfl e (fun e he hb => ?_)).elim
      have he : e ∈ (#[] : Array Edge) := he
      simp at he
  have d1 : l 1 = true := by
    cases e : l 1 with
    | true => rfl
    | false =>
      refine (hin 1 _ rfl e (fun e he hb => ?_)).elim
      have he : e ∈ (#[{ on := 0, ground := Ground.data }] : Array Edge) := he
      simp only [List.mem_toArray, List.mem_cons, List.not_mem_nil, or_false] at he
      rcases he with rfl <;> first | assumption | (cases hb)
  have d2 : l 2 = true := by
    cases e : l 2 with
    | true => rfl
    | false =>
      refine (hin 2 _ rfl e (fun e he hb => ?_)).elim
      have he : e ∈ (#[{ on := 8, ground := Ground.gcOnly Departure.lateStores }] : Array Edge) := he
      simp only [List.mem_toArray, List.mem_cons, List.not_mem_nil, or_false] at he
      rcases he with rfl <;> first | assumption | (cases hb)
  have d3 : l 3 = true := by
    cases e : l 3 with
    | true => rfl
    | false =>
      refine (hin 3 _ rfl e (fun e he hb => ?_)).elim
      have he : e ∈ (#[{ on := 2, ground := Ground.data }, { on := 8, ground := Ground.gcOnly Departure.lateStores }] : Array Edge) := he
      simp only [List.mem_toArray, List.mem_cons, List.not_mem_nil, or_false] at he
      rcases he with rfl | rfl <;> first | assumption | (cases hb)
  have d4 : l 4 = true := by
    cases e : l 4 with
    | true => rfl
    | false =>
      refine (hin 4 _ rfl e (fun e he hb => ?_)).elim
      have he : e ∈ (#[] : Array Edge) := he
      simp at he
  have d5 : l 5 = true := by
    cases e : l 5 with
    | true => rfl
    | false =>
      refine (hin 5 _ rfl e (fun e he hb => ?_)).elim
      have he : e ∈ (#[{ on := 4, ground := Ground.data }] : Array Edge) := he
      simp only [List.mem_toArray, List.mem_cons, List.not_mem_nil, or_false] at he
      rcases he with rfl <;> first | assumption | (cases hb)
  have d6 : l 6 = true := by
    cases e : l 6 with
    | true => rfl
    | false =>
      refine (hin 6 _ rfl e (fun e he hb => ?_)).elim
      have he : e ∈ (#[{ on := 8, ground := Ground.gcOnly Departure.lateStores }] : Array Edge) := he
      simp only [List.mem_toArray, List.mem_cons, List.not_mem_nil, or_false] at he
      rcases he with rfl <;> first | assumption | (cases hb)
  have d7 : l 7 = true := by
    cases e : l 7 with
    | true => rfl
    | false =>
      refine (hin 7 _ rfl e (fun e he hb => ?_)).elim
      have he : e ∈ (#[{ on := 1, ground := Ground.data }, { on := 0, ground := Ground.phase }, { on := 1, ground := Ground.phase }, { on := 2, ground := Ground.textOnly Departure.lateStores }, { on := 3, ground := Ground.textOnly Departure.lateStores }, { on := 4, ground := Ground.phase }, { on := 5, ground := Ground.phase }, { on := 6, ground := Ground.textOnly Departure.lateStores }] : Array Edge) := he
      simp only [List.mem_toArray, List.mem_cons, List.not_mem_nil, or_false] at he
      rcases he with rfl | rfl | rfl | rfl | rfl | rfl | rfl | rfl <;> first | assumption | (cases hb)
  have d8 : l 8 = true := by
    cases e : l 8 with
    | true => rfl
    | false =>
      refine (hin 8 _ rfl e (fun e he hb => ?_)).elim
      have he : e ∈ (#[{ on := 7, ground := Ground.data }, { on := 5, ground := Ground.data }, { on := 0, ground := Ground.phase }, { on := 1, ground := Ground.phase }, { on := 2, ground := Ground.textOnly Departure.lateStores }, { on := 3, ground := Ground.textOnly Departure.lateStores }, { on := 4, ground := Ground.phase }, { on := 5, ground := Ground.phase }, { on := 6, ground := Ground.textOnly Departure.lateStores }] : Array Edge) := he
      simp only [List.mem_toArray, List.mem_cons, List.not_mem_nil, or_false] at he
      rcases he with rfl | rfl | rfl | rfl | rfl | rfl | rfl | rfl | rfl <;> first | assumption | (cases hb)
  have d9 : l 9 = true := by
    cases e : l 9 with
    | true => rfl
    | false =>
      refine (hin 9 _ rfl e (fun e he hb => ?_)).elim
      have he : e ∈ (#[{ on := 3, ground := Ground.data }, { on := 0, ground := Ground.phase }, { on := 1, ground := Ground.phase }, { on := 2, ground := Ground.phase }, { on := 3, ground := Ground.phase }, { on := 4, ground := Ground.phase }, { on := 5, ground := Ground.phase }, { on := 6, ground := Ground.phase }, { on := 7, ground := Ground.phase }, { on := 8, ground := Ground.phase }] : Array Edge) := he
      simp only [List.mem_toArray, List.mem_cons, List.not_mem_nil, or_false] at he
      rcases he with rfl | rfl | rfl | rfl | rfl | rfl | rfl | rfl | rfl | rfl <;> first | assumption | (cases hb)
  have d10 : l 10 = true := by
    cases e : l 10 with
    | true => rfl
    | false =>
      refine (hin 10 _ rfl e (fun e he hb => ?_)).elim
      have he : e ∈ (#[{ on := 9, ground := Ground.data }, { on := 6, ground := Ground.data }, { on := 8, ground := Ground.chain }, { on := 0, ground := Ground.phase }, { on := 1, ground := Ground.phase }, { on := 2, ground := Ground.phase }, { on := 3, ground := Ground.phase }, { on := 4, ground := Ground.phase }, { on := 5, ground := Ground.phase }, { on := 6, ground := Ground.phase }, { on := 7, ground := Ground.phase }, { on := 8, ground := Ground.phase }] : Array Edge) := he
      simp only [List.mem_toArray, List.mem_cons, List.not_mem_nil, or_false] at he
      rcases he with rfl | rfl | rfl | rfl | rfl | rfl | rfl | rfl | rfl | rfl | rfl | rfl <;> first | assumption | (cases hb)
  rw [hw2 d10]
  exact ⟨_, _, _, _, _, _, _, _, _, rfl, rfl⟩
set_option maxRecDepth 100000 in
set_option maxHeartbeats 8000000 in
theorem region10 {K1 : Act → World → Prop} {Q1 : Exit → Act → World → Prop} (B1 B2 gN yb q : Nat) (y0 y1 y2 y3 y4 y5 y6 y7 xs xi xt : Int) (t0 t1 t2 t5 t7 t8 t10 t11 t12 t13 t14 t15 t16 t17 t18 t19 t20 t21 t22 t23 t24 t25 t26 t27 t28 t29 t30 t31 t32 t33 t34 t44 t45 t46 t47 t48 t49 t50 t51 t52 t53 t54 t55 t56 t57 t58 t59 t60 t61 t62 t63 t64 t65 t66 t67 t68 : Value) (t35 t36 t37 t38 t39 t40 t41 t42 t43 : Value) (hq : (q : Int) < 32) (w : World) (hall : Rds10 B1 B2 gN yb q y0 y1 y2 y3 y4 y5 y6 y7 xs xi xt w)
    (hK : ∀ u35 u36 u37 u38 u39 u40 u41 u42 u43 : Value, K1 { tmps := #[t0, t1, t2, .pointer (some ⟨B1, 0, none⟩), .pointer (some ⟨B2, 0, none⟩), t5, .pointer (some ⟨gN, 0, none⟩), t7, t8, .pointer (some ⟨yb, 0, none⟩), t10, t11, t12, t13, t14, t15, t16, t17, t18, t19, t20, t21, t22, t23, t24, t25, t26, t27, t28, t29, t30, t31, t32, t33, t34, u35, u36, u37, u38, u39, u40, u41, u42, u43, t44, t45, t46, t47, t48, t49, t50, t51, t52, t53, t54, t55, t56, t57, t58, t59, t60, t61, t62, t63, t64, t65, t66, t67, t68], defers := [] } ((w.drew.setCells B1 (q * 8) (#[.int .u8 y0, .int .u8 y1, .int .u8 y2, .int .u8 y3, .int .u8 y4, .int .u8 y5, .int .u8 y6, .int .u8 y7] : Array Value).toList).setCells B2 (q * 3) (#[.int .i64 xs, .int .i64 xi, .int .i64 xt] : Array Value).toList)) :
    (Code.region 10 ops10 true).wp Try.prog (Exit.then K1 Q1) { tmps := #[t0, t1, t2, .pointer (some ⟨B1, 0, none⟩), .pointer (some ⟨B2, 0, none⟩), t5, .pointer (some ⟨gN, 0, none⟩), t7, t8, .pointer (some ⟨yb, 0, none⟩), t10, t11, t12, t13, t14, t15, t16, t17, t18, t19, t20, t21, t22, t23, t24, t25, t26, t27, t28, t29, t30, t31, t32, t33, t34, t35, t36, t37, t38, t39, t40, t41, t42, t43, t44, t45, t46, t47, t48, t49, t50, t51, t52, t53, t54, t55, t56, t57, t58, t59, t60, t61, t62, t63, t64, t65, t66, t67, t68], defers := [] } w := by
  have hq0 : (0 : Int) ≤ (q : Int) := by omega
  refine wp_region_inv (by kernel_rfl) (I10 B1 B2 gN yb q y0 y1 y2 y3 y4 y5 y6 y7 xs xi xt t0 t1 t2 t5 t7 t8 t10 t11 t12 t13 t14 t15 t16 t17 t18 t19 t20 t21 t22 t23 t24 t25 t26 t27 t28 t29 t30 t31 t32 t33 t34 t44 t45 t46 t47 t48 t49 t50 t51 t52 t53 t54 t55 t56 t57 t58 t59 t60 t61 t62 t63 t64 t65 t66 t67 t68 w) ?start ?step ?done
  case start => exact ⟨fun _ => false, fun j => (#[t35, t36, t37, t38, t39, t40, t41, t42, undef, t43, undef] : Array Value).getD j undef, rfl, rfl, fun j h => (by cases h), fun h => (by cases h), fun _ => rfl, fun h => (by cases h), fun h => (by cases h)⟩
  case done =>
    intro listed a W hI hr
    obtain ⟨u35, u36, u37, u38, u39, u40, u41, u42, u43, rfl, rfl⟩ := dn10 hI hr
    exact hK u35 u36 u37 u38 u39 u40 u41 u42 u43
  case step =>
    intro listed a W i o hI ho h0 hdep K hK
    have hi : i < 11 := (Array.getElem?_eq_some_iff.1 ho).1
    have hcs : i = 0 ∨ i = 1 ∨ i = 2 ∨ i = 3 ∨ i = 4 ∨ i = 5 ∨ i = 6 ∨ i = 7 ∨ i = 8 ∨ i = 9 ∨ i = 10 := by omega
    clear hi
    rcases hcs with rfl | rfl | rfl | rfl | rfl | rfl | rfl | rfl | rfl | rfl | rfl
    · obtain rfl : o = { dst := some 35, op := Op.fieldAddr 36 (Operand.tmp 9) 2, type := 0, pos := "witness.go:62", after := #[], guard := none } := by
        have h : ops10[0]? = some { dst := some 35, op := Op.fieldAddr 36 (Operand.tmp 9) 2, type := 0, pos := "witness.go:62", after := #[], guard := none } := rfl
        rw [h] at ho; exact (Option.some.inj ho).symm
      exact st10_0 hall hI h0 hdep hK
    · obtain rfl : o = { dst := some 36, op := Op.load 3 (Operand.tmp 35), type := 3, pos := "witness.go:62", after := #[{ on := 0, ground := Ground.data }], guard := none } := by
        have h : ops10[1]? = some { dst := some 36, op := Op.load 3 (Operand.tmp 35), type := 3, pos := "witness.go:62", after := #[{ on := 0, ground := Ground.data }], guard := none } := rfl
        rw [h] at ho; exact (Option.some.inj ho).symm
      exact st10_1 hall hI h0 hdep hK
    · obtain rfl : o = { dst := some 37, op := Op.fieldAddr 36 (Operand.tmp 9) 2, type := 0, pos := "witness.go:62", after := #[{ on := 8, ground := Ground.gcOnly Departure.lateStores }], guard := none } := by
        have h : ops10[2]? = some { dst := some 37, op := Op.fieldAddr 36 (Operand.tmp 9) 2, type := 0, pos := "witness.go:62", after := #[{ on := 8, ground := Ground.gcOnly Departure.lateStores }], guard := none } := rfl
        rw [h] at ho; exact (Option.some.inj ho).symm
      exact st10_2 hall hI h0 hdep hK
    · obtain rfl : o = { dst := some 38, op := Op.load 3 (Operand.tmp 37), type := 3, pos := "witness.go:62", after := #[{ on := 2, ground := Ground.data }, { on := 8, ground := Ground.gcOnly Departure.lateStores }], guard := none } := by
        have h : ops10[3]? = some { dst := some 38, op := Op.load 3 (Operand.tmp 37), type := 3, pos := "witness.go:62", after := #[{ on := 2, ground := Ground.data }, { on := 8, ground := Ground.gcOnly Departure.lateStores }], guard := none } := rfl
        rw [h] at ho; exact (Option.some.inj ho).symm
      exact st10_3 hall hI h0 hdep hK
    · obtain rfl : o = { dst := some 39, op := Op.fieldAddr 36 (Operand.tmp 9) 3, type := 0, pos := "witness.go:62", after := #[], guard := none } := by
        have h : ops10[4]? = some { dst := some 39, op := Op.fieldAddr 36 (Operand.tmp 9) 3, type := 0, pos := "witness.go:62", after := #[], guard := none } := rfl
        rw [h] at ho; exact (Option.some.inj ho).symm
      exact st10_4 hall hI h0 hdep hK
    · obtain rfl : o = { dst := some 40, op := Op.load 31 (Operand.tmp 39), type := 31, pos := "witness.go:62", after := #[{ on := 4, ground := Ground.data }], guard := none } := by
        have h : ops10[5]? = some { dst := some 40, op := Op.load 31 (Operand.tmp 39), type := 31, pos := "witness.go:62", after := #[{ on := 4, ground := Ground.data }], guard := none } := rfl
        rw [h] at ho; exact (Option.some.inj ho).symm
      exact st10_5 hall hI h0 hdep hK
    · obtain rfl : o = { dst := some 41, op := Op.load 29 (Operand.tmp 6), type := 29, pos := "witness.go:62", after := #[{ on := 8, ground := Ground.gcOnly Departure.lateStores }], guard := none } := by
        have h : ops10[6]? = some { dst := some 41, op := Op.load 29 (Operand.tmp 6), type := 29, pos := "witness.go:62", after := #[{ on := 8, ground := Ground.gcOnly Departure.lateStores }], guard := none } := rfl
        rw [h] at ho; exact (Option.some.inj ho).symm
      exact st10_6 hall hI h0 hdep hK
    · obtain rfl : o = { dst := some 42, op := Op.indexAddr 46 (Operand.tmp 3) (Operand.tmp 36), type := 0, pos := "witness.go:62", after := #[{ on := 1, ground := Ground.data }, { on := 0, ground := Ground.phase }, { on := 1, ground := Ground.phase }, { on := 2, ground := Ground.textOnly Departure.lateStores }, { on := 3, ground := Ground.textOnly Departure.lateStores }, { on := 4, ground := Ground.phase }, { on := 5, ground := Ground.phase }, { on := 6, ground := Ground.textOnly Departure.lateStores }], guard := none } := by
        have h : ops10[7]? = some { dst := some 42, op := Op.indexAddr 46 (Operand.tmp 3) (Operand.tmp 36), type := 0, pos := "witness.go:62", after := #[{ on := 1, ground := Ground.data }, { on := 0, ground := Ground.phase }, { on := 1, ground := Ground.phase }, { on := 2, ground := Ground.textOnly Departure.lateStores }, { on := 3, ground := Ground.textOnly Departure.lateStores }, { on := 4, ground := Ground.phase }, { on := 5, ground := Ground.phase }, { on := 6, ground := Ground.textOnly Departure.lateStores }], guard := none } := rfl
        rw [h] at ho; exact (Option.some.inj ho).symm
      exact st10_7 hq0 hq hall hI h0 hdep hK
    · obtain rfl : o = { dst := none, op := Op.store 31 (Operand.tmp 42) (Operand.tmp 40), type := 0, pos := "witness.go:62", after := #[{ on := 7, ground := Ground.data }, { on := 5, ground := Ground.data }, { on := 0, ground := Ground.phase }, { on := 1, ground := Ground.phase }, { on := 2, ground := Ground.textOnly Departure.lateStores }, { on := 3, ground := Ground.textOnly Departure.lateStores }, { on := 4, ground := Ground.phase }, { on := 5, ground := Ground.phase }, { on := 6, ground := Ground.textOnly Departure.lateStores }], guard := none } := by
        have h : ops10[8]? = some { dst := none, op := Op.store 31 (Operand.tmp 42) (Operand.tmp 40), type := 0, pos := "witness.go:62", after := #[{ on := 7, ground := Ground.data }, { on := 5, ground := Ground.data }, { on := 0, ground := Ground.phase }, { on := 1, ground := Ground.phase }, { on := 2, ground := Ground.textOnly Departure.lateStores }, { on := 3, ground := Ground.textOnly Departure.lateStores }, { on := 4, ground := Ground.phase }, { on := 5, ground := Ground.phase }, { on := 6, ground := Ground.textOnly Departure.lateStores }], guard := none } := rfl
        rw [h] at ho; exact (Option.some.inj ho).symm
      exact st10_8 hall hI h0 hdep hK
    · obtain rfl : o = { dst := some 43, op := Op.indexAddr 77 (Operand.tmp 4) (Operand.tmp 38), type := 0, pos := "witness.go:62", after := #[{ on := 3, ground := Ground.data }, { on := 0, ground := Ground.phase }, { on := 1, ground := Ground.phase }, { on := 2, ground := Ground.phase }, { on := 3, ground := Ground.phase }, { on := 4, ground := Ground.phase }, { on := 5, ground := Ground.phase }, { on := 6, ground := Ground.phase }, { on := 7, ground := Ground.phase }, { on := 8, ground := Ground.phase }], guard := none } := by
        have h : ops10[9]? = some { dst := some 43, op := Op.indexAddr 77 (Operand.tmp 4) (Operand.tmp 38), type := 0, pos := "witness.go:62", after := #[{ on := 3, ground := Ground.data }, { on := 0, ground := Ground.phase }, { on := 1, ground := Ground.phase }, { on := 2, ground := Ground.phase }, { on := 3, ground := Ground.phase }, { on := 4, ground := Ground.phase }, { on := 5, ground := Ground.phase }, { on := 6, ground := Ground.phase }, { on := 7, ground := Ground.phase }, { on := 8, ground := Ground.phase }], guard := none } := rfl
        rw [h] at ho; exact (Option.some.inj ho).symm
      exact st10_9 hq0 hq hall hI h0 hdep hK
    · obtain rfl : o = { dst := none, op := Op.store 29 (Operand.tmp 43) (Operand.tmp 41), type := 0, pos := "witness.go:62", after := #[{ on := 9, ground := Ground.data }, { on := 6, ground := Ground.data }, { on := 8, ground := Ground.chain }, { on := 0, ground := Ground.phase }, { on := 1, ground := Ground.phase }, { on := 2, ground := Ground.phase }, { on := 3, ground := Ground.phase }, { on := 4, ground := Ground.phase }, { on := 5, ground := Ground.phase }, { on := 6, ground := Ground.phase }, { on := 7, ground := Ground.phase }, { on := 8, ground := Ground.phase }], guard := none } := by
        have h : ops10[10]? = some { dst := none, op := Op.store 29 (Operand.tmp 43) (Operand.tmp 41), type := 0, pos := "witness.go:62", after := #[{ on := 9, ground := Ground.data }, { on := 6, ground := Ground.data }, { on := 8, ground := Ground.chain }, { on := 0, ground := Ground.phase }, { on := 1, ground := Ground.phase }, { on := 2, ground := Ground.phase }, { on := 3, ground := Ground.phase }, { on := 4, ground := Ground.phase }, { on := 5, ground := Ground.phase }, { on := 6, ground := Ground.phase }, { on := 7, ground := Ground.phase }, { on := 8, ground := Ground.phase }], guard := none } := rfl
        rw [h] at ho; exact (Option.some.inj ho).symm
      exact st10_10 hall hI h0 hdep hK
end Go.Proofs.Ytfigoeoimefngaa
