/-
  (*track).step.
-/
import Derived.Test.YtfigoeoimefngaaOrA
import Derived.Test.YtfigoeoimefngaaZa
namespace Go.Proofs.Ytfigoeoimefngaa
open Go.RowKit Go.Maps

theorem info_cx : (Try.prog.info? 97).map (fun i => (i.zero, i.size, i.bytes)) = some (some (.complex .f64 0 0), 1, 16) := by kernel_rfl
theorem info_parts {P : Program} {t : TypeId} {z : Option Value} {s b : Nat} (h : (P.info? t).map (fun i => (i.zero, i.size, i.bytes)) = some (z, s, b)) : ∃ i, P.info? t = some i ∧ i.zero = z ∧ i.size = s ∧ i.bytes = b := by
  obtain ⟨i, hi, h⟩ := Option.map_eq_some_iff.1 h
  simp only [Prod.mk.injEq] at h
  exact ⟨i, hi, h.1, h.2.1, h.2.2⟩

/-- What a step comes to. -/
def Stp (w : World) (g B : Nat) (t : Tk) (v : Value) (xs : List Value) (x : Sn) (k : Nat) (w' : World) : Prop :=
  ∃ t' v' xs', At w' g 90 (t'.cs v') ∧ w'.ownsRow B 97 1 v' xs'.length xs' ∧ (okS x t = true → t' = nxt k x t ∧ xs' = if rwB x then xs ++ [cx x.b k] else xs) ∧
    (v'.ownBlock = v.ownBlock ∨ ∃ j, v'.ownBlock = some j ∧ w.heap.size ≤ j) ∧ Turns (fun i => i = g ∨ v.ownBlock = some i) w w' (fun i => i = g ∨ v'.ownBlock = some i)

section
variable {w : World} {g B : Nat} {t : Tk} {v : Value} {xs : List Value} {x : Sn} {k : Nat}
theorem stp_none (hg : At w g 90 (t.cs v)) (hv : w.ownsRow B 97 1 v xs.length xs) (h : okS x t = false) (o : Obj) : Stp w g B t v xs x k (w.alloc o) :=
  ⟨t, v, xs, hg.alloc o, own_grows hv ((Grows.refl _).alloc o), (fun e => by rw [h] at e; cases e), .inl rfl, (Turns.refl _ w).alloc o⟩
theorem stp_one (hg : At w g 90 (t.cs v)) (hv : w.ownsRow B 97 1 v xs.length xs) (hr : rwB x = false) (o : Obj) (i : Nat) (u : Value) (hi : (t.cs v).setIfInBounds i u = (nxt k x t).cs v) : Stp w g B t v xs x k ((w.setCell ⟨g, i, none⟩ u).alloc o) := by
  refine ⟨nxt k x t, v, xs, ?_, ?_, fun _ => ⟨rfl, by rw [hr]; rfl⟩, .inl rfl, ((Turns.refl _ w).set (.inl (.inl rfl)) i u).alloc o⟩
  · rw [← hi]; exact (hg.set i u).alloc o
  · exact own_grows (own_keep hv (fun b hb => Below.heap_setCell _ ⟨g, i, none⟩ u b (fun e => own_apart hv hg (by decide) (by rw [hb]; exact congrArg some e)))) ((Grows.refl _).alloc o)
theorem stp_two (hg : At w g 90 (t.cs v)) (hv : w.ownsRow B 97 1 v xs.length xs) (hr : rwB x = false) (o : Obj) (i j : Nat) (u u' : Value) (hi : ((t.cs v).setIfInBounds i u).setIfInBounds j u' = (nxt k x t).cs v) : Stp w g B t v xs x k (((w.setCell ⟨g, i, none⟩ u).setCell ⟨g, j, none⟩ u').alloc o) := by
  refine ⟨nxt k x t, v, xs, ?_, ?_, fun _ => ⟨rfl, by rw [hr]; rfl⟩, .inl rfl, (((Turns.refl _ w).set (.inl (.inl rfl)) i u).set (.inl (.inl rfl)) j u').alloc o⟩
  · rw [← hi]; exact ((hg.set i u).set j u').alloc o
  · exact own_grows (own_keep hv (fun b hb => (Below.heap_setCell _ ⟨g, j, none⟩ u' b (fun e => own_apart hv hg (by decide) (by rw [hb]; exact congrArg some e))).trans (Below.heap_setCell _ ⟨g, i, none⟩ u b (fun e => own_apart hv hg (by decide) (by rw [hb]; exact congrArg some e))))) ((Grows.refl _).alloc o)
end

set_option maxRecDepth 100000 in
set_option maxHeartbeats 16000000 in
theorem step_rw (g B : Nat) (t : Tk) (v : Value) (xs : List Value) (x : Sn) (k : Nat) (w : World) (hg : At w g 90 (t.cs v)) (hv : w.ownsRow B 97 1 v xs.length xs) (hB : B ≤ w.heap.size) (hxs : xs.length ≤ 1000000) (hb : t.b = true) (hk : x.k = 1 ∨ x.k = 2) :
    Calls Try.prog 46 #[.pointer (some ⟨g, 0, none⟩), .int .i64 (k : Int), .agg x.cs.toArray] w fun e w' => e = .returned (.bool (okS x t)) ∧ Stp w g B t v xs x k w' := by
  have c0 : w.cell? ⟨g, 0, none⟩ = some (.bool t.b) := hg.cell 0
  have c1 : w.cell? ⟨g, 1, none⟩ = some (.bool t.c) := hg.cell 1
  have c5 : w.cell? ⟨g, 5, none⟩ = some v := hg.cell 5
  have f5 := hg.frozen 5
  have hlt := hg.lt
  obtain ⟨i0, hi0, hz0, hz1, hz2⟩ := info_parts info_cx
  obtain ⟨av, cv, rfl, _⟩ := own_slice hv
  obtain ⟨W2, hW2⟩ : ∃ W2, W2 = ((w.alloc (.cells (Sn.cs x).toArray 36)).alloc (.cells #[cx x.b k] 97)).drew := ⟨_, rfl⟩
  have hgW : Grows w W2 := by rw [hW2]; exact (((Grows.refl _).alloc _).alloc _).drew
  have hrd : Rd W2 (some ⟨w.heap.size + 1, 0, none⟩) [cx x.b k] := by
    have := rd_new (w.alloc (.cells (Sn.cs x).toArray 36)) #[cx x.b k] 97 (0, 0)
    rw [World.size_alloc] at this
    rw [hW2]
    exact this.grows (Grows.refl _).drew
  have HO2 := Lib.hid (own_grows hv hgW)
  have HR2 := Lib.hid hrd
  have HS2 : Hid (∀ u ∈ [cx x.b k], u.oneCell' = true) := by intro u hu; simp at hu; subst hu; rfl
  have HM2 : Hid (xs.length + 1 ≤ maxLen) := by show _ ≤ _; unfold maxLen; omega
  have HM3 : Hid ((xs.length + 1) * 16 ≤ 140737488355328) := by show _ ≤ _; omega
  have HM4 : Hid (B ≤ W2.heap.size) := by show _ ≤ _; have := hgW.size; omega
  have hA4 : ∀ w4, W2.grownBy w4 (Value.slice av xs.length cv).ownBlock → At w4 g 90 (t.cs (.slice av xs.length cv)) := fun w4 hgr4 => (hgr4.block g (hg.grows hgW).lt (Ne.symm (own_apart hv hg (by decide)))).trans (hg.grows hgW)
  have HC4 : Hid (∀ w4, W2.grownBy w4 (Value.slice av xs.length cv).ownBlock → w4.cell? ⟨g, 5, none⟩ = some (.slice av xs.length cv) ∧ w4.frozen? ⟨g, 5, none⟩ = false ∧ g < w4.heap.size) := fun w4 h => ⟨(hA4 w4 h).cell 5, (hA4 w4 h).frozen 5, (hA4 w4 h).lt⟩
  have HF4 : Hid (∀ a4 p4 w4, w4.ownsRow B 97 1 (.slice a4 (xs.length + 1) p4) (xs.length + 1) (xs ++ [cx x.b k]) → W2.grownBy w4 (Value.slice av xs.length cv).ownBlock → ((Value.slice a4 (xs.length + 1) p4).ownBlock = (Value.slice av xs.length cv).ownBlock ∨ (Value.slice a4 (xs.length + 1) p4).ownBlock = some W2.heap.size) → t = nxt k x t → rwB x = true → Stp w g B t (.slice av xs.length cv) xs x k (w4.setCell ⟨g, 5, none⟩ (.slice a4 (xs.length + 1) p4))) := fun a4 p4 w4 hown4 hgr4 hat4 e1 e2 => by
    have hA4 := hA4 w4 hgr4
    refine ⟨t, .slice a4 (xs.length + 1) p4, xs ++ [cx x.b k], hA4.set 5 _, ?_, fun _ => ⟨e1, by rw [e2]; rfl⟩, ?_, ?_⟩
    · rw [List.length_append]
      exact own_keep hown4 (fun b hb => Below.heap_setCell _ ⟨g, 5, none⟩ _ b (fun e => own_apart hown4 hA4 (by decide) (by rw [hb]; exact congrArg some e)))
    · rcases hat4 with e | e
      · exact .inl e
      · exact .inr ⟨_, e, hgW.size⟩
    · refine Turns.set ⟨hgr4.os.trans hgW.os, hgr4.tape.trans hgW.tape, hgr4.output.trans hgW.output, Nat.le_trans hgW.size hgr4.size, fun i hi hn => ?_, fun i hi => ?_⟩ (.inl (.inl rfl)) 5 _
      · exact (hgr4.block i (Nat.lt_of_lt_of_le hi hgW.size) (fun e => hn (.inr e.symm))).trans (hgW.block i hi)
      · rcases hi with hi | hi
        · exact .inl (.inl hi)
        · rcases hat4 with e | e
          · exact .inl (.inr (by rw [← e]; exact hi))
          · rw [e] at hi; injection hi with hi; exact .inr (by have := hgW.size; omega)
  rw [hW2] at HO2 HR2 HM4 HC4 HF4
  have HG := Lib.hid hg
  have HV := Lib.hid hv
  have HB := Lib.hid hB
  have HX := Lib.hid hxs
  clear hg hv hB hxs hW2 hgW hrd hA4 W2
  unfold Sn.cs cx fl at *
  rw [hb] at c0
  rcases hk with hk | hk
  · cases hc : t.c
    · by_cases h1 : 0 ≤ x.b
      · by_cases h2 : x.b < 32
        · have HO : Hid (okS x t = true) := by show _ = _; simp [okS, hk, hb, rwB, hc, h1, h2]
          rw [hc] at c1
          clear hb
          have t0 : (x.k != 0) = true := by simp [hk]
          have t1 : (x.k == 0) = false := by simp [hk]
          have t2 : (x.k == 1) = true := by simp [hk]
          have t3 : (x.k == 2) = false := by simp [hk]
          have t4 : (x.k == 3) = false := by simp [hk]
          have t5 : (x.k == 4) = false := by simp [hk]
          have t6 : (x.k == 5) = false := by simp [hk]
          have HR : Hid (rwB x = true) := by show _ = _; simp [rwB, hk]
          have HN : Hid (t = nxt k x t) := by show _ = _; simp [nxt, hk]
          clear hk
          go_enter Try.func46, Try.ntmps46
          go_wp2_with fail
          refine wp_region_any (by kernel_rfl) ?_
          try (change wpAny _ _ _ _ _ _ _ (World.drew _))
          refine wpAny_take (i := 0) (oi := { dst := some 48, op := Op.move (Operand.tmp 0), type := 96, pos := "order.go:43", after := #[], guard := none }) (v := ?va1) rfl (by kernel_rfl) (by kernel_rfl) (by kernel_rfl) (fun _ _ _ h => h) (Or.inl ⟨by rfl, ?hy1⟩) ?_
          case hy1 => (intro w'; go_simp; try with_reducible rfl)
          try simp only [Act.put, List.setIfInBounds_toArray, List.set_cons_zero, List.set_cons_succ]
          refine wpAny_take (i := 1) (oi := { dst := some 49, op := Op.move (Operand.tmp 0), type := 96, pos := "order.go:43", after := #[], guard := none }) (v := ?va2) rfl (by kernel_rfl) (by kernel_rfl) (by kernel_rfl) (fun _ _ _ h => h) (Or.inl ⟨by rfl, ?hy2⟩) ?_
          case hy2 => (intro w'; go_simp; try with_reducible rfl)
          try simp only [Act.put, List.setIfInBounds_toArray, List.set_cons_zero, List.set_cons_succ]
          refine wpAny_take (i := 2) (oi := { dst := some 50, op := Op.nilCheck (Operand.tmp 49), type := 0, pos := "order.go:43", after := #[{ on := 1, ground := Ground.data }], guard := none }) (v := ?va3) rfl (by kernel_rfl) (by kernel_rfl) (by kernel_rfl) (fun _ _ _ h => h) (Or.inl ⟨by rfl, ?hy3⟩) ?_
          case hy3 => (intro w'; go_simp; try with_reducible rfl)
          try simp only [Act.put, List.setIfInBounds_toArray, List.set_cons_zero, List.set_cons_succ]
          refine wpAny_take (i := 3) (oi := { dst := some 51, op := Op.fieldAddr 90 (Operand.tmp 50) 5, type := 0, pos := "order.go:43", after := #[{ on := 2, ground := Ground.data }], guard := none }) (v := ?va4) rfl (by kernel_rfl) (by kernel_rfl) (by kernel_rfl) (fun _ _ _ h => h) (Or.inl ⟨by rfl, ?hy4⟩) ?_
          case hy4 => (intro w'; go_simp; try with_reducible rfl)
          try simp only [Act.put, List.setIfInBounds_toArray, List.set_cons_zero, List.set_cons_succ]
          refine wpAny_take (i := 5) (oi := { dst := some 53, op := Op.fieldAddr 36 (Operand.tmp 5) 2, type := 0, pos := "order.go:43", after := #[], guard := none }) (v := ?va5) rfl (by kernel_rfl) (by kernel_rfl) (by kernel_rfl) (fun _ _ _ h => h) (Or.inl ⟨by rfl, ?hy5⟩) ?_
          case hy5 => (intro w'; go_simp; try with_reducible rfl)
          try simp only [Act.put, List.setIfInBounds_toArray, List.set_cons_zero, List.set_cons_succ]
          refine wpAny_take (i := 8) (oi := { dst := some 56, op := Op.move (Operand.tmp 1), type := 3, pos := "order.go:43", after := #[], guard := none }) (v := ?va6) rfl (by kernel_rfl) (by kernel_rfl) (by kernel_rfl) (fun _ _ _ h => h) (Or.inl ⟨by rfl, ?hy6⟩) ?_
          case hy6 => (intro w'; go_simp; try with_reducible rfl)
          try simp only [Act.put, List.setIfInBounds_toArray, List.set_cons_zero, List.set_cons_succ]
          refine wpAny_take (i := 9) (oi := { dst := some 57, op := Op.convert 3 98 (Operand.tmp 56), type := 98, pos := "order.go:43", after := #[{ on := 8, ground := Ground.data }], guard := none }) (v := ?va7) rfl (by kernel_rfl) (by kernel_rfl) (by kernel_rfl) (fun _ _ _ h => h) (Or.inl ⟨by rfl, ?hy7⟩) ?_
          case hy7 => (intro w'; go_simp; try with_reducible rfl)
          try simp only [Act.put, List.setIfInBounds_toArray, List.set_cons_zero, List.set_cons_succ]
          refine wpAny_ready (rs := [4, 6]) (by kernel_rfl) (by simp) ?_
          refine AllReady.cons (o := { dst := some 52, op := Op.load 88 (Operand.tmp 51), type := 88, pos := "order.go:43", after := #[{ on := 3, ground := Ground.data }], guard := none }) rfl (fun K hK => ?_) ?_
          · go_simp
            refine hK _ _ ?_
            clear hK K
            try simp only [Act.put, List.setIfInBounds_toArray, List.set_cons_zero, List.set_cons_succ]
            refine wpAny_ready (rs := [6]) (by kernel_rfl) (by simp) ?_
            refine AllReady.cons (o := { dst := some 54, op := Op.load 3 (Operand.tmp 53), type := 3, pos := "order.go:43", after := #[{ on := 5, ground := Ground.data }], guard := none }) rfl (fun K hK => ?_) AllReady.nil
            go_simp
            refine hK _ _ ?_
            clear hK K
            try simp only [Act.put, List.setIfInBounds_toArray, List.set_cons_zero, List.set_cons_succ]
            refine wpAny_take (i := 7) (oi := { dst := some 55, op := Op.convert 3 98 (Operand.tmp 54), type := 98, pos := "order.go:43", after := #[{ on := 6, ground := Ground.data }], guard := none }) (v := ?va8) rfl (by kernel_rfl) (by kernel_rfl) (by kernel_rfl) (fun _ _ _ h => h) (Or.inl ⟨by rfl, ?hy8⟩) ?_
            case hy8 => (intro w'; go_simp; try with_reducible rfl)
            try simp only [Act.put, List.setIfInBounds_toArray, List.set_cons_zero, List.set_cons_succ]
            refine wpAny_take (i := 10) (oi := { dst := some 58, op := Op.call { callee := Callee.builtin Builtin.complex, args := #[Operand.tmp 55, Operand.tmp 57], argTypes := #[98, 98] }, type := 97, pos := "order.go:43", after := #[{ on := 7, ground := Ground.data }, { on := 9, ground := Ground.data }], guard := none }) (v := ?va9) rfl (by kernel_rfl) (by kernel_rfl) (by kernel_rfl) (fun _ _ _ h => h) (Or.inl ⟨by rfl, ?hy9⟩) ?_
            case hy9 => (intro w'; go_simp; try with_reducible rfl)
            try simp only [Act.put, List.setIfInBounds_toArray, List.set_cons_zero, List.set_cons_succ]
            refine wpAny_ready (rs := [11]) (by kernel_rfl) (by simp) ?_
            refine AllReady.cons (o := { dst := some 59, op := Op.buildSlice 88 1 #[(0, Operand.tmp 58)], type := 88, pos := "order.go:43", after := #[{ on := 10, ground := Ground.data }], guard := none }) rfl (fun K hK => ?_) AllReady.nil
            go_simp
            refine hK _ _ ?_
            clear hK K
            try simp only [Act.put, List.setIfInBounds_toArray, List.set_cons_zero, List.set_cons_succ]
            refine wpAny_ready (rs := [12]) (by kernel_rfl) (by simp) ?_
            refine AllReady.cons (o := { dst := some 60, op := Op.call { callee := Callee.builtin Builtin.append, args := #[Operand.tmp 52, Operand.tmp 59], argTypes := #[88, 88] }, type := 88, pos := "order.go:43", after := #[{ on := 4, ground := Ground.data }, { on := 11, ground := Ground.data }], guard := none }) rfl (fun K hK => ?_) AllReady.nil
            refine step_append_rd rfl (.tmp 52) (.tmp 59) 88 rfl B 97 i0 (.complex .f64 0 0) 1 16 Try.underlying88 hi0 hz0 hz1 hz2 rfl (by decide) (.slice av xs.length cv) xs.length xs rfl HO2.out (some ⟨w.heap.size + 1, 0, none⟩) 1 1 [.complex .f64 (FloatKind.f64.nearest x.b) (FloatKind.f64.nearest k)] rfl HR2.out rfl HS2.out HM2.out HM3.out HM4.out ?_
            intro v4 w4 hown4 hgr4 hat4
            obtain ⟨a4, p4, rfl, _⟩ := own_slice hown4
            obtain ⟨c54, f54, l54⟩ := HC4.out w4 hgr4
            have HFIN := Lib.hid (HF4.out a4 p4 w4 hown4 hgr4 hat4)
            clear hown4 hgr4 hat4
            refine hK _ _ ?_
            clear hK K
            try simp only [Act.put, List.setIfInBounds_toArray, List.set_cons_zero, List.set_cons_succ]
            refine wpAny_take (i := 13) (oi := { dst := some 61, op := Op.nilCheck (Operand.tmp 48), type := 0, pos := "order.go:43", after := #[{ on := 0, ground := Ground.data }, { on := 0, ground := Ground.phase }, { on := 1, ground := Ground.phase }, { on := 2, ground := Ground.phase }, { on := 3, ground := Ground.phase }, { on := 4, ground := Ground.phase }, { on := 5, ground := Ground.phase }, { on := 6, ground := Ground.phase }, { on := 7, ground := Ground.phase }, { on := 8, ground := Ground.phase }, { on := 9, ground := Ground.phase }, { on := 10, ground := Ground.phase }, { on := 11, ground := Ground.phase }, { on := 12, ground := Ground.phase }], guard := none }) (v := ?va10) rfl (by kernel_rfl) (by kernel_rfl) (by kernel_rfl) (fun _ _ _ h => h) (Or.inl ⟨by rfl, ?hy10⟩) ?_
            case hy10 => (intro w'; go_simp; try with_reducible rfl)
            try simp only [Act.put, List.setIfInBounds_toArray, List.set_cons_zero, List.set_cons_succ]
            refine wpAny_take (i := 14) (oi := { dst := some 62, op := Op.fieldAddr 90 (Operand.tmp 61) 5, type := 0, pos := "order.go:43", after := #[{ on := 13, ground := Ground.data }, { on := 0, ground := Ground.phase }, { on := 1, ground := Ground.phase }, { on := 2, ground := Ground.phase }, { on := 3, ground := Ground.phase }, { on := 4, ground := Ground.phase }, { on := 5, ground := Ground.phase }, { on := 6, ground := Ground.phase }, { on := 7, ground := Ground.phase }, { on := 8, ground := Ground.phase }, { on := 9, ground := Ground.phase }, { on := 10, ground := Ground.phase }, { on := 11, ground := Ground.phase }, { on := 12, ground := Ground.phase }], guard := none }) (v := ?va11) rfl (by kernel_rfl) (by kernel_rfl) (by kernel_rfl) (fun _ _ _ h => h) (Or.inl ⟨by rfl, ?hy11⟩) ?_
            case hy11 => (intro w'; go_simp; try with_reducible rfl)
            try simp only [Act.put, List.setIfInBounds_toArray, List.set_cons_zero, List.set_cons_succ]
            refine wpAny_ready (rs := [15]) (by kernel_rfl) (by simp) ?_
            refine AllReady.cons (o := { dst := none, op := Op.store 88 (Operand.tmp 62) (Operand.tmp 60), type := 0, pos := "order.go:43", after := #[{ on := 14, ground := Ground.data }, { on := 12, ground := Ground.data }, { on := 12, ground := Ground.chain }, { on := 0, ground := Ground.phase }, { on := 1, ground := Ground.phase }, { on := 2, ground := Ground.phase }, { on := 3, ground := Ground.phase }, { on := 4, ground := Ground.phase }, { on := 5, ground := Ground.phase }, { on := 6, ground := Ground.phase }, { on := 7, ground := Ground.phase }, { on := 8, ground := Ground.phase }, { on := 9, ground := Ground.phase }, { on := 10, ground := Ground.phase }, { on := 11, ground := Ground.phase }, { on := 12, ground := Ground.phase }], guard := none }) rfl (fun K hK => ?_) AllReady.nil
            go_simp
            refine hK _ _ ?_
            clear hK K
            try simp only [Act.put, List.setIfInBounds_toArray, List.set_cons_zero, List.set_cons_succ]
            refine wpAny_done (by kernel_rfl) ?_ _
            go_wp2_with fail
            go_ret
            exact ⟨by rw [HO.out]; rfl, HFIN.out HN.out HR.out⟩
          · refine AllReady.cons (o := { dst := some 54, op := Op.load 3 (Operand.tmp 53), type := 3, pos := "order.go:43", after := #[{ on := 5, ground := Ground.data }], guard := none }) rfl (fun K hK => ?_) AllReady.nil
            go_simp
            refine hK _ _ ?_
            clear hK K
            try simp only [Act.put, List.setIfInBounds_toArray, List.set_cons_zero, List.set_cons_succ]
            refine wpAny_take (i := 7) (oi := { dst := some 55, op := Op.convert 3 98 (Operand.tmp 54), type := 98, pos := "order.go:43", after := #[{ on := 6, ground := Ground.data }], guard := none }) (v := ?va16) rfl (by kernel_rfl) (by kernel_rfl) (by kernel_rfl) (fun _ _ _ h => h) (Or.inl ⟨by rfl, ?hy16⟩) ?_
            case hy16 => (intro w'; go_simp; try with_reducible rfl)
            try simp only [Act.put, List.setIfInBounds_toArray, List.set_cons_zero, List.set_cons_succ]
            refine wpAny_take (i := 10) (oi := { dst := some 58, op := Op.call { callee := Callee.builtin Builtin.complex, args := #[Operand.tmp 55, Operand.tmp 57], argTypes := #[98, 98] }, type := 97, pos := "order.go:43", after := #[{ on := 7, ground := Ground.data }, { on := 9, ground := Ground.data }], guard := none }) (v := ?va17) rfl (by kernel_rfl) (by kernel_rfl) (by kernel_rfl) (fun _ _ _ h => h) (Or.inl ⟨by rfl, ?hy17⟩) ?_
            case hy17 => (intro w'; go_simp; try with_reducible rfl)
            try simp only [Act.put, List.setIfInBounds_toArray, List.set_cons_zero, List.set_cons_succ]
            refine wpAny_ready (rs := [4, 11]) (by kernel_rfl) (by simp) ?_
            refine AllReady.cons (o := { dst := some 52, op := Op.load 88 (Operand.tmp 51), type := 88, pos := "order.go:43", after := #[{ on := 3, ground := Ground.data }], guard := none }) rfl (fun K hK => ?_) ?_
            · go_simp
              refine hK _ _ ?_
              clear hK K
              try simp only [Act.put, List.setIfInBounds_toArray, List.set_cons_zero, List.set_cons_succ]
              refine wpAny_ready (rs := [11]) (by kernel_rfl) (by simp) ?_
              refine AllReady.cons (o := { dst := some 59, op := Op.buildSlice 88 1 #[(0, Operand.tmp 58)], type := 88, pos := "order.go:43", after := #[{ on := 10, ground := Ground.data }], guard := none }) rfl (fun K hK => ?_) AllReady.nil
              go_simp
              refine hK _ _ ?_
              clear hK K
              try simp only [Act.put, List.setIfInBounds_toArray, List.set_cons_zero, List.set_cons_succ]
              refine wpAny_ready (rs := [12]) (by kernel_rfl) (by simp) ?_
              refine AllReady.cons (o := { dst := some 60, op := Op.call { callee := Callee.builtin Builtin.append, args := #[Operand.tmp 52, Operand.tmp 59], argTypes := #[88, 88] }, type := 88, pos := "order.go:43", after := #[{ on := 4, ground := Ground.data }, { on := 11, ground := Ground.data }], guard := none }) rfl (fun K hK => ?_) AllReady.nil
              refine step_append_rd rfl (.tmp 52) (.tmp 59) 88 rfl B 97 i0 (.complex .f64 0 0) 1 16 Try.underlying88 hi0 hz0 hz1 hz2 rfl (by decide) (.slice av xs.length cv) xs.length xs rfl HO2.out (some ⟨w.heap.size + 1, 0, none⟩) 1 1 [.complex .f64 (FloatKind.f64.nearest x.b) (FloatKind.f64.nearest k)] rfl HR2.out rfl HS2.out HM2.out HM3.out HM4.out ?_
              intro v4 w4 hown4 hgr4 hat4
              obtain ⟨a4, p4, rfl, _⟩ := own_slice hown4
              obtain ⟨c54, f54, l54⟩ := HC4.out w4 hgr4
              have HFIN := Lib.hid (HF4.out a4 p4 w4 hown4 hgr4 hat4)
              clear hown4 hgr4 hat4
              refine hK _ _ ?_
              clear hK K
              try simp only [Act.put, List.setIfInBounds_toArray, List.set_cons_zero, List.set_cons_succ]
              refine wpAny_take (i := 13) (oi := { dst := some 61, op := Op.nilCheck (Operand.tmp 48), type := 0, pos := "order.go:43", after := #[{ on := 0, ground := Ground.data }, { on := 0, ground := Ground.phase }, { on := 1, ground := Ground.phase }, { on := 2, ground := Ground.phase }, { on := 3, ground := Ground.phase }, { on := 4, ground := Ground.phase }, { on := 5, ground := Ground.phase }, { on := 6, ground := Ground.phase }, { on := 7, ground := Ground.phase }, { on := 8, ground := Ground.phase }, { on := 9, ground := Ground.phase }, { on := 10, ground := Ground.phase }, { on := 11, ground := Ground.phase }, { on := 12, ground := Ground.phase }], guard := none }) (v := ?va12) rfl (by kernel_rfl) (by kernel_rfl) (by kernel_rfl) (fun _ _ _ h => h) (Or.inl ⟨by rfl, ?hy12⟩) ?_
              case hy12 => (intro w'; go_simp; try with_reducible rfl)
              try simp only [Act.put, List.setIfInBounds_toArray, List.set_cons_zero, List.set_cons_succ]
              refine wpAny_take (i := 14) (oi := { dst := some 62, op := Op.fieldAddr 90 (Operand.tmp 61) 5, type := 0, pos := "order.go:43", after := #[{ on := 13, ground := Ground.data }, { on := 0, ground := Ground.phase }, { on := 1, ground := Ground.phase }, { on := 2, ground := Ground.phase }, { on := 3, ground := Ground.phase }, { on := 4, ground := Ground.phase }, { on := 5, ground := Ground.phase }, { on := 6, ground := Ground.phase }, { on := 7, ground := Ground.phase }, { on := 8, ground := Ground.phase }, { on := 9, ground := Ground.phase }, { on := 10, ground := Ground.phase }, { on := 11, ground := Ground.phase }, { on := 12, ground := Ground.phase }], guard := none }) (v := ?va13) rfl (by kernel_rfl) (by kernel_rfl) (by kernel_rfl) (fun _ _ _ h => h) (Or.inl ⟨by rfl, ?hy13⟩) ?_
              case hy13 => (intro w'; go_simp; try with_reducible rfl)
              try simp only [Act.put, List.setIfInBounds_toArray, List.set_cons_zero, List.set_cons_succ]
              refine wpAny_ready (rs := [15]) (by kernel_rfl) (by simp) ?_
              refine AllReady.cons (o := { dst := none, op := Op.store 88 (Operand.tmp 62) (Operand.tmp 60), type := 0, pos := "order.go:43", after := #[{ on := 14, ground := Ground.data }, { on := 12, ground := Ground.data }, { on := 12, ground := Ground.chain }, { on := 0, ground := Ground.phase }, { on := 1, ground := Ground.phase }, { on := 2, ground := Ground.phase }, { on := 3, ground := Ground.phase }, { on := 4, ground := Ground.phase }, { on := 5, ground := Ground.phase }, { on := 6, ground := Ground.phase }, { on := 7, ground := Ground.phase }, { on := 8, ground := Ground.phase }, { on := 9, ground := Ground.phase }, { on := 10, ground := Ground.phase }, { on := 11, ground := Ground.phase }, { on := 12, ground := Ground.phase }], guard := none }) rfl (fun K hK => ?_) AllReady.nil
              go_simp
              refine hK _ _ ?_
              clear hK K
              try simp only [Act.put, List.setIfInBounds_toArray, List.set_cons_zero, List.set_cons_succ]
              refine wpAny_done (by kernel_rfl) ?_ _
              go_wp2_with fail
              go_ret
              exact ⟨by rw [HO.out]; rfl, HFIN.out HN.out HR.out⟩
            · refine AllReady.cons (o := { dst := some 59, op := Op.buildSlice 88 1 #[(0, Operand.tmp 58)], type := 88, pos := "order.go:43", after := #[{ on := 10, ground := Ground.data }], guard := none }) rfl (fun K hK => ?_) AllReady.nil
              go_simp
              refine hK _ _ ?_
              clear hK K
              try simp only [Act.put, List.setIfInBounds_toArray, List.set_cons_zero, List.set_cons_succ]
              refine wpAny_ready (rs := [4]) (by kernel_rfl) (by simp) ?_
              refine AllReady.cons (o := { dst := some 52, op := Op.load 88 (Operand.tmp 51), type := 88, pos := "order.go:43", after := #[{ on := 3, ground := Ground.data }], guard := none }) rfl (fun K hK => ?_) AllReady.nil
              go_simp
              refine hK _ _ ?_
              clear hK K
              try simp only [Act.put, List.setIfInBounds_toArray, List.set_cons_zero, List.set_cons_succ]
              refine wpAny_ready (rs := [12]) (by kernel_rfl) (by simp) ?_
              refine AllReady.cons (o := { dst := some 60, op := Op.call { callee := Callee.builtin Builtin.append, args := #[Operand.tmp 52, Operand.tmp 59], argTypes := #[88, 88] }, type := 88, pos := "order.go:43", after := #[{ on := 4, ground := Ground.data }, { on := 11, ground := Ground.data }], guard := none }) rfl (fun K hK => ?_) AllReady.nil
              refine step_append_rd rfl (.tmp 52) (.tmp 59) 88 rfl B 97 i0 (.complex .f64 0 0) 1 16 Try.underlying88 hi0 hz0 hz1 hz2 rfl (by decide) (.slice av xs.length cv) xs.length xs rfl HO2.out (some ⟨w.heap.size + 1, 0, none⟩) 1 1 [.complex .f64 (FloatKind.f64.nearest x.b) (FloatKind.f64.nearest k)] rfl HR2.out rfl HS2.out HM2.out HM3.out HM4.out ?_
              intro v4 w4 hown4 hgr4 hat4
              obtain ⟨a4, p4, rfl, _⟩ := own_slice hown4
              obtain ⟨c54, f54, l54⟩ := HC4.out w4 hgr4
              have HFIN := Lib.hid (HF4.out a4 p4 w4 hown4 hgr4 hat4)
              clear hown4 hgr4 hat4
              refine hK _ _ ?_
              clear hK K
              try simp only [Act.put, List.setIfInBounds_toArray, List.set_cons_zero, List.set_cons_succ]
              refine wpAny_take (i := 13) (oi := { dst := some 61, op := Op.nilCheck (Operand.tmp 48), type := 0, pos := "order.go:43", after := #[{ on := 0, ground := Ground.data }, { on := 0, ground := Ground.phase }, { on := 1, ground := Ground.phase }, { on := 2, ground := Ground.phase }, { on := 3, ground := Ground.phase }, { on := 4, ground := Ground.phase }, { on := 5, ground := Ground.phase }, { on := 6, ground := Ground.phase }, { on := 7, ground := Ground.phase }, { on := 8, ground := Ground.phase }, { on := 9, ground := Ground.phase }, { on := 10, ground := Ground.phase }, { on := 11, ground := Ground.phase }, { on := 12, ground := Ground.phase }], guard := none }) (v := ?va14) rfl (by kernel_rfl) (by kernel_rfl) (by kernel_rfl) (fun _ _ _ h => h) (Or.inl ⟨by rfl, ?hy14⟩) ?_
              case hy14 => (intro w'; go_simp; try with_reducible rfl)
              try simp only [Act.put, List.setIfInBounds_toArray, List.set_cons_zero, List.set_cons_succ]
              refine wpAny_take (i := 14) (oi := { dst := some 62, op := Op.fieldAddr 90 (Operand.tmp 61) 5, type := 0, pos := "order.go:43", after := #[{ on := 13, ground := Ground.data }, { on := 0, ground := Ground.phase }, { on := 1, ground := Ground.phase }, { on := 2, ground := Ground.phase }, { on := 3, ground := Ground.phase }, { on := 4, ground := Ground.phase }, { on := 5, ground := Ground.phase }, { on := 6, ground := Ground.phase }, { on := 7, ground := Ground.phase }, { on := 8, ground := Ground.phase }, { on := 9, ground := Ground.phase }, { on := 10, ground := Ground.phase }, { on := 11, ground := Ground.phase }, { on := 12, ground := Ground.phase }], guard := none }) (v := ?va15) rfl (by kernel_rfl) (by kernel_rfl) (by kernel_rfl) (fun _ _ _ h => h) (Or.inl ⟨by rfl, ?hy15⟩) ?_
              case hy15 => (intro w'; go_simp; try with_reducible rfl)
              try simp only [Act.put, List.setIfInBounds_toArray, List.set_cons_zero, List.set_cons_succ]
              refine wpAny_ready (rs := [15]) (by kernel_rfl) (by simp) ?_
              refine AllReady.cons (o := { dst := none, op := Op.store 88 (Operand.tmp 62) (Operand.tmp 60), type := 0, pos := "order.go:43", after := #[{ on := 14, ground := Ground.data }, { on := 12, ground := Ground.data }, { on := 12, ground := Ground.chain }, { on := 0, ground := Ground.phase }, { on := 1, ground := Ground.phase }, { on := 2, ground := Ground.phase }, { on := 3, ground := Ground.phase }, { on := 4, ground := Ground.phase }, { on := 5, ground := Ground.phase }, { on := 6, ground := Ground.phase }, { on := 7, ground := Ground.phase }, { on := 8, ground := Ground.phase }, { on := 9, ground := Ground.phase }, { on := 10, ground := Ground.phase }, { on := 11, ground := Ground.phase }, { on := 12, ground := Ground.phase }], guard := none }) rfl (fun K hK => ?_) AllReady.nil
              go_simp
              refine hK _ _ ?_
              clear hK K
              try simp only [Act.put, List.setIfInBounds_toArray, List.set_cons_zero, List.set_cons_succ]
              refine wpAny_done (by kernel_rfl) ?_ _
              go_wp2_with fail
              go_ret
              exact ⟨by rw [HO.out]; rfl, HFIN.out HN.out HR.out⟩
        · have HO : Hid (okS x t = false) := by show _ = _; simp [okS, hk, hb, rwB, hc, h1, h2]
          rw [hc] at c1
          clear hb
          have t0 : (x.k != 0) = true := by simp [hk]
          have t1 : (x.k == 0) = false := by simp [hk]
          have t2 : (x.k == 1) = true := by simp [hk]
          have t3 : (x.k == 2) = false := by simp [hk]
          have t4 : (x.k == 3) = false := by simp [hk]
          have t5 : (x.k == 4) = false := by simp [hk]
          have t6 : (x.k == 5) = false := by simp [hk]
          have HR : Hid (rwB x = true) := by show _ = _; simp [rwB, hk]
          have HN : Hid (t = nxt k x t) := by show _ = _; simp [nxt, hk]
          clear hk
          go_enter Try.func46, Try.ntmps46
          go_wp2_with fail
          refine wp_region_any (by kernel_rfl) ?_
          try (change wpAny _ _ _ _ _ _ _ (World.drew _))
          refine wpAny_take (i := 0) (oi := { dst := some 48, op := Op.move (Operand.tmp 0), type := 96, pos := "order.go:43", after := #[], guard := none }) (v := ?va1) rfl (by kernel_rfl) (by kernel_rfl) (by kernel_rfl) (fun _ _ _ h => h) (Or.inl ⟨by rfl, ?hy1⟩) ?_
          case hy1 => (intro w'; go_simp; try with_reducible rfl)
          try simp only [Act.put, List.setIfInBounds_toArray, List.set_cons_zero, List.set_cons_succ]
          refine wpAny_take (i := 1) (oi := { dst := some 49, op := Op.move (Operand.tmp 0), type := 96, pos := "order.go:43", after := #[], guard := none }) (v := ?va2) rfl (by kernel_rfl) (by kernel_rfl) (by kernel_rfl) (fun _ _ _ h => h) (Or.inl ⟨by rfl, ?hy2⟩) ?_
          case hy2 => (intro w'; go_simp; try with_reducible rfl)
          try simp only [Act.put, List.setIfInBounds_toArray, List.set_cons_zero, List.set_cons_succ]
          refine wpAny_take (i := 2) (oi := { dst := some 50, op := Op.nilCheck (Operand.tmp 49), type := 0, pos := "order.go:43", after := #[{ on := 1, ground := Ground.data }], guard := none }) (v := ?va3) rfl (by kernel_rfl) (by kernel_rfl) (by kernel_rfl) (fun _ _ _ h => h) (Or.inl ⟨by rfl, ?hy3⟩) ?_
          case hy3 => (intro w'; go_simp; try with_reducible rfl)
          try simp only [Act.put, List.setIfInBounds_toArray, List.set_cons_zero, List.set_cons_succ]
          refine wpAny_take (i := 3) (oi := { dst := some 51, op := Op.fieldAddr 90 (Operand.tmp 50) 5, type := 0, pos := "order.go:43", after := #[{ on := 2, ground := Ground.data }], guard := none }) (v := ?va4) rfl (by kernel_rfl) (by kernel_rfl) (by kernel_rfl) (fun _ _ _ h => h) (Or.inl ⟨by rfl, ?hy4⟩) ?_
          case hy4 => (intro w'; go_simp; try with_reducible rfl)
          try simp only [Act.put, List.setIfInBounds_toArray, List.set_cons_zero, List.set_cons_succ]
          refine wpAny_take (i := 5) (oi := { dst := some 53, op := Op.fieldAddr 36 (Operand.tmp 5) 2, type := 0, pos := "order.go:43", after := #[], guard := none }) (v := ?va5) rfl (by kernel_rfl) (by kernel_rfl) (by kernel_rfl) (fun _ _ _ h => h) (Or.inl ⟨by rfl, ?hy5⟩) ?_
          case hy5 => (intro w'; go_simp; try with_reducible rfl)
          try simp only [Act.put, List.setIfInBounds_toArray, List.set_cons_zero, List.set_cons_succ]
          refine wpAny_take (i := 8) (oi := { dst := some 56, op := Op.move (Operand.tmp 1), type := 3, pos := "order.go:43", after := #[], guard := none }) (v := ?va6) rfl (by kernel_rfl) (by kernel_rfl) (by kernel_rfl) (fun _ _ _ h => h) (Or.inl ⟨by rfl, ?hy6⟩) ?_
          case hy6 => (intro w'; go_simp; try with_reducible rfl)
          try simp only [Act.put, List.setIfInBounds_toArray, List.set_cons_zero, List.set_cons_succ]
          refine wpAny_take (i := 9) (oi := { dst := some 57, op := Op.convert 3 98 (Operand.tmp 56), type := 98, pos := "order.go:43", after := #[{ on := 8, ground := Ground.data }], guard := none }) (v := ?va7) rfl (by kernel_rfl) (by kernel_rfl) (by kernel_rfl) (fun _ _ _ h => h) (Or.inl ⟨by rfl, ?hy7⟩) ?_
          case hy7 => (intro w'; go_simp; try with_reducible rfl)
          try simp only [Act.put, List.setIfInBounds_toArray, List.set_cons_zero, List.set_cons_succ]
          refine wpAny_ready (rs := [4, 6]) (by kernel_rfl) (by simp) ?_
          refine AllReady.cons (o := { dst := some 52, op := Op.load 88 (Operand.tmp 51), type := 88, pos := "order.go:43", after := #[{ on := 3, ground := Ground.data }], guard := none }) rfl (fun K hK => ?_) ?_
          · go_simp
            refine hK _ _ ?_
            clear hK K
            try simp only [Act.put, List.setIfInBounds_toArray, List.set_cons_zero, List.set_cons_succ]
            refine wpAny_ready (rs := [6]) (by kernel_rfl) (by simp) ?_
            refine AllReady.cons (o := { dst := some 54, op := Op.load 3 (Operand.tmp 53), type := 3, pos := "order.go:43", after := #[{ on := 5, ground := Ground.data }], guard := none }) rfl (fun K hK => ?_) AllReady.nil
            go_simp
            refine hK _ _ ?_
            clear hK K
            try simp only [Act.put, List.setIfInBounds_toArray, List.set_cons_zero, List.set_cons_succ]
            refine wpAny_take (i := 7) (oi := { dst := some 55, op := Op.convert 3 98 (Operand.tmp 54), type := 98, pos := "order.go:43", after := #[{ on := 6, ground := Ground.data }], guard := none }) (v := ?va8) rfl (by kernel_rfl) (by kernel_rfl) (by kernel_rfl) (fun _ _ _ h => h) (Or.inl ⟨by rfl, ?hy8⟩) ?_
            case hy8 => (intro w'; go_simp; try with_reducible rfl)
            try simp only [Act.put, List.setIfInBounds_toArray, List.set_cons_zero, List.set_cons_succ]
            refine wpAny_take (i := 10) (oi := { dst := some 58, op := Op.call { callee := Callee.builtin Builtin.complex, args := #[Operand.tmp 55, Operand.tmp 57], argTypes := #[98, 98] }, type := 97, pos := "order.go:43", after := #[{ on := 7, ground := Ground.data }, { on := 9, ground := Ground.data }], guard := none }) (v := ?va9) rfl (by kernel_rfl) (by kernel_rfl) (by kernel_rfl) (fun _ _ _ h => h) (Or.inl ⟨by rfl, ?hy9⟩) ?_
            case hy9 => (intro w'; go_simp; try with_reducible rfl)
            try simp only [Act.put, List.setIfInBounds_toArray, List.set_cons_zero, List.set_cons_succ]
            refine wpAny_ready (rs := [11]) (by kernel_rfl) (by simp) ?_
            refine AllReady.cons (o := { dst := some 59, op := Op.buildSlice 88 1 #[(0, Operand.tmp 58)], type := 88, pos := "order.go:43", after := #[{ on := 10, ground := Ground.data }], guard := none }) rfl (fun K hK => ?_) AllReady.nil
            go_simp
            refine hK _ _ ?_
            clear hK K
            try simp only [Act.put, List.setIfInBounds_toArray, List.set_cons_zero, List.set_cons_succ]
            refine wpAny_ready (rs := [12]) (by kernel_rfl) (by simp) ?_
            refine AllReady.cons (o := { dst := some 60, op := Op.call { callee := Callee.builtin Builtin.append, args := #[Operand.tmp 52, Operand.tmp 59], argTypes := #[88, 88] }, type := 88, pos := "order.go:43", after := #[{ on := 4, ground := Ground.data }, { on := 11, ground := Ground.data }], guard := none }) rfl (fun K hK => ?_) AllReady.nil
            refine step_append_rd rfl (.tmp 52) (.tmp 59) 88 rfl B 97 i0 (.complex .f64 0 0) 1 16 Try.underlying88 hi0 hz0 hz1 hz2 rfl (by decide) (.slice av xs.length cv) xs.length xs rfl HO2.out (some ⟨w.heap.size + 1, 0, none⟩) 1 1 [.complex .f64 (FloatKind.f64.nearest x.b) (FloatKind.f64.nearest k)] rfl HR2.out rfl HS2.out HM2.out HM3.out HM4.out ?_
            intro v4 w4 hown4 hgr4 hat4
            obtain ⟨a4, p4, rfl, _⟩ := own_slice hown4
            obtain ⟨c54, f54, l54⟩ := HC4.out w4 hgr4
            have HFIN := Lib.hid (HF4.out a4 p4 w4 hown4 hgr4 hat4)
            clear hown4 hgr4 hat4
            refine hK _ _ ?_
            clear hK K
            try simp only [Act.put, List.setIfInBounds_toArray, List.set_cons_zero, List.set_cons_succ]
            refine wpAny_take (i := 13) (oi := { dst := some 61, op := Op.nilCheck (Operand.tmp 48), type := 0, pos := "order.go:43", after := #[{ on := 0, ground := Ground.data }, { on := 0, ground := Ground.phase }, { on := 1, ground := Ground.phase }, { on := 2, ground := Ground.phase }, { on := 3, ground := Ground.phase }, { on := 4, ground := Ground.phase }, { on := 5, ground := Ground.phase }, { on := 6, ground := Ground.phase }, { on := 7, ground := Ground.phase }, { on := 8, ground := Ground.phase }, { on := 9, ground := Ground.phase }, { on := 10, ground := Ground.phase }, { on := 11, ground := Ground.phase }, { on := 12, ground := Ground.phase }], guard := none }) (v := ?va10) rfl (by kernel_rfl) (by kernel_rfl) (by kernel_rfl) (fun _ _ _ h => h) (Or.inl ⟨by rfl, ?hy10⟩) ?_
            case hy10 => (intro w'; go_simp; try with_reducible rfl)
            try simp only [Act.put, List.setIfInBounds_toArray, List.set_cons_zero, List.set_cons_succ]
            refine wpAny_take (i := 14) (oi := { dst := some 62, op := Op.fieldAddr 90 (Operand.tmp 61) 5, type := 0, pos := "order.go:43", after := #[{ on := 13, ground := Ground.data }, { on := 0, ground := Ground.phase }, { on := 1, ground := Ground.phase }, { on := 2, ground := Ground.phase }, { on := 3, ground := Ground.phase }, { on := 4, ground := Ground.phase }, { on := 5, ground := Ground.phase }, { on := 6, ground := Ground.phase }, { on := 7, ground := Ground.phase }, { on := 8, ground := Ground.phase }, { on := 9, ground := Ground.phase }, { on := 10, ground := Ground.phase }, { on := 11, ground := Ground.phase }, { on := 12, ground := Ground.phase }], guard := none }) (v := ?va11) rfl (by kernel_rfl) (by kernel_rfl) (by kernel_rfl) (fun _ _ _ h => h) (Or.inl ⟨by rfl, ?hy11⟩) ?_
            case hy11 => (intro w'; go_simp; try with_reducible rfl)
            try simp only [Act.put, List.setIfInBounds_toArray, List.set_cons_zero, List.set_cons_succ]
            refine wpAny_ready (rs := [15]) (by kernel_rfl) (by simp) ?_
            refine AllReady.cons (o := { dst := none, op := Op.store 88 (Operand.tmp 62) (Operand.tmp 60), type := 0, pos := "order.go:43", after := #[{ on := 14, ground := Ground.data }, { on := 12, ground := Ground.data }, { on := 12, ground := Ground.chain }, { on := 0, ground := Ground.phase }, { on := 1, ground := Ground.phase }, { on := 2, ground := Ground.phase }, { on := 3, ground := Ground.phase }, { on := 4, ground := Ground.phase }, { on := 5, ground := Ground.phase }, { on := 6, ground := Ground.phase }, { on := 7, ground := Ground.phase }, { on := 8, ground := Ground.phase }, { on := 9, ground := Ground.phase }, { on := 10, ground := Ground.phase }, { on := 11, ground := Ground.phase }, { on := 12, ground := Ground.phase }], guard := none }) rfl (fun K hK => ?_) AllReady.nil
            go_simp
            refine hK _ _ ?_
            clear hK K
            try simp only [Act.put, List.setIfInBounds_toArray, List.set_cons_zero, List.set_cons_succ]
            refine wpAny_done (by kernel_rfl) ?_ _
            go_wp2_with fail
            go_ret
            exact ⟨by rw [HO.out]; rfl, HFIN.out HN.out HR.out⟩
          · refine AllReady.cons (o := { dst := some 54, op := Op.load 3 (Operand.tmp 53), type := 3, pos := "order.go:43", after := #[{ on := 5, ground := Ground.data }], guard := none }) rfl (fun K hK => ?_) AllReady.nil
            go_simp
            refine hK _ _ ?_
            clear hK K
            try simp only [Act.put, List.setIfInBounds_toArray, List.set_cons_zero, List.set_cons_succ]
            refine wpAny_take (i := 7) (oi := { dst := some 55, op := Op.convert 3 98 (Operand.tmp 54), type := 98, pos := "order.go:43", after := #[{ on := 6, ground := Ground.data }], guard := none }) (v := ?va16) rfl (by kernel_rfl) (by kernel_rfl) (by kernel_rfl) (fun _ _ _ h => h) (Or.inl ⟨by rfl, ?hy16⟩) ?_
            case hy16 => (intro w'; go_simp; try with_reducible rfl)
            try simp only [Act.put, List.setIfInBounds_toArray, List.set_cons_zero, List.set_cons_succ]
            refine wpAny_take (i := 10) (oi := { dst := some 58, op := Op.call { callee := Callee.builtin Builtin.complex, args := #[Operand.tmp 55, Operand.tmp 57], argTypes := #[98, 98] }, type := 97, pos := "order.go:43", after := #[{ on := 7, ground := Ground.data }, { on := 9, ground := Ground.data }], guard := none }) (v := ?va17) rfl (by kernel_rfl) (by kernel_rfl) (by kernel_rfl) (fun _ _ _ h => h) (Or.inl ⟨by rfl, ?hy17⟩) ?_
            case hy17 => (intro w'; go_simp; try with_reducible rfl)
            try simp only [Act.put, List.setIfInBounds_toArray, List.set_cons_zero, List.set_cons_succ]
            refine wpAny_ready (rs := [4, 11]) (by kernel_rfl) (by simp) ?_
            refine AllReady.cons (o := { dst := some 52, op := Op.load 88 (Operand.tmp 51), type := 88, pos := "order.go:43", after := #[{ on := 3, ground := Ground.data }], guard := none }) rfl (fun K hK => ?_) ?_
            · go_simp
              refine hK _ _ ?_
              clear hK K
              try simp only [Act.put, List.setIfInBounds_toArray, List.set_cons_zero, List.set_cons_succ]
              refine wpAny_ready (rs := [11]) (by kernel_rfl) (by simp) ?_
              refine AllReady.cons (o := { dst := some 59, op := Op.buildSlice 88 1 #[(0, Operand.tmp 58)], type := 88, pos := "order.go:43", after := #[{ on := 10, ground := Ground.data }], guard := none }) rfl (fun K hK => ?_) AllReady.nil
              go_simp
              refine hK _ _ ?_
              clear hK K
              try simp only [Act.put, List.setIfInBounds_toArray, List.set_cons_zero, List.set_cons_succ]
              refine wpAny_ready (rs := [12]) (by kernel_rfl) (by simp) ?_
              refine AllReady.cons (o := { dst := some 60, op := Op.call { callee := Callee.builtin Builtin.append, args := #[Operand.tmp 52, Operand.tmp 59], argTypes := #[88, 88] }, type := 88, pos := "order.go:43", after := #[{ on := 4, ground := Ground.data }, { on := 11, ground := Ground.data }], guard := none }) rfl (fun K hK => ?_) AllReady.nil
              refine step_append_rd rfl (.tmp 52) (.tmp 59) 88 rfl B 97 i0 (.complex .f64 0 0) 1 16 Try.underlying88 hi0 hz0 hz1 hz2 rfl (by decide) (.slice av xs.length cv) xs.length xs rfl HO2.out (some ⟨w.heap.size + 1, 0, none⟩) 1 1 [.complex .f64 (FloatKind.f64.nearest x.b) (FloatKind.f64.nearest k)] rfl HR2.out rfl HS2.out HM2.out HM3.out HM4.out ?_
              intro v4 w4 hown4 hgr4 hat4
              obtain ⟨a4, p4, rfl, _⟩ := own_slice hown4
              obtain ⟨c54, f54, l54⟩ := HC4.out w4 hgr4
              have HFIN := Lib.hid (HF4.out a4 p4 w4 hown4 hgr4 hat4)
              clear hown4 hgr4 hat4
              refine hK _ _ ?_
              clear hK K
              try simp only [Act.put, List.setIfInBounds_toArray, List.set_cons_zero, List.set_cons_succ]
              refine wpAny_take (i := 13) (oi := { dst := some 61, op := Op.nilCheck (Operand.tmp 48), type := 0, pos := "order.go:43", after := #[{ on := 0, ground := Ground.data }, { on := 0, ground := Ground.phase }, { on := 1, ground := Ground.phase }, { on := 2, ground := Ground.phase }, { on := 3, ground := Ground.phase }, { on := 4, ground := Ground.phase }, { on := 5, ground := Ground.phase }, { on := 6, ground := Ground.phase }, { on := 7, ground := Ground.phase }, { on := 8, ground := Ground.phase }, { on := 9, ground := Ground.phase }, { on := 10, ground := Ground.phase }, { on := 11, ground := Ground.phase }, { on := 12, ground := Ground.phase }], guard := none }) (v := ?va12) rfl (by kernel_rfl) (by kernel_rfl) (by kernel_rfl) (fun _ _ _ h => h) (Or.inl ⟨by rfl, ?hy12⟩) ?_
              case hy12 => (intro w'; go_simp; try with_reducible rfl)
              try simp only [Act.put, List.setIfInBounds_toArray, List.set_cons_zero, List.set_cons_succ]
              refine wpAny_take (i := 14) (oi := { dst := some 62, op := Op.fieldAddr 90 (Operand.tmp 61) 5, type := 0, pos := "order.go:43", after := #[{ on := 13, ground := Ground.data }, { on := 0, ground := Ground.phase }, { on := 1, ground := Ground.phase }, { on := 2, ground := Ground.phase }, { on := 3, ground := Ground.phase }, { on := 4, ground := Ground.phase }, { on := 5, ground := Ground.phase }, { on := 6, ground := Ground.phase }, { on := 7, ground := Ground.phase }, { on := 8, ground := Ground.phase }, { on := 9, ground := Ground.phase }, { on := 10, ground := Ground.phase }, { on := 11, ground := Ground.phase }, { on := 12, ground := Ground.phase }], guard := none }) (v := ?va13) rfl (by kernel_rfl) (by kernel_rfl) (by kernel_rfl) (fun _ _ _ h => h) (Or.inl ⟨by rfl, ?hy13⟩) ?_
              case hy13 => (intro w'; go_simp; try with_reducible rfl)
              try simp only [Act.put, List.setIfInBounds_toArray, List.set_cons_zero, List.set_cons_succ]
              refine wpAny_ready (rs := [15]) (by kernel_rfl) (by simp) ?_
              refine AllReady.cons (o := { dst := none, op := Op.store 88 (Operand.tmp 62) (Operand.tmp 60), type := 0, pos := "order.go:43", after := #[{ on := 14, ground := Ground.data }, { on := 12, ground := Ground.data }, { on := 12, ground := Ground.chain }, { on := 0, ground := Ground.phase }, { on := 1, ground := Ground.phase }, { on := 2, ground := Ground.phase }, { on := 3, ground := Ground.phase }, { on := 4, ground := Ground.phase }, { on := 5, ground := Ground.phase }, { on := 6, ground := Ground.phase }, { on := 7, ground := Ground.phase }, { on := 8, ground := Ground.phase }, { on := 9, ground := Ground.phase }, { on := 10, ground := Ground.phase }, { on := 11, ground := Ground.phase }, { on := 12, ground := Ground.phase }], guard := none }) rfl (fun K hK => ?_) AllReady.nil
              go_simp
              refine hK _ _ ?_
              clear hK K
              try simp only [Act.put, List.setIfInBounds_toArray, List.set_cons_zero, List.set_cons_succ]
              refine wpAny_done (by kernel_rfl) ?_ _
              go_wp2_with fail
              go_ret
              exact ⟨by rw [HO.out]; rfl, HFIN.out HN.out HR.out⟩
            · refine AllReady.cons (o := { dst := some 59, op := Op.buildSlice 88 1 #[(0, Operand.tmp 58)], type := 88, pos := "order.go:43", after := #[{ on := 10, ground := Ground.data }], guard := none }) rfl (fun K hK => ?_) AllReady.nil
              go_simp
              refine hK _ _ ?_
              clear hK K
              try simp only [Act.put, List.setIfInBounds_toArray, List.set_cons_zero, List.set_cons_succ]
              refine wpAny_ready (rs := [4]) (by kernel_rfl) (by simp) ?_
              refine AllReady.cons (o := { dst := some 52, op := Op.load 88 (Operand.tmp 51), type := 88, pos := "order.go:43", after := #[{ on := 3, ground := Ground.data }], guard := none }) rfl (fun K hK => ?_) AllReady.nil
              go_simp
              refine hK _ _ ?_
              clear hK K
              try simp only [Act.put, List.setIfInBounds_toArray, List.set_cons_zero, List.set_cons_succ]
              refine wpAny_ready (rs := [12]) (by kernel_rfl) (by simp) ?_
              refine AllReady.cons (o := { dst := some 60, op := Op.call { callee := Callee.builtin Builtin.append, args := #[Operand.tmp 52, Operand.tmp 59], argTypes := #[88, 88] }, type := 88, pos := "order.go:43", after := #[{ on := 4, ground := Ground.data }, { on := 11, ground := Ground.data }], guard := none }) rfl (fun K hK => ?_) AllReady.nil
              refine step_append_rd rfl (.tmp 52) (.tmp 59) 88 rfl B 97 i0 (.complex .f64 0 0) 1 16 Try.underlying88 hi0 hz0 hz1 hz2 rfl (by decide) (.slice av xs.length cv) xs.length xs rfl HO2.out (some ⟨w.heap.size + 1, 0, none⟩) 1 1 [.complex .f64 (FloatKind.f64.nearest x.b) (FloatKind.f64.nearest k)] rfl HR2.out rfl HS2.out HM2.out HM3.out HM4.out ?_
              intro v4 w4 hown4 hgr4 hat4
              obtain ⟨a4, p4, rfl, _⟩ := own_slice hown4
              obtain ⟨c54, f54, l54⟩ := HC4.out w4 hgr4
              have HFIN := Lib.hid (HF4.out a4 p4 w4 hown4 hgr4 hat4)
              clear hown4 hgr4 hat4
              refine hK _ _ ?_
              clear hK K
              try simp only [Act.put, List.setIfInBounds_toArray, List.set_cons_zero, List.set_cons_succ]
              refine wpAny_take (i := 13) (oi := { dst := some 61, op := Op.nilCheck (Operand.tmp 48), type := 0, pos := "order.go:43", after := #[{ on := 0, ground := Ground.data }, { on := 0, ground := Ground.phase }, { on := 1, ground := Ground.phase }, { on := 2, ground := Ground.phase }, { on := 3, ground := Ground.phase }, { on := 4, ground := Ground.phase }, { on := 5, ground := Ground.phase }, { on := 6, ground := Ground.phase }, { on := 7, ground := Ground.phase }, { on := 8, ground := Ground.phase }, { on := 9, ground := Ground.phase }, { on := 10, ground := Ground.phase }, { on := 11, ground := Ground.phase }, { on := 12, ground := Ground.phase }], guard := none }) (v := ?va14) rfl (by kernel_rfl) (by kernel_rfl) (by kernel_rfl) (fun _ _ _ h => h) (Or.inl ⟨by rfl, ?hy14⟩) ?_
              case hy14 => (intro w'; go_simp; try with_reducible rfl)
              try simp only [Act.put, List.setIfInBounds_toArray, List.set_cons_zero, List.set_cons_succ]
              refine wpAny_take (i := 14) (oi := { dst := some 62, op := Op.fieldAddr 90 (Operand.tmp 61) 5, type := 0, pos := "order.go:43", after := #[{ on := 13, ground := Ground.data }, { on := 0, ground := Ground.phase }, { on := 1, ground := Ground.phase }, { on := 2, ground := Ground.phase }, { on := 3, ground := Ground.phase }, { on := 4, ground := Ground.phase }, { on := 5, ground := Ground.phase }, { on := 6, ground := Ground.phase }, { on := 7, ground := Ground.phase }, { on := 8, ground := Ground.phase }, { on := 9, ground := Ground.phase }, { on := 10, ground := Ground.phase }, { on := 11, ground := Ground.phase }, { on := 12, ground := Ground.phase }], guard := none }) (v := ?va15) rfl (by kernel_rfl) (by kernel_rfl) (by kernel_rfl) (fun _ _ _ h => h) (Or.inl ⟨by rfl, ?hy15⟩) ?_
              case hy15 => (intro w'; go_simp; try with_reducible rfl)
              try simp only [Act.put, List.setIfInBounds_toArray, List.set_cons_zero, List.set_cons_succ]
              refine wpAny_ready (rs := [15]) (by kernel_rfl) (by simp) ?_
              refine AllReady.cons (o := { dst := none, op := Op.store 88 (Operand.tmp 62) (Operand.tmp 60), type := 0, pos := "order.go:43", after := #[{ on := 14, ground := Ground.data }, { on := 12, ground := Ground.data }, { on := 12, ground := Ground.chain }, { on := 0, ground := Ground.phase }, { on := 1, ground := Ground.phase }, { on := 2, ground := Ground.phase }, { on := 3, ground := Ground.phase }, { on := 4, ground := Ground.phase }, { on := 5, ground := Ground.phase }, { on := 6, ground := Ground.phase }, { on := 7, ground := Ground.phase }, { on := 8, ground := Ground.phase }, { on := 9, ground := Ground.phase }, { on := 10, ground := Ground.phase }, { on := 11, ground := Ground.phase }, { on := 12, ground := Ground.phase }], guard := none }) rfl (fun K hK => ?_) AllReady.nil
              go_simp
              refine hK _ _ ?_
              clear hK K
              try simp only [Act.put, List.setIfInBounds_toArray, List.set_cons_zero, List.set_cons_succ]
              refine wpAny_done (by kernel_rfl) ?_ _
              go_wp2_with fail
              go_ret
              exact ⟨by rw [HO.out]; rfl, HFIN.out HN.out HR.out⟩
      · have HO : Hid (okS x t = false) := by show _ = _; simp [okS, hk, hb, rwB, hc, h1]
        rw [hc] at c1
        clear hb
        have t0 : (x.k != 0) = true := by simp [hk]
        have t1 : (x.k == 0) = false := by simp [hk]
        have t2 : (x.k == 1) = true := by simp [hk]
        have t3 : (x.k == 2) = false := by simp [hk]
        have t4 : (x.k == 3) = false := by simp [hk]
        have t5 : (x.k == 4) = false := by simp [hk]
        have t6 : (x.k == 5) = false := by simp [hk]
        have HR : Hid (rwB x = true) := by show _ = _; simp [rwB, hk]
        have HN : Hid (t = nxt k x t) := by show _ = _; simp [nxt, hk]
        clear hk
        go_enter Try.func46, Try.ntmps46
        go_wp2_with fail
        refine wp_region_any (by kernel_rfl) ?_
        try (change wpAny _ _ _ _ _ _ _ (World.drew _))
        refine wpAny_take (i := 0) (oi := { dst := some 48, op := Op.move (Operand.tmp 0), type := 96, pos := "order.go:43", after := #[], guard := none }) (v := ?va1) rfl (by kernel_rfl) (by kernel_rfl) (by kernel_rfl) (fun _ _ _ h => h) (Or.inl ⟨by rfl, ?hy1⟩) ?_
        case hy1 => (intro w'; go_simp; try with_reducible rfl)
        try simp only [Act.put, List.setIfInBounds_toArray, List.set_cons_zero, List.set_cons_succ]
        refine wpAny_take (i := 1) (oi := { dst := some 49, op := Op.move (Operand.tmp 0), type := 96, pos := "order.go:43", after := #[], guard := none }) (v := ?va2) rfl (by kernel_rfl) (by kernel_rfl) (by kernel_rfl) (fun _ _ _ h => h) (Or.inl ⟨by rfl, ?hy2⟩) ?_
        case hy2 => (intro w'; go_simp; try with_reducible rfl)
        try simp only [Act.put, List.setIfInBounds_toArray, List.set_cons_zero, List.set_cons_succ]
        refine wpAny_take (i := 2) (oi := { dst := some 50, op := Op.nilCheck (Operand.tmp 49), type := 0, pos := "order.go:43", after := #[{ on := 1, ground := Ground.data }], guard := none }) (v := ?va3) rfl (by kernel_rfl) (by kernel_rfl) (by kernel_rfl) (fun _ _ _ h => h) (Or.inl ⟨by rfl, ?hy3⟩) ?_
        case hy3 => (intro w'; go_simp; try with_reducible rfl)
        try simp only [Act.put, List.setIfInBounds_toArray, List.set_cons_zero, List.set_cons_succ]
        refine wpAny_take (i := 3) (oi := { dst := some 51, op := Op.fieldAddr 90 (Operand.tmp 50) 5, type := 0, pos := "order.go:43", after := #[{ on := 2, ground := Ground.data }], guard := none }) (v := ?va4) rfl (by kernel_rfl) (by kernel_rfl) (by kernel_rfl) (fun _ _ _ h => h) (Or.inl ⟨by rfl, ?hy4⟩) ?_
        case hy4 => (intro w'; go_simp; try with_reducible rfl)
        try simp only [Act.put, List.setIfInBounds_toArray, List.set_cons_zero, List.set_cons_succ]
        refine wpAny_take (i := 5) (oi := { dst := some 53, op := Op.fieldAddr 36 (Operand.tmp 5) 2, type := 0, pos := "order.go:43", after := #[], guard := none }) (v := ?va5) rfl (by kernel_rfl) (by kernel_rfl) (by kernel_rfl) (fun _ _ _ h => h) (Or.inl ⟨by rfl, ?hy5⟩) ?_
        case hy5 => (intro w'; go_simp; try with_reducible rfl)
        try simp only [Act.put, List.setIfInBounds_toArray, List.set_cons_zero, List.set_cons_succ]
        refine wpAny_take (i := 8) (oi := { dst := some 56, op := Op.move (Operand.tmp 1), type := 3, pos := "order.go:43", after := #[], guard := none }) (v := ?va6) rfl (by kernel_rfl) (by kernel_rfl) (by kernel_rfl) (fun _ _ _ h => h) (Or.inl ⟨by rfl, ?hy6⟩) ?_
        case hy6 => (intro w'; go_simp; try with_reducible rfl)
        try simp only [Act.put, List.setIfInBounds_toArray, List.set_cons_zero, List.set_cons_succ]
        refine wpAny_take (i := 9) (oi := { dst := some 57, op := Op.convert 3 98 (Operand.tmp 56), type := 98, pos := "order.go:43", after := #[{ on := 8, ground := Ground.data }], guard := none }) (v := ?va7) rfl (by kernel_rfl) (by kernel_rfl) (by kernel_rfl) (fun _ _ _ h => h) (Or.inl ⟨by rfl, ?hy7⟩) ?_
        case hy7 => (intro w'; go_simp; try with_reducible rfl)
        try simp only [Act.put, List.setIfInBounds_toArray, List.set_cons_zero, List.set_cons_succ]
        refine wpAny_ready (rs := [4, 6]) (by kernel_rfl) (by simp) ?_
        refine AllReady.cons (o := { dst := some 52, op := Op.load 88 (Operand.tmp 51), type := 88, pos := "order.go:43", after := #[{ on := 3, ground := Ground.data }], guard := none }) rfl (fun K hK => ?_) ?_
        · go_simp
          refine hK _ _ ?_
          clear hK K
          try simp only [Act.put, List.setIfInBounds_toArray, List.set_cons_zero, List.set_cons_succ]
          refine wpAny_ready (rs := [6]) (by kernel_rfl) (by simp) ?_
          refine AllReady.cons (o := { dst := some 54, op := Op.load 3 (Operand.tmp 53), type := 3, pos := "order.go:43", after := #[{ on := 5, ground := Ground.data }], guard := none }) rfl (fun K hK => ?_) AllReady.nil
          go_simp
          refine hK _ _ ?_
          clear hK K
          try simp only [Act.put, List.setIfInBounds_toArray, List.set_cons_zero, List.set_cons_succ]
          refine wpAny_take (i := 7) (oi := { dst := some 55, op := Op.convert 3 98 (Operand.tmp 54), type := 98, pos := "order.go:43", after := #[{ on := 6, ground := Ground.data }], guard := none }) (v := ?va8) rfl (by kernel_rfl) (by kernel_rfl) (by kernel_rfl) (fun _ _ _ h => h) (Or.inl ⟨by rfl, ?hy8⟩) ?_
          case hy8 => (intro w'; go_simp; try with_reducible rfl)
          try simp only [Act.put, List.setIfInBounds_toArray, List.set_cons_zero, List.set_cons_succ]
          refine wpAny_take (i := 10) (oi := { dst := some 58, op := Op.call { callee := Callee.builtin Builtin.complex, args := #[Operand.tmp 55, Operand.tmp 57], argTypes := #[98, 98] }, type := 97, pos := "order.go:43", after := #[{ on := 7, ground := Ground.data }, { on := 9, ground := Ground.data }], guard := none }) (v := ?va9) rfl (by kernel_rfl) (by kernel_rfl) (by kernel_rfl) (fun _ _ _ h => h) (Or.inl ⟨by rfl, ?hy9⟩) ?_
          case hy9 => (intro w'; go_simp; try with_reducible rfl)
          try simp only [Act.put, List.setIfInBounds_toArray, List.set_cons_zero, List.set_cons_succ]
          refine wpAny_ready (rs := [11]) (by kernel_rfl) (by simp) ?_
          refine AllReady.cons (o := { dst := some 59, op := Op.buildSlice 88 1 #[(0, Operand.tmp 58)], type := 88, pos := "order.go:43", after := #[{ on := 10, ground := Ground.data }], guard := none }) rfl (fun K hK => ?_) AllReady.nil
          go_simp
          refine hK _ _ ?_
          clear hK K
          try simp only [Act.put, List.setIfInBounds_toArray, List.set_cons_zero, List.set_cons_succ]
          refine wpAny_ready (rs := [12]) (by kernel_rfl) (by simp) ?_
          refine AllReady.cons (o := { dst := some 60, op := Op.call { callee := Callee.builtin Builtin.append, args := #[Operand.tmp 52, Operand.tmp 59], argTypes := #[88, 88] }, type := 88, pos := "order.go:43", after := #[{ on := 4, ground := Ground.data }, { on := 11, ground := Ground.data }], guard := none }) rfl (fun K hK => ?_) AllReady.nil
          refine step_append_rd rfl (.tmp 52) (.tmp 59) 88 rfl B 97 i0 (.complex .f64 0 0) 1 16 Try.underlying88 hi0 hz0 hz1 hz2 rfl (by decide) (.slice av xs.length cv) xs.length xs rfl HO2.out (some ⟨w.heap.size + 1, 0, none⟩) 1 1 [.complex .f64 (FloatKind.f64.nearest x.b) (FloatKind.f64.nearest k)] rfl HR2.out rfl HS2.out HM2.out HM3.out HM4.out ?_
          intro v4 w4 hown4 hgr4 hat4
          obtain ⟨a4, p4, rfl, _⟩ := own_slice hown4
          obtain ⟨c54, f54, l54⟩ := HC4.out w4 hgr4
          have HFIN := Lib.hid (HF4.out a4 p4 w4 hown4 hgr4 hat4)
          clear hown4 hgr4 hat4
          refine hK _ _ ?_
          clear hK K
          try simp only [Act.put, List.setIfInBounds_toArray, List.set_cons_zero, List.set_cons_succ]
          refine wpAny_take (i := 13) (oi := { dst := some 61, op := Op.nilCheck (Operand.tmp 48), type := 0, pos := "order.go:43", after := #[{ on := 0, ground := Ground.data }, { on := 0, ground := Ground.phase }, { on := 1, ground := Ground.phase }, { on := 2, ground := Ground.phase }, { on := 3, ground := Ground.phase }, { on := 4, ground := Ground.phase }, { on := 5, ground := Ground.phase }, { on := 6, ground := Ground.phase }, { on := 7, ground := Ground.phase }, { on := 8, ground := Ground.phase }, { on := 9, ground := Ground.phase }, { on := 10, ground := Ground.phase }, { on := 11, ground := Ground.phase }, { on := 12, ground := Ground.phase }], guard := none }) (v := ?va10) rfl (by kernel_rfl) (by kernel_rfl) (by kernel_rfl) (fun _ _ _ h => h) (Or.inl ⟨by rfl, ?hy10⟩) ?_
          case hy10 => (intro w'; go_simp; try with_reducible rfl)
          try simp only [Act.put, List.setIfInBounds_toArray, List.set_cons_zero, List.set_cons_succ]
          refine wpAny_take (i := 14) (oi := { dst := some 62, op := Op.fieldAddr 90 (Operand.tmp 61) 5, type := 0, pos := "order.go:43", after := #[{ on := 13, ground := Ground.data }, { on := 0, ground := Ground.phase }, { on := 1, ground := Ground.phase }, { on := 2, ground := Ground.phase }, { on := 3, ground := Ground.phase }, { on := 4, ground := Ground.phase }, { on := 5, ground := Ground.phase }, { on := 6, ground := Ground.phase }, { on := 7, ground := Ground.phase }, { on := 8, ground := Ground.phase }, { on := 9, ground := Ground.phase }, { on := 10, ground := Ground.phase }, { on := 11, ground := Ground.phase }, { on := 12, ground := Ground.phase }], guard := none }) (v := ?va11) rfl (by kernel_rfl) (by kernel_rfl) (by kernel_rfl) (fun _ _ _ h => h) (Or.inl ⟨by rfl, ?hy11⟩) ?_
          case hy11 => (intro w'; go_simp; try with_reducible rfl)
          try simp only [Act.put, List.setIfInBounds_toArray, List.set_cons_zero, List.set_cons_succ]
          refine wpAny_ready (rs := [15]) (by kernel_rfl) (by simp) ?_
          refine AllReady.cons (o := { dst := none, op := Op.store 88 (Operand.tmp 62) (Operand.tmp 60), type := 0, pos := "order.go:43", after := #[{ on := 14, ground := Ground.data }, { on := 12, ground := Ground.data }, { on := 12, ground := Ground.chain }, { on := 0, ground := Ground.phase }, { on := 1, ground := Ground.phase }, { on := 2, ground := Ground.phase }, { on := 3, ground := Ground.phase }, { on := 4, ground := Ground.phase }, { on := 5, ground := Ground.phase }, { on := 6, ground := Ground.phase }, { on := 7, ground := Ground.phase }, { on := 8, ground := Ground.phase }, { on := 9, ground := Ground.phase }, { on := 10, ground := Ground.phase }, { on := 11, ground := Ground.phase }, { on := 12, ground := Ground.phase }], guard := none }) rfl (fun K hK => ?_) AllReady.nil
          go_simp
          refine hK _ _ ?_
          clear hK K
          try simp only [Act.put, List.setIfInBounds_toArray, List.set_cons_zero, List.set_cons_succ]
          refine wpAny_done (by kernel_rfl) ?_ _
          go_wp2_with fail
          go_ret
          exact ⟨by rw [HO.out]; rfl, HFIN.out HN.out HR.out⟩
        · refine AllReady.cons (o := { dst := some 54, op := Op.load 3 (Operand.tmp 53), type := 3, pos := "order.go:43", after := #[{ on := 5, ground := Ground.data }], guard := none }) rfl (fun K hK => ?_) AllReady.nil
          go_simp
          refine hK _ _ ?_
          clear hK K
          try simp only [Act.put, List.setIfInBounds_toArray, List.set_cons_zero, List.set_cons_succ]
          refine wpAny_take (i := 7) (oi := { dst := some 55, op := Op.convert 3 98 (Operand.tmp 54), type := 98, pos := "order.go:43", after := #[{ on := 6, ground := Ground.data }], guard := none }) (v := ?va16) rfl (by kernel_rfl) (by kernel_rfl) (by kernel_rfl) (fun _ _ _ h => h) (Or.inl ⟨by rfl, ?hy16⟩) ?_
          case hy16 => (intro w'; go_simp; try with_reducible rfl)
          try simp only [Act.put, List.setIfInBounds_toArray, List.set_cons_zero, List.set_cons_succ]
          refine wpAny_take (i := 10) (oi := { dst := some 58, op := Op.call { callee := Callee.builtin Builtin.complex, args := #[Operand.tmp 55, Operand.tmp 57], argTypes := #[98, 98] }, type := 97, pos := "order.go:43", after := #[{ on := 7, ground := Ground.data }, { on := 9, ground := Ground.data }], guard := none }) (v := ?va17) rfl (by kernel_rfl) (by kernel_rfl) (by kernel_rfl) (fun _ _ _ h => h) (Or.inl ⟨by rfl, ?hy17⟩) ?_
          case hy17 => (intro w'; go_simp; try with_reducible rfl)
          try simp only [Act.put, List.setIfInBounds_toArray, List.set_cons_zero, List.set_cons_succ]
          refine wpAny_ready (rs := [4, 11]) (by kernel_rfl) (by simp) ?_
          refine AllReady.cons (o := { dst := some 52, op := Op.load 88 (Operand.tmp 51), type := 88, pos := "order.go:43", after := #[{ on := 3, ground := Ground.data }], guard := none }) rfl (fun K hK => ?_) ?_
          · go_simp
            refine hK _ _ ?_
            clear hK K
            try simp only [Act.put, List.setIfInBounds_toArray, List.set_cons_zero, List.set_cons_succ]
            refine wpAny_ready (rs := [11]) (by kernel_rfl) (by simp) ?_
            refine AllReady.cons (o := { dst := some 59, op := Op.buildSlice 88 1 #[(0, Operand.tmp 58)], type := 88, pos := "order.go:43", after := #[{ on := 10, ground := Ground.data }], guard := none }) rfl (fun K hK => ?_) AllReady.nil
            go_simp
            refine hK _ _ ?_
            clear hK K
            try simp only [Act.put, List.setIfInBounds_toArray, List.set_cons_zero, List.set_cons_succ]
            refine wpAny_ready (rs := [12]) (by kernel_rfl) (by simp) ?_
            refine AllReady.cons (o := { dst := some 60, op := Op.call { callee := Callee.builtin Builtin.append, args := #[Operand.tmp 52, Operand.tmp 59], argTypes := #[88, 88] }, type := 88, pos := "order.go:43", after := #[{ on := 4, ground := Ground.data }, { on := 11, ground := Ground.data }], guard := none }) rfl (fun K hK => ?_) AllReady.nil
            refine step_append_rd rfl (.tmp 52) (.tmp 59) 88 rfl B 97 i0 (.complex .f64 0 0) 1 16 Try.underlying88 hi0 hz0 hz1 hz2 rfl (by decide) (.slice av xs.length cv) xs.length xs rfl HO2.out (some ⟨w.heap.size + 1, 0, none⟩) 1 1 [.complex .f64 (FloatKind.f64.nearest x.b) (FloatKind.f64.nearest k)] rfl HR2.out rfl HS2.out HM2.out HM3.out HM4.out ?_
            intro v4 w4 hown4 hgr4 hat4
            obtain ⟨a4, p4, rfl, _⟩ := own_slice hown4
            obtain ⟨c54, f54, l54⟩ := HC4.out w4 hgr4
            have HFIN := Lib.hid (HF4.out a4 p4 w4 hown4 hgr4 hat4)
            clear hown4 hgr4 hat4
            refine hK _ _ ?_
            clear hK K
            try simp only [Act.put, List.setIfInBounds_toArray, List.set_cons_zero, List.set_cons_succ]
            refine wpAny_take (i := 13) (oi := { dst := some 61, op := Op.nilCheck (Operand.tmp 48), type := 0, pos := "order.go:43", after := #[{ on := 0, ground := Ground.data }, { on := 0, ground := Ground.phase }, { on := 1, ground := Ground.phase }, { on := 2, ground := Ground.phase }, { on := 3, ground := Ground.phase }, { on := 4, ground := Ground.phase }, { on := 5, ground := Ground.phase }, { on := 6, ground := Ground.phase }, { on := 7, ground := Ground.phase }, { on := 8, ground := Ground.phase }, { on := 9, ground := Ground.phase }, { on := 10, ground := Ground.phase }, { on := 11, ground := Ground.phase }, { on := 12, ground := Ground.phase }], guard := none }) (v := ?va12) rfl (by kernel_rfl) (by kernel_rfl) (by kernel_rfl) (fun _ _ _ h => h) (Or.inl ⟨by rfl, ?hy12⟩) ?_
            case hy12 => (intro w'; go_simp; try with_reducible rfl)
            try simp only [Act.put, List.setIfInBounds_toArray, List.set_cons_zero, List.set_cons_succ]
            refine wpAny_take (i := 14) (oi := { dst := some 62, op := Op.fieldAddr 90 (Operand.tmp 61) 5, type := 0, pos := "order.go:43", after := #[{ on := 13, ground := Ground.data }, { on := 0, ground := Ground.phase }, { on := 1, ground := Ground.phase }, { on := 2, ground := Ground.phase }, { on := 3, ground := Ground.phase }, { on := 4, ground := Ground.phase }, { on := 5, ground := Ground.phase }, { on := 6, ground := Ground.phase }, { on := 7, ground := Ground.phase }, { on := 8, ground := Ground.phase }, { on := 9, ground := Ground.phase }, { on := 10, ground := Ground.phase }, { on := 11, ground := Ground.phase }, { on := 12, ground := Ground.phase }], guard := none }) (v := ?va13) rfl (by kernel_rfl) (by kernel_rfl) (by kernel_rfl) (fun _ _ _ h => h) (Or.inl ⟨by rfl, ?hy13⟩) ?_
            case hy13 => (intro w'; go_simp; try with_reducible rfl)
            try simp only [Act.put, List.setIfInBounds_toArray, List.set_cons_zero, List.set_cons_succ]
            refine wpAny_ready (rs := [15]) (by kernel_rfl) (by simp) ?_
            refine AllReady.cons (o := { dst := none, op := Op.store 88 (Operand.tmp 62) (Operand.tmp 60), type := 0, pos := "order.go:43", after := #[{ on := 14, ground := Ground.data }, { on := 12, ground := Ground.data }, { on := 12, ground := Ground.chain }, { on := 0, ground := Ground.phase }, { on := 1, ground := Ground.phase }, { on := 2, ground := Ground.phase }, { on := 3, ground := Ground.phase }, { on := 4, ground := Ground.phase }, { on := 5, ground := Ground.phase }, { on := 6, ground := Ground.phase }, { on := 7, ground := Ground.phase }, { on := 8, ground := Ground.phase }, { on := 9, ground := Ground.phase }, { on := 10, ground := Ground.phase }, { on := 11, ground := Ground.phase }, { on := 12, ground := Ground.phase }], guard := none }) rfl (fun K hK => ?_) AllReady.nil
            go_simp
            refine hK _ _ ?_
            clear hK K
            try simp only [Act.put, List.setIfInBounds_toArray, List.set_cons_zero, List.set_cons_succ]
            refine wpAny_done (by kernel_rfl) ?_ _
            go_wp2_with fail
            go_ret
            exact ⟨by rw [HO.out]; rfl, HFIN.out HN.out HR.out⟩
          · refine AllReady.cons (o := { dst := some 59, op := Op.buildSlice 88 1 #[(0, Operand.tmp 58)], type := 88, pos := "order.go:43", after := #[{ on := 10, ground := Ground.data }], guard := none }) rfl (fun K hK => ?_) AllReady.nil
            go_simp
            refine hK _ _ ?_
            clear hK K
            try simp only [Act.put, List.setIfInBounds_toArray, List.set_cons_zero, List.set_cons_succ]
            refine wpAny_ready (rs := [4]) (by kernel_rfl) (by simp) ?_
            refine AllReady.cons (o := { dst := some 52, op := Op.load 88 (Operand.tmp 51), type := 88, pos := "order.go:43", after := #[{ on := 3, ground := Ground.data }], guard := none }) rfl (fun K hK => ?_) AllReady.nil
            go_simp
            refine hK _ _ ?_
            clear hK K
            try simp only [Act.put, List.setIfInBounds_toArray, List.set_cons_zero, List.set_cons_succ]
            refine wpAny_ready (rs := [12]) (by kernel_rfl) (by simp) ?_
            refine AllReady.cons (o := { dst := some 60, op := Op.call { callee := Callee.builtin Builtin.append, args := #[Operand.tmp 52, Operand.tmp 59], argTypes := #[88, 88] }, type := 88, pos := "order.go:43", after := #[{ on := 4, ground := Ground.data }, { on := 11, ground := Ground.data }], guard := none }) rfl (fun K hK => ?_) AllReady.nil
            refine step_append_rd rfl (.tmp 52) (.tmp 59) 88 rfl B 97 i0 (.complex .f64 0 0) 1 16 Try.underlying88 hi0 hz0 hz1 hz2 rfl (by decide) (.slice av xs.length cv) xs.length xs rfl HO2.out (some ⟨w.heap.size + 1, 0, none⟩) 1 1 [.complex .f64 (FloatKind.f64.nearest x.b) (FloatKind.f64.nearest k)] rfl HR2.out rfl HS2.out HM2.out HM3.out HM4.out ?_
            intro v4 w4 hown4 hgr4 hat4
            obtain ⟨a4, p4, rfl, _⟩ := own_slice hown4
            obtain ⟨c54, f54, l54⟩ := HC4.out w4 hgr4
            have HFIN := Lib.hid (HF4.out a4 p4 w4 hown4 hgr4 hat4)
            clear hown4 hgr4 hat4
            refine hK _ _ ?_
            clear hK K
            try simp only [Act.put, List.setIfInBounds_toArray, List.set_cons_zero, List.set_cons_succ]
            refine wpAny_take (i := 13) (oi := { dst := some 61, op := Op.nilCheck (Operand.tmp 48), type := 0, pos := "order.go:43", after := #[{ on := 0, ground := Ground.data }, { on := 0, ground := Ground.phase }, { on := 1, ground := Ground.phase }, { on := 2, ground := Ground.phase }, { on := 3, ground := Ground.phase }, { on := 4, ground := Ground.phase }, { on := 5, ground := Ground.phase }, { on := 6, ground := Ground.phase }, { on := 7, ground := Ground.phase }, { on := 8, ground := Ground.phase }, { on := 9, ground := Ground.phase }, { on := 10, ground := Ground.phase }, { on := 11, ground := Ground.phase }, { on := 12, ground := Ground.phase }], guard := none }) (v := ?va14) rfl (by kernel_rfl) (by kernel_rfl) (by kernel_rfl) (fun _ _ _ h => h) (Or.inl ⟨by rfl, ?hy14⟩) ?_
            case hy14 => (intro w'; go_simp; try with_reducible rfl)
            try simp only [Act.put, List.setIfInBounds_toArray, List.set_cons_zero, List.set_cons_succ]
            refine wpAny_take (i := 14) (oi := { dst := some 62, op := Op.fieldAddr 90 (Operand.tmp 61) 5, type := 0, pos := "order.go:43", after := #[{ on := 13, ground := Ground.data }, { on := 0, ground := Ground.phase }, { on := 1, ground := Ground.phase }, { on := 2, ground := Ground.phase }, { on := 3, ground := Ground.phase }, { on := 4, ground := Ground.phase }, { on := 5, ground := Ground.phase }, { on := 6, ground := Ground.phase }, { on := 7, ground := Ground.phase }, { on := 8, ground := Ground.phase }, { on := 9, ground := Ground.phase }, { on := 10, ground := Ground.phase }, { on := 11, ground := Ground.phase }, { on := 12, ground := Ground.phase }], guard := none }) (v := ?va15) rfl (by kernel_rfl) (by kernel_rfl) (by kernel_rfl) (fun _ _ _ h => h) (Or.inl ⟨by rfl, ?hy15⟩) ?_
            case hy15 => (intro w'; go_simp; try with_reducible rfl)
            try simp only [Act.put, List.setIfInBounds_toArray, List.set_cons_zero, List.set_cons_succ]
            refine wpAny_ready (rs := [15]) (by kernel_rfl) (by simp) ?_
            refine AllReady.cons (o := { dst := none, op := Op.store 88 (Operand.tmp 62) (Operand.tmp 60), type := 0, pos := "order.go:43", after := #[{ on := 14, ground := Ground.data }, { on := 12, ground := Ground.data }, { on := 12, ground := Ground.chain }, { on := 0, ground := Ground.phase }, { on := 1, ground := Ground.phase }, { on := 2, ground := Ground.phase }, { on := 3, ground := Ground.phase }, { on := 4, ground := Ground.phase }, { on := 5, ground := Ground.phase }, { on := 6, ground := Ground.phase }, { on := 7, ground := Ground.phase }, { on := 8, ground := Ground.phase }, { on := 9, ground := Ground.phase }, { on := 10, ground := Ground.phase }, { on := 11, ground := Ground.phase }, { on := 12, ground := Ground.phase }], guard := none }) rfl (fun K hK => ?_) AllReady.nil
            go_simp
            refine hK _ _ ?_
            clear hK K
            try simp only [Act.put, List.setIfInBounds_toArray, List.set_cons_zero, List.set_cons_succ]
            refine wpAny_done (by kernel_rfl) ?_ _
            go_wp2_with fail
            go_ret
            exact ⟨by rw [HO.out]; rfl, HFIN.out HN.out HR.out⟩
    · have HO : Hid (okS x t = false) := by show _ = _; simp [okS, hk, hb, rwB, hc]
      rw [hc] at c1
      clear hb
      have t0 : (x.k != 0) = true := by simp [hk]
      have t1 : (x.k == 0) = false := by simp [hk]
      have t2 : (x.k == 1) = true := by simp [hk]
      have t3 : (x.k == 2) = false := by simp [hk]
      have t4 : (x.k == 3) = false := by simp [hk]
      have t5 : (x.k == 4) = false := by simp [hk]
      have t6 : (x.k == 5) = false := by simp [hk]
      have HR : Hid (rwB x = true) := by show _ = _; simp [rwB, hk]
      have HN : Hid (t = nxt k x t) := by show _ = _; simp [nxt, hk]
      clear hk
      go_enter Try.func46, Try.ntmps46
      go_wp2_with fail
      refine wp_region_any (by kernel_rfl) ?_
      try (change wpAny _ _ _ _ _ _ _ (World.drew _))
      refine wpAny_take (i := 0) (oi := { dst := some 48, op := Op.move (Operand.tmp 0), type := 96, pos := "order.go:43", after := #[], guard := none }) (v := ?va1) rfl (by kernel_rfl) (by kernel_rfl) (by kernel_rfl) (fun _ _ _ h => h) (Or.inl ⟨by rfl, ?hy1⟩) ?_
      case hy1 => (intro w'; go_simp; try with_reducible rfl)
      try simp only [Act.put, List.setIfInBounds_toArray, List.set_cons_zero, List.set_cons_succ]
      refine wpAny_take (i := 1) (oi := { dst := some 49, op := Op.move (Operand.tmp 0), type := 96, pos := "order.go:43", after := #[], guard := none }) (v := ?va2) rfl (by kernel_rfl) (by kernel_rfl) (by kernel_rfl) (fun _ _ _ h => h) (Or.inl ⟨by rfl, ?hy2⟩) ?_
      case hy2 => (intro w'; go_simp; try with_reducible rfl)
      try simp only [Act.put, List.setIfInBounds_toArray, List.set_cons_zero, List.set_cons_succ]
      refine wpAny_take (i := 2) (oi := { dst := some 50, op := Op.nilCheck (Operand.tmp 49), type := 0, pos := "order.go:43", after := #[{ on := 1, ground := Ground.data }], guard := none }) (v := ?va3) rfl (by kernel_rfl) (by kernel_rfl) (by kernel_rfl) (fun _ _ _ h => h) (Or.inl ⟨by rfl, ?hy3⟩) ?_
      case hy3 => (intro w'; go_simp; try with_reducible rfl)
      try simp only [Act.put, List.setIfInBounds_toArray, List.set_cons_zero, List.set_cons_succ]
      refine wpAny_take (i := 3) (oi := { dst := some 51, op := Op.fieldAddr 90 (Operand.tmp 50) 5, type := 0, pos := "order.go:43", after := #[{ on := 2, ground := Ground.data }], guard := none }) (v := ?va4) rfl (by kernel_rfl) (by kernel_rfl) (by kernel_rfl) (fun _ _ _ h => h) (Or.inl ⟨by rfl, ?hy4⟩) ?_
      case hy4 => (intro w'; go_simp; try with_reducible rfl)
      try simp only [Act.put, List.setIfInBounds_toArray, List.set_cons_zero, List.set_cons_succ]
      refine wpAny_take (i := 5) (oi := { dst := some 53, op := Op.fieldAddr 36 (Operand.tmp 5) 2, type := 0, pos := "order.go:43", after := #[], guard := none }) (v := ?va5) rfl (by kernel_rfl) (by kernel_rfl) (by kernel_rfl) (fun _ _ _ h => h) (Or.inl ⟨by rfl, ?hy5⟩) ?_
      case hy5 => (intro w'; go_simp; try with_reducible rfl)
      try simp only [Act.put, List.setIfInBounds_toArray, List.set_cons_zero, List.set_cons_succ]
      refine wpAny_take (i := 8) (oi := { dst := some 56, op := Op.move (Operand.tmp 1), type := 3, pos := "order.go:43", after := #[], guard := none }) (v := ?va6) rfl (by kernel_rfl) (by kernel_rfl) (by kernel_rfl) (fun _ _ _ h => h) (Or.inl ⟨by rfl, ?hy6⟩) ?_
      case hy6 => (intro w'; go_simp; try with_reducible rfl)
      try simp only [Act.put, List.setIfInBounds_toArray, List.set_cons_zero, List.set_cons_succ]
      refine wpAny_take (i := 9) (oi := { dst := some 57, op := Op.convert 3 98 (Operand.tmp 56), type := 98, pos := "order.go:43", after := #[{ on := 8, ground := Ground.data }], guard := none }) (v := ?va7) rfl (by kernel_rfl) (by kernel_rfl) (by kernel_rfl) (fun _ _ _ h => h) (Or.inl ⟨by rfl, ?hy7⟩) ?_
      case hy7 => (intro w'; go_simp; try with_reducible rfl)
      try simp only [Act.put, List.setIfInBounds_toArray, List.set_cons_zero, List.set_cons_succ]
      refine wpAny_ready (rs := [4, 6]) (by kernel_rfl) (by simp) ?_
      refine AllReady.cons (o := { dst := some 52, op := Op.load 88 (Operand.tmp 51), type := 88, pos := "order.go:43", after := #[{ on := 3, ground := Ground.data }], guard := none }) rfl (fun K hK => ?_) ?_
      · go_simp
        refine hK _ _ ?_
        clear hK K
        try simp only [Act.put, List.setIfInBounds_toArray, List.set_cons_zero, List.set_cons_succ]
        refine wpAny_ready (rs := [6]) (by kernel_rfl) (by simp) ?_
        refine AllReady.cons (o := { dst := some 54, op := Op.load 3 (Operand.tmp 53), type := 3, pos := "order.go:43", after := #[{ on := 5, ground := Ground.data }], guard := none }) rfl (fun K hK => ?_) AllReady.nil
        go_simp
        refine hK _ _ ?_
        clear hK K
        try simp only [Act.put, List.setIfInBounds_toArray, List.set_cons_zero, List.set_cons_succ]
        refine wpAny_take (i := 7) (oi := { dst := some 55, op := Op.convert 3 98 (Operand.tmp 54), type := 98, pos := "order.go:43", after := #[{ on := 6, ground := Ground.data }], guard := none }) (v := ?va8) rfl (by kernel_rfl) (by kernel_rfl) (by kernel_rfl) (fun _ _ _ h => h) (Or.inl ⟨by rfl, ?hy8⟩) ?_
        case hy8 => (intro w'; go_simp; try with_reducible rfl)
        try simp only [Act.put, List.setIfInBounds_toArray, List.set_cons_zero, List.set_cons_succ]
        refine wpAny_take (i := 10) (oi := { dst := some 58, op := Op.call { callee := Callee.builtin Builtin.complex, args := #[Operand.tmp 55, Operand.tmp 57], argTypes := #[98, 98] }, type := 97, pos := "order.go:43", after := #[{ on := 7, ground := Ground.data }, { on := 9, ground := Ground.data }], guard := none }) (v := ?va9) rfl (by kernel_rfl) (by kernel_rfl) (by kernel_rfl) (fun _ _ _ h => h) (Or.inl ⟨by rfl, ?hy9⟩) ?_
        case hy9 => (intro w'; go_simp; try with_reducible rfl)
        try simp only [Act.put, List.setIfInBounds_toArray, List.set_cons_zero, List.set_cons_succ]
        refine wpAny_ready (rs := [11]) (by kernel_rfl) (by simp) ?_
        refine AllReady.cons (o := { dst := some 59, op := Op.buildSlice 88 1 #[(0, Operand.tmp 58)], type := 88, pos := "order.go:43", after := #[{ on := 10, ground := Ground.data }], guard := none }) rfl (fun K hK => ?_) AllReady.nil
        go_simp
        refine hK _ _ ?_
        clear hK K
        try simp only [Act.put, List.setIfInBounds_toArray, List.set_cons_zero, List.set_cons_succ]
        refine wpAny_ready (rs := [12]) (by kernel_rfl) (by simp) ?_
        refine AllReady.cons (o := { dst := some 60, op := Op.call { callee := Callee.builtin Builtin.append, args := #[Operand.tmp 52, Operand.tmp 59], argTypes := #[88, 88] }, type := 88, pos := "order.go:43", after := #[{ on := 4, ground := Ground.data }, { on := 11, ground := Ground.data }], guard := none }) rfl (fun K hK => ?_) AllReady.nil
        refine step_append_rd rfl (.tmp 52) (.tmp 59) 88 rfl B 97 i0 (.complex .f64 0 0) 1 16 Try.underlying88 hi0 hz0 hz1 hz2 rfl (by decide) (.slice av xs.length cv) xs.length xs rfl HO2.out (some ⟨w.heap.size + 1, 0, none⟩) 1 1 [.complex .f64 (FloatKind.f64.nearest x.b) (FloatKind.f64.nearest k)] rfl HR2.out rfl HS2.out HM2.out HM3.out HM4.out ?_
        intro v4 w4 hown4 hgr4 hat4
        obtain ⟨a4, p4, rfl, _⟩ := own_slice hown4
        obtain ⟨c54, f54, l54⟩ := HC4.out w4 hgr4
        have HFIN := Lib.hid (HF4.out a4 p4 w4 hown4 hgr4 hat4)
        clear hown4 hgr4 hat4
        refine hK _ _ ?_
        clear hK K
        try simp only [Act.put, List.setIfInBounds_toArray, List.set_cons_zero, List.set_cons_succ]
        refine wpAny_take (i := 13) (oi := { dst := some 61, op := Op.nilCheck (Operand.tmp 48), type := 0, pos := "order.go:43", after := #[{ on := 0, ground := Ground.data }, { on := 0, ground := Ground.phase }, { on := 1, ground := Ground.phase }, { on := 2, ground := Ground.phase }, { on := 3, ground := Ground.phase }, { on := 4, ground := Ground.phase }, { on := 5, ground := Ground.phase }, { on := 6, ground := Ground.phase }, { on := 7, ground := Ground.phase }, { on := 8, ground := Ground.phase }, { on := 9, ground := Ground.phase }, { on := 10, ground := Ground.phase }, { on := 11, ground := Ground.phase }, { on := 12, ground := Ground.phase }], guard := none }) (v := ?va10) rfl (by kernel_rfl) (by kernel_rfl) (by kernel_rfl) (fun _ _ _ h => h) (Or.inl ⟨by rfl, ?hy10⟩) ?_
        case hy10 => (intro w'; go_simp; try with_reducible rfl)
        try simp only [Act.put, List.setIfInBounds_toArray, List.set_cons_zero, List.set_cons_succ]
        refine wpAny_take (i := 14) (oi := { dst := some 62, op := Op.fieldAddr 90 (Operand.tmp 61) 5, type := 0, pos := "order.go:43", after := #[{ on := 13, ground := Ground.data }, { on := 0, ground := Ground.phase }, { on := 1, ground := Ground.phase }, { on := 2, ground := Ground.phase }, { on := 3, ground := Ground.phase }, { on := 4, ground := Ground.phase }, { on := 5, ground := Ground.phase }, { on := 6, ground := Ground.phase }, { on := 7, ground := Ground.phase }, { on := 8, ground := Ground.phase }, { on := 9, ground := Ground.phase }, { on := 10, ground := Ground.phase }, { on := 11, ground := Ground.phase }, { on := 12, ground := Ground.phase }], guard := none }) (v := ?va11) rfl (by kernel_rfl) (by kernel_rfl) (by kernel_rfl) (fun _ _ _ h => h) (Or.inl ⟨by rfl, ?hy11⟩) ?_
        case hy11 => (intro w'; go_simp; try with_reducible rfl)
        try simp only [Act.put, List.setIfInBounds_toArray, List.set_cons_zero, List.set_cons_succ]
        refine wpAny_ready (rs := [15]) (by kernel_rfl) (by simp) ?_
        refine AllReady.cons (o := { dst := none, op := Op.store 88 (Operand.tmp 62) (Operand.tmp 60), type := 0, pos := "order.go:43", after := #[{ on := 14, ground := Ground.data }, { on := 12, ground := Ground.data }, { on := 12, ground := Ground.chain }, { on := 0, ground := Ground.phase }, { on := 1, ground := Ground.phase }, { on := 2, ground := Ground.phase }, { on := 3, ground := Ground.phase }, { on := 4, ground := Ground.phase }, { on := 5, ground := Ground.phase }, { on := 6, ground := Ground.phase }, { on := 7, ground := Ground.phase }, { on := 8, ground := Ground.phase }, { on := 9, ground := Ground.phase }, { on := 10, ground := Ground.phase }, { on := 11, ground := Ground.phase }, { on := 12, ground := Ground.phase }], guard := none }) rfl (fun K hK => ?_) AllReady.nil
        go_simp
        refine hK _ _ ?_
        clear hK K
        try simp only [Act.put, List.setIfInBounds_toArray, List.set_cons_zero, List.set_cons_succ]
        refine wpAny_done (by kernel_rfl) ?_ _
        go_wp2_with fail
        go_ret
        exact ⟨by rw [HO.out]; rfl, HFIN.out HN.out HR.out⟩
      · refine AllReady.cons (o := { dst := some 54, op := Op.load 3 (Operand.tmp 53), type := 3, pos := "order.go:43", after := #[{ on := 5, ground := Ground.data }], guard := none }) rfl (fun K hK => ?_) AllReady.nil
        go_simp
        refine hK _ _ ?_
        clear hK K
        try simp only [Act.put, List.setIfInBounds_toArray, List.set_cons_zero, List.set_cons_succ]
        refine wpAny_take (i := 7) (oi := { dst := some 55, op := Op.convert 3 98 (Operand.tmp 54), type := 98, pos := "order.go:43", after := #[{ on := 6, ground := Ground.data }], guard := none }) (v := ?va16) rfl (by kernel_rfl) (by kernel_rfl) (by kernel_rfl) (fun _ _ _ h => h) (Or.inl ⟨by rfl, ?hy16⟩) ?_
        case hy16 => (intro w'; go_simp; try with_reducible rfl)
        try simp only [Act.put, List.setIfInBounds_toArray, List.set_cons_zero, List.set_cons_succ]
        refine wpAny_take (i := 10) (oi := { dst := some 58, op := Op.call { callee := Callee.builtin Builtin.complex, args := #[Operand.tmp 55, Operand.tmp 57], argTypes := #[98, 98] }, type := 97, pos := "order.go:43", after := #[{ on := 7, ground := Ground.data }, { on := 9, ground := Ground.data }], guard := none }) (v := ?va17) rfl (by kernel_rfl) (by kernel_rfl) (by kernel_rfl) (fun _ _ _ h => h) (Or.inl ⟨by rfl, ?hy17⟩) ?_
        case hy17 => (intro w'; go_simp; try with_reducible rfl)
        try simp only [Act.put, List.setIfInBounds_toArray, List.set_cons_zero, List.set_cons_succ]
        refine wpAny_ready (rs := [4, 11]) (by kernel_rfl) (by simp) ?_
        refine AllReady.cons (o := { dst := some 52, op := Op.load 88 (Operand.tmp 51), type := 88, pos := "order.go:43", after := #[{ on := 3, ground := Ground.data }], guard := none }) rfl (fun K hK => ?_) ?_
        · go_simp
          refine hK _ _ ?_
          clear hK K
          try simp only [Act.put, List.setIfInBounds_toArray, List.set_cons_zero, List.set_cons_succ]
          refine wpAny_ready (rs := [11]) (by kernel_rfl) (by simp) ?_
          refine AllReady.cons (o := { dst := some 59, op := Op.buildSlice 88 1 #[(0, Operand.tmp 58)], type := 88, pos := "order.go:43", after := #[{ on := 10, ground := Ground.data }], guard := none }) rfl (fun K hK => ?_) AllReady.nil
          go_simp
          refine hK _ _ ?_
          clear hK K
          try simp only [Act.put, List.setIfInBounds_toArray, List.set_cons_zero, List.set_cons_succ]
          refine wpAny_ready (rs := [12]) (by kernel_rfl) (by simp) ?_
          refine AllReady.cons (o := { dst := some 60, op := Op.call { callee := Callee.builtin Builtin.append, args := #[Operand.tmp 52, Operand.tmp 59], argTypes := #[88, 88] }, type := 88, pos := "order.go:43", after := #[{ on := 4, ground := Ground.data }, { on := 11, ground := Ground.data }], guard := none }) rfl (fun K hK => ?_) AllReady.nil
          refine step_append_rd rfl (.tmp 52) (.tmp 59) 88 rfl B 97 i0 (.complex .f64 0 0) 1 16 Try.underlying88 hi0 hz0 hz1 hz2 rfl (by decide) (.slice av xs.length cv) xs.length xs rfl HO2.out (some ⟨w.heap.size + 1, 0, none⟩) 1 1 [.complex .f64 (FloatKind.f64.nearest x.b) (FloatKind.f64.nearest k)] rfl HR2.out rfl HS2.out HM2.out HM3.out HM4.out ?_
          intro v4 w4 hown4 hgr4 hat4
          obtain ⟨a4, p4, rfl, _⟩ := own_slice hown4
          obtain ⟨c54, f54, l54⟩ := HC4.out w4 hgr4
          have HFIN := Lib.hid (HF4.out a4 p4 w4 hown4 hgr4 hat4)
          clear hown4 hgr4 hat4
          refine hK _ _ ?_
          clear hK K
          try simp only [Act.put, List.setIfInBounds_toArray, List.set_cons_zero, List.set_cons_succ]
          refine wpAny_take (i := 13) (oi := { dst := some 61, op := Op.nilCheck (Operand.tmp 48), type := 0, pos := "order.go:43", after := #[{ on := 0, ground := Ground.data }, { on := 0, ground := Ground.phase }, { on := 1, ground := Ground.phase }, { on := 2, ground := Ground.phase }, { on := 3, ground := Ground.phase }, { on := 4, ground := Ground.phase }, { on := 5, ground := Ground.phase }, { on := 6, ground := Ground.phase }, { on := 7, ground := Ground.phase }, { on := 8, ground := Ground.phase }, { on := 9, ground := Ground.phase }, { on := 10, ground := Ground.phase }, { on := 11, ground := Ground.phase }, { on := 12, ground := Ground.phase }], guard := none }) (v := ?va12) rfl (by kernel_rfl) (by kernel_rfl) (by kernel_rfl) (fun _ _ _ h => h) (Or.inl ⟨by rfl, ?hy12⟩) ?_
          case hy12 => (intro w'; go_simp; try with_reducible rfl)
          try simp only [Act.put, List.setIfInBounds_toArray, List.set_cons_zero, List.set_cons_succ]
          refine wpAny_take (i := 14) (oi := { dst := some 62, op := Op.fieldAddr 90 (Operand.tmp 61) 5, type := 0, pos := "order.go:43", after := #[{ on := 13, ground := Ground.data }, { on := 0, ground := Ground.phase }, { on := 1, ground := Ground.phase }, { on := 2, ground := Ground.phase }, { on := 3, ground := Ground.phase }, { on := 4, ground := Ground.phase }, { on := 5, ground := Ground.phase }, { on := 6, ground := Ground.phase }, { on := 7, ground := Ground.phase }, { on := 8, ground := Ground.phase }, { on := 9, ground := Ground.phase }, { on := 10, ground := Ground.phase }, { on := 11, ground := Ground.phase }, { on := 12, ground := Ground.phase }], guard := none }) (v := ?va13) rfl (by kernel_rfl) (by kernel_rfl) (by kernel_rfl) (fun _ _ _ h => h) (Or.inl ⟨by rfl, ?hy13⟩) ?_
          case hy13 => (intro w'; go_simp; try with_reducible rfl)
          try simp only [Act.put, List.setIfInBounds_toArray, List.set_cons_zero, List.set_cons_succ]
          refine wpAny_ready (rs := [15]) (by kernel_rfl) (by simp) ?_
          refine AllReady.cons (o := { dst := none, op := Op.store 88 (Operand.tmp 62) (Operand.tmp 60), type := 0, pos := "order.go:43", after := #[{ on := 14, ground := Ground.data }, { on := 12, ground := Ground.data }, { on := 12, ground := Ground.chain }, { on := 0, ground := Ground.phase }, { on := 1, ground := Ground.phase }, { on := 2, ground := Ground.phase }, { on := 3, ground := Ground.phase }, { on := 4, ground := Ground.phase }, { on := 5, ground := Ground.phase }, { on := 6, ground := Ground.phase }, { on := 7, ground := Ground.phase }, { on := 8, ground := Ground.phase }, { on := 9, ground := Ground.phase }, { on := 10, ground := Ground.phase }, { on := 11, ground := Ground.phase }, { on := 12, ground := Ground.phase }], guard := none }) rfl (fun K hK => ?_) AllReady.nil
          go_simp
          refine hK _ _ ?_
          clear hK K
          try simp only [Act.put, List.setIfInBounds_toArray, List.set_cons_zero, List.set_cons_succ]
          refine wpAny_done (by kernel_rfl) ?_ _
          go_wp2_with fail
          go_ret
          exact ⟨by rw [HO.out]; rfl, HFIN.out HN.out HR.out⟩
        · refine AllReady.cons (o := { dst := some 59, op := Op.buildSlice 88 1 #[(0, Operand.tmp 58)], type := 88, pos := "order.go:43", after := #[{ on := 10, ground := Ground.data }], guard := none }) rfl (fun K hK => ?_) AllReady.nil
          go_simp
          refine hK _ _ ?_
          clear hK K
          try simp only [Act.put, List.setIfInBounds_toArray, List.set_cons_zero, List.set_cons_succ]
          refine wpAny_ready (rs := [4]) (by kernel_rfl) (by simp) ?_
          refine AllReady.cons (o := { dst := some 52, op := Op.load 88 (Operand.tmp 51), type := 88, pos := "order.go:43", after := #[{ on := 3, ground := Ground.data }], guard := none }) rfl (fun K hK => ?_) AllReady.nil
          go_simp
          refine hK _ _ ?_
          clear hK K
          try simp only [Act.put, List.setIfInBounds_toArray, List.set_cons_zero, List.set_cons_succ]
          refine wpAny_ready (rs := [12]) (by kernel_rfl) (by simp) ?_
          refine AllReady.cons (o := { dst := some 60, op := Op.call { callee := Callee.builtin Builtin.append, args := #[Operand.tmp 52, Operand.tmp 59], argTypes := #[88, 88] }, type := 88, pos := "order.go:43", after := #[{ on := 4, ground := Ground.data }, { on := 11, ground := Ground.data }], guard := none }) rfl (fun K hK => ?_) AllReady.nil
          refine step_append_rd rfl (.tmp 52) (.tmp 59) 88 rfl B 97 i0 (.complex .f64 0 0) 1 16 Try.underlying88 hi0 hz0 hz1 hz2 rfl (by decide) (.slice av xs.length cv) xs.length xs rfl HO2.out (some ⟨w.heap.size + 1, 0, none⟩) 1 1 [.complex .f64 (FloatKind.f64.nearest x.b) (FloatKind.f64.nearest k)] rfl HR2.out rfl HS2.out HM2.out HM3.out HM4.out ?_
          intro v4 w4 hown4 hgr4 hat4
          obtain ⟨a4, p4, rfl, _⟩ := own_slice hown4
          obtain ⟨c54, f54, l54⟩ := HC4.out w4 hgr4
          have HFIN := Lib.hid (HF4.out a4 p4 w4 hown4 hgr4 hat4)
          clear hown4 hgr4 hat4
          refine hK _ _ ?_
          clear hK K
          try simp only [Act.put, List.setIfInBounds_toArray, List.set_cons_zero, List.set_cons_succ]
          refine wpAny_take (i := 13) (oi := { dst := some 61, op := Op.nilCheck (Operand.tmp 48), type := 0, pos := "order.go:43", after := #[{ on := 0, ground := Ground.data }, { on := 0, ground := Ground.phase }, { on := 1, ground := Ground.phase }, { on := 2, ground := Ground.phase }, { on := 3, ground := Ground.phase }, { on := 4, ground := Ground.phase }, { on := 5, ground := Ground.phase }, { on := 6, ground := Ground.phase }, { on := 7, ground := Ground.phase }, { on := 8, ground := Ground.phase }, { on := 9, ground := Ground.phase }, { on := 10, ground := Ground.phase }, { on := 11, ground := Ground.phase }, { on := 12, ground := Ground.phase }], guard := none }) (v := ?va14) rfl (by kernel_rfl) (by kernel_rfl) (by kernel_rfl) (fun _ _ _ h => h) (Or.inl ⟨by rfl, ?hy14⟩) ?_
          case hy14 => (intro w'; go_simp; try with_reducible rfl)
          try simp only [Act.put, List.setIfInBounds_toArray, List.set_cons_zero, List.set_cons_succ]
          refine wpAny_take (i := 14) (oi := { dst := some 62, op := Op.fieldAddr 90 (Operand.tmp 61) 5, type := 0, pos := "order.go:43", after := #[{ on := 13, ground := Ground.data }, { on := 0, ground := Ground.phase }, { on := 1, ground := Ground.phase }, { on := 2, ground := Ground.phase }, { on := 3, ground := Ground.phase }, { on := 4, ground := Ground.phase }, { on := 5, ground := Ground.phase }, { on := 6, ground := Ground.phase }, { on := 7, ground := Ground.phase }, { on := 8, ground := Ground.phase }, { on := 9, ground := Ground.phase }, { on := 10, ground := Ground.phase }, { on := 11, ground := Ground.phase }, { on := 12, ground := Ground.phase }], guard := none }) (v := ?va15) rfl (by kernel_rfl) (by kernel_rfl) (by kernel_rfl) (fun _ _ _ h => h) (Or.inl ⟨by rfl, ?hy15⟩) ?_
          case hy15 => (intro w'; go_simp; try with_reducible rfl)
          try simp only [Act.put, List.setIfInBounds_toArray, List.set_cons_zero, List.set_cons_succ]
          refine wpAny_ready (rs := [15]) (by kernel_rfl) (by simp) ?_
          refine AllReady.cons (o := { dst := none, op := Op.store 88 (Operand.tmp 62) (Operand.tmp 60), type := 0, pos := "order.go:43", after := #[{ on := 14, ground := Ground.data }, { on := 12, ground := Ground.data }, { on := 12, ground := Ground.chain }, { on := 0, ground := Ground.phase }, { on := 1, ground := Ground.phase }, { on := 2, ground := Ground.phase }, { on := 3, ground := Ground.phase }, { on := 4, ground := Ground.phase }, { on := 5, ground := Ground.phase }, { on := 6, ground := Ground.phase }, { on := 7, ground := Ground.phase }, { on := 8, ground := Ground.phase }, { on := 9, ground := Ground.phase }, { on := 10, ground := Ground.phase }, { on := 11, ground := Ground.phase }, { on := 12, ground := Ground.phase }], guard := none }) rfl (fun K hK => ?_) AllReady.nil
          go_simp
          refine hK _ _ ?_
          clear hK K
          try simp only [Act.put, List.setIfInBounds_toArray, List.set_cons_zero, List.set_cons_succ]
          refine wpAny_done (by kernel_rfl) ?_ _
          go_wp2_with fail
          go_ret
          exact ⟨by rw [HO.out]; rfl, HFIN.out HN.out HR.out⟩
  · cases hc : t.c
    · by_cases h1 : 0 ≤ x.b
      · by_cases h2 : x.b < 32
        · have HO : Hid (okS x t = true) := by show _ = _; simp [okS, hk, hb, rwB, hc, h1, h2]
          rw [hc] at c1
          clear hb
          have t0 : (x.k != 0) = true := by simp [hk]
          have t1 : (x.k == 0) = false := by simp [hk]
          have t2 : (x.k == 1) = false := by simp [hk]
          have t3 : (x.k == 2) = true := by simp [hk]
          have t4 : (x.k == 3) = false := by simp [hk]
          have t5 : (x.k == 4) = false := by simp [hk]
          have t6 : (x.k == 5) = false := by simp [hk]
          have HR : Hid (rwB x = true) := by show _ = _; simp [rwB, hk]
          have HN : Hid (t = nxt k x t) := by show _ = _; simp [nxt, hk]
          clear hk
          go_enter Try.func46, Try.ntmps46
          go_wp2_with fail
          refine wp_region_any (by kernel_rfl) ?_
          try (change wpAny _ _ _ _ _ _ _ (World.drew _))
          refine wpAny_take (i := 0) (oi := { dst := some 48, op := Op.move (Operand.tmp 0), type := 96, pos := "order.go:43", after := #[], guard := none }) (v := ?va1) rfl (by kernel_rfl) (by kernel_rfl) (by kernel_rfl) (fun _ _ _ h => h) (Or.inl ⟨by rfl, ?hy1⟩) ?_
          case hy1 => (intro w'; go_simp; try with_reducible rfl)
          try simp only [Act.put, List.setIfInBounds_toArray, List.set_cons_zero, List.set_cons_succ]
          refine wpAny_take (i := 1) (oi := { dst := some 49, op := Op.move (Operand.tmp 0), type := 96, pos := "order.go:43", after := #[], guard := none }) (v := ?va2) rfl (by kernel_rfl) (by kernel_rfl) (by kernel_rfl) (fun _ _ _ h => h) (Or.inl ⟨by rfl, ?hy2⟩) ?_
          case hy2 => (intro w'; go_simp; try with_reducible rfl)
          try simp only [Act.put, List.setIfInBounds_toArray, List.set_cons_zero, List.set_cons_succ]
          refine wpAny_take (i := 2) (oi := { dst := some 50, op := Op.nilCheck (Operand.tmp 49), type := 0, pos := "order.go:43", after := #[{ on := 1, ground := Ground.data }], guard := none }) (v := ?va3) rfl (by kernel_rfl) (by kernel_rfl) (by kernel_rfl) (fun _ _ _ h => h) (Or.inl ⟨by rfl, ?hy3⟩) ?_
          case hy3 => (intro w'; go_simp; try with_reducible rfl)
          try simp only [Act.put, List.setIfInBounds_toArray, List.set_cons_zero, List.set_cons_succ]
          refine wpAny_take (i := 3) (oi := { dst := some 51, op := Op.fieldAddr 90 (Operand.tmp 50) 5, type := 0, pos := "order.go:43", after := #[{ on := 2, ground := Ground.data }], guard := none }) (v := ?va4) rfl (by kernel_rfl) (by kernel_rfl) (by kernel_rfl) (fun _ _ _ h => h) (Or.inl ⟨by rfl, ?hy4⟩) ?_
          case hy4 => (intro w'; go_simp; try with_reducible rfl)
          try simp only [Act.put, List.setIfInBounds_toArray, List.set_cons_zero, List.set_cons_succ]
          refine wpAny_take (i := 5) (oi := { dst := some 53, op := Op.fieldAddr 36 (Operand.tmp 5) 2, type := 0, pos := "order.go:43", after := #[], guard := none }) (v := ?va5) rfl (by kernel_rfl) (by kernel_rfl) (by kernel_rfl) (fun _ _ _ h => h) (Or.inl ⟨by rfl, ?hy5⟩) ?_
          case hy5 => (intro w'; go_simp; try with_reducible rfl)
          try simp only [Act.put, List.setIfInBounds_toArray, List.set_cons_zero, List.set_cons_succ]
          refine wpAny_take (i := 8) (oi := { dst := some 56, op := Op.move (Operand.tmp 1), type := 3, pos := "order.go:43", after := #[], guard := none }) (v := ?va6) rfl (by kernel_rfl) (by kernel_rfl) (by kernel_rfl) (fun _ _ _ h => h) (Or.inl ⟨by rfl, ?hy6⟩) ?_
          case hy6 => (intro w'; go_simp; try with_reducible rfl)
          try simp only [Act.put, List.setIfInBounds_toArray, List.set_cons_zero, List.set_cons_succ]
          refine wpAny_take (i := 9) (oi := { dst := some 57, op := Op.convert 3 98 (Operand.tmp 56), type := 98, pos := "order.go:43", after := #[{ on := 8, ground := Ground.data }], guard := none }) (v := ?va7) rfl (by kernel_rfl) (by kernel_rfl) (by kernel_rfl) (fun _ _ _ h => h) (Or.inl ⟨by rfl, ?hy7⟩) ?_
          case hy7 => (intro w'; go_simp; try with_reducible rfl)
          try simp only [Act.put, List.setIfInBounds_toArray, List.set_cons_zero, List.set_cons_succ]
          refine wpAny_ready (rs := [4, 6]) (by kernel_rfl) (by simp) ?_
          refine AllReady.cons (o := { dst := some 52, op := Op.load 88 (Operand.tmp 51), type := 88, pos := "order.go:43", after := #[{ on := 3, ground := Ground.data }], guard := none }) rfl (fun K hK => ?_) ?_
          · go_simp
            refine hK _ _ ?_
            clear hK K
            try simp only [Act.put, List.setIfInBounds_toArray, List.set_cons_zero, List.set_cons_succ]
            refine wpAny_ready (rs := [6]) (by kernel_rfl) (by simp) ?_
            refine AllReady.cons (o := { dst := some 54, op := Op.load 3 (Operand.tmp 53), type := 3, pos := "order.go:43", after := #[{ on := 5, ground := Ground.data }], guard := none }) rfl (fun K hK => ?_) AllReady.nil
            go_simp
            refine hK _ _ ?_
            clear hK K
            try simp only [Act.put, List.setIfInBounds_toArray, List.set_cons_zero, List.set_cons_succ]
            refine wpAny_take (i := 7) (oi := { dst := some 55, op := Op.convert 3 98 (Operand.tmp 54), type := 98, pos := "order.go:43", after := #[{ on := 6, ground := Ground.data }], guard := none }) (v := ?va8) rfl (by kernel_rfl) (by kernel_rfl) (by kernel_rfl) (fun _ _ _ h => h) (Or.inl ⟨by rfl, ?hy8⟩) ?_
            case hy8 => (intro w'; go_simp; try with_reducible rfl)
            try simp only [Act.put, List.setIfInBounds_toArray, List.set_cons_zero, List.set_cons_succ]
            refine wpAny_take (i := 10) (oi := { dst := some 58, op := Op.call { callee := Callee.builtin Builtin.complex, args := #[Operand.tmp 55, Operand.tmp 57], argTypes := #[98, 98] }, type := 97, pos := "order.go:43", after := #[{ on := 7, ground := Ground.data }, { on := 9, ground := Ground.data }], guard := none }) (v := ?va9) rfl (by kernel_rfl) (by kernel_rfl) (by kernel_rfl) (fun _ _ _ h => h) (Or.inl ⟨by rfl, ?hy9⟩) ?_
            case hy9 => (intro w'; go_simp; try with_reducible rfl)
            try simp only [Act.put, List.setIfInBounds_toArray, List.set_cons_zero, List.set_cons_succ]
            refine wpAny_ready (rs := [11]) (by kernel_rfl) (by simp) ?_
            refine AllReady.cons (o := { dst := some 59, op := Op.buildSlice 88 1 #[(0, Operand.tmp 58)], type := 88, pos := "order.go:43", after := #[{ on := 10, ground := Ground.data }], guard := none }) rfl (fun K hK => ?_) AllReady.nil
            go_simp
            refine hK _ _ ?_
            clear hK K
            try simp only [Act.put, List.setIfInBounds_toArray, List.set_cons_zero, List.set_cons_succ]
            refine wpAny_ready (rs := [12]) (by kernel_rfl) (by simp) ?_
            refine AllReady.cons (o := { dst := some 60, op := Op.call { callee := Callee.builtin Builtin.append, args := #[Operand.tmp 52, Operand.tmp 59], argTypes := #[88, 88] }, type := 88, pos := "order.go:43", after := #[{ on := 4, ground := Ground.data }, { on := 11, ground := Ground.data }], guard := none }) rfl (fun K hK => ?_) AllReady.nil
            refine step_append_rd rfl (.tmp 52) (.tmp 59) 88 rfl B 97 i0 (.complex .f64 0 0) 1 16 Try.underlying88 hi0 hz0 hz1 hz2 rfl (by decide) (.slice av xs.length cv) xs.length xs rfl HO2.out (some ⟨w.heap.size + 1, 0, none⟩) 1 1 [.complex .f64 (FloatKind.f64.nearest x.b) (FloatKind.f64.nearest k)] rfl HR2.out rfl HS2.out HM2.out HM3.out HM4.out ?_
            intro v4 w4 hown4 hgr4 hat4
            obtain ⟨a4, p4, rfl, _⟩ := own_slice hown4
            obtain ⟨c54, f54, l54⟩ := HC4.out w4 hgr4
            have HFIN := Lib.hid (HF4.out a4 p4 w4 hown4 hgr4 hat4)
            clear hown4 hgr4 hat4
            refine hK _ _ ?_
            clear hK K
            try simp only [Act.put, List.setIfInBounds_toArray, List.set_cons_zero, List.set_cons_succ]
            refine wpAny_take (i := 13) (oi := { dst := some 61, op := Op.nilCheck (Operand.tmp 48), type := 0, pos := "order.go:43", after := #[{ on := 0, ground := Ground.data }, { on := 0, ground := Ground.phase }, { on := 1, ground := Ground.phase }, { on := 2, ground := Ground.phase }, { on := 3, ground := Ground.phase }, { on := 4, ground := Ground.phase }, { on := 5, ground := Ground.phase }, { on := 6, ground := Ground.phase }, { on := 7, ground := Ground.phase }, { on := 8, ground := Ground.phase }, { on := 9, ground := Ground.phase }, { on := 10, ground := Ground.phase }, { on := 11, ground := Ground.phase }, { on := 12, ground := Ground.phase }], guard := none }) (v := ?va10) rfl (by kernel_rfl) (by kernel_rfl) (by kernel_rfl) (fun _ _ _ h => h) (Or.inl ⟨by rfl, ?hy10⟩) ?_
            case hy10 => (intro w'; go_simp; try with_reducible rfl)
            try simp only [Act.put, List.setIfInBounds_toArray, List.set_cons_zero, List.set_cons_succ]
            refine wpAny_take (i := 14) (oi := { dst := some 62, op := Op.fieldAddr 90 (Operand.tmp 61) 5, type := 0, pos := "order.go:43", after := #[{ on := 13, ground := Ground.data }, { on := 0, ground := Ground.phase }, { on := 1, ground := Ground.phase }, { on := 2, ground := Ground.phase }, { on := 3, ground := Ground.phase }, { on := 4, ground := Ground.phase }, { on := 5, ground := Ground.phase }, { on := 6, ground := Ground.phase }, { on := 7, ground := Ground.phase }, { on := 8, ground := Ground.phase }, { on := 9, ground := Ground.phase }, { on := 10, ground := Ground.phase }, { on := 11, ground := Ground.phase }, { on := 12, ground := Ground.phase }], guard := none }) (v := ?va11) rfl (by kernel_rfl) (by kernel_rfl) (by kernel_rfl) (fun _ _ _ h => h) (Or.inl ⟨by rfl, ?hy11⟩) ?_
            case hy11 => (intro w'; go_simp; try with_reducible rfl)
            try simp only [Act.put, List.setIfInBounds_toArray, List.set_cons_zero, List.set_cons_succ]
            refine wpAny_ready (rs := [15]) (by kernel_rfl) (by simp) ?_
            refine AllReady.cons (o := { dst := none, op := Op.store 88 (Operand.tmp 62) (Operand.tmp 60), type := 0, pos := "order.go:43", after := #[{ on := 14, ground := Ground.data }, { on := 12, ground := Ground.data }, { on := 12, ground := Ground.chain }, { on := 0, ground := Ground.phase }, { on := 1, ground := Ground.phase }, { on := 2, ground := Ground.phase }, { on := 3, ground := Ground.phase }, { on := 4, ground := Ground.phase }, { on := 5, ground := Ground.phase }, { on := 6, ground := Ground.phase }, { on := 7, ground := Ground.phase }, { on := 8, ground := Ground.phase }, { on := 9, ground := Ground.phase }, { on := 10, ground := Ground.phase }, { on := 11, ground := Ground.phase }, { on := 12, ground := Ground.phase }], guard := none }) rfl (fun K hK => ?_) AllReady.nil
            go_simp
            refine hK _ _ ?_
            clear hK K
            try simp only [Act.put, List.setIfInBounds_toArray, List.set_cons_zero, List.set_cons_succ]
            refine wpAny_done (by kernel_rfl) ?_ _
            go_wp2_with fail
            go_ret
            exact ⟨by rw [HO.out]; rfl, HFIN.out HN.out HR.out⟩
          · refine AllReady.cons (o := { dst := some 54, op := Op.load 3 (Operand.tmp 53), type := 3, pos := "order.go:43", after := #[{ on := 5, ground := Ground.data }], guard := none }) rfl (fun K hK => ?_) AllReady.nil
            go_simp
            refine hK _ _ ?_
            clear hK K
            try simp only [Act.put, List.setIfInBounds_toArray, List.set_cons_zero, List.set_cons_succ]
            refine wpAny_take (i := 7) (oi := { dst := some 55, op := Op.convert 3 98 (Operand.tmp 54), type := 98, pos := "order.go:43", after := #[{ on := 6, ground := Ground.data }], guard := none }) (v := ?va16) rfl (by kernel_rfl) (by kernel_rfl) (by kernel_rfl) (fun _ _ _ h => h) (Or.inl ⟨by rfl, ?hy16⟩) ?_
            case hy16 => (intro w'; go_simp; try with_reducible rfl)
            try simp only [Act.put, List.setIfInBounds_toArray, List.set_cons_zero, List.set_cons_succ]
            refine wpAny_take (i := 10) (oi := { dst := some 58, op := Op.call { callee := Callee.builtin Builtin.complex, args := #[Operand.tmp 55, Operand.tmp 57], argTypes := #[98, 98] }, type := 97, pos := "order.go:43", after := #[{ on := 7, ground := Ground.data }, { on := 9, ground := Ground.data }], guard := none }) (v := ?va17) rfl (by kernel_rfl) (by kernel_rfl) (by kernel_rfl) (fun _ _ _ h => h) (Or.inl ⟨by rfl, ?hy17⟩) ?_
            case hy17 => (intro w'; go_simp; try with_reducible rfl)
            try simp only [Act.put, List.setIfInBounds_toArray, List.set_cons_zero, List.set_cons_succ]
            refine wpAny_ready (rs := [4, 11]) (by kernel_rfl) (by simp) ?_
            refine AllReady.cons (o := { dst := some 52, op := Op.load 88 (Operand.tmp 51), type := 88, pos := "order.go:43", after := #[{ on := 3, ground := Ground.data }], guard := none }) rfl (fun K hK => ?_) ?_
            · go_simp
              refine hK _ _ ?_
              clear hK K
              try simp only [Act.put, List.setIfInBounds_toArray, List.set_cons_zero, List.set_cons_succ]
              refine wpAny_ready (rs := [11]) (by kernel_rfl) (by simp) ?_
              refine AllReady.cons (o := { dst := some 59, op := Op.buildSlice 88 1 #[(0, Operand.tmp 58)], type := 88, pos := "order.go:43", after := #[{ on := 10, ground := Ground.data }], guard := none }) rfl (fun K hK => ?_) AllReady.nil
              go_simp
              refine hK _ _ ?_
              clear hK K
              try simp only [Act.put, List.setIfInBounds_toArray, List.set_cons_zero, List.set_cons_succ]
              refine wpAny_ready (rs := [12]) (by kernel_rfl) (by simp) ?_
              refine AllReady.cons (o := { dst := some 60, op := Op.call { callee := Callee.builtin Builtin.append, args := #[Operand.tmp 52, Operand.tmp 59], argTypes := #[88, 88] }, type := 88, pos := "order.go:43", after := #[{ on := 4, ground := Ground.data }, { on := 11, ground := Ground.data }], guard := none }) rfl (fun K hK => ?_) AllReady.nil
              refine step_append_rd rfl (.tmp 52) (.tmp 59) 88 rfl B 97 i0 (.complex .f64 0 0) 1 16 Try.underlying88 hi0 hz0 hz1 hz2 rfl (by decide) (.slice av xs.length cv) xs.length xs rfl HO2.out (some ⟨w.heap.size + 1, 0, none⟩) 1 1 [.complex .f64 (FloatKind.f64.nearest x.b) (FloatKind.f64.nearest k)] rfl HR2.out rfl HS2.out HM2.out HM3.out HM4.out ?_
              intro v4 w4 hown4 hgr4 hat4
              obtain ⟨a4, p4, rfl, _⟩ := own_slice hown4
              obtain ⟨c54, f54, l54⟩ := HC4.out w4 hgr4
              have HFIN := Lib.hid (HF4.out a4 p4 w4 hown4 hgr4 hat4)
              clear hown4 hgr4 hat4
              refine hK _ _ ?_
              clear hK K
              try simp only [Act.put, List.setIfInBounds_toArray, List.set_cons_zero, List.set_cons_succ]
              refine wpAny_take (i := 13) (oi := { dst := some 61, op := Op.nilCheck (Operand.tmp 48), type := 0, pos := "order.go:43", after := #[{ on := 0, ground := Ground.data }, { on := 0, ground := Ground.phase }, { on := 1, ground := Ground.phase }, { on := 2, ground := Ground.phase }, { on := 3, ground := Ground.phase }, { on := 4, ground := Ground.phase }, { on := 5, ground := Ground.phase }, { on := 6, ground := Ground.phase }, { on := 7, ground := Ground.phase }, { on := 8, ground := Ground.phase }, { on := 9, ground := Ground.phase }, { on := 10, ground := Ground.phase }, { on := 11, ground := Ground.phase }, { on := 12, ground := Ground.phase }], guard := none }) (v := ?va12) rfl (by kernel_rfl) (by kernel_rfl) (by kernel_rfl) (fun _ _ _ h => h) (Or.inl ⟨by rfl, ?hy12⟩) ?_
              case hy12 => (intro w'; go_simp; try with_reducible rfl)
              try simp only [Act.put, List.setIfInBounds_toArray, List.set_cons_zero, List.set_cons_succ]
              refine wpAny_take (i := 14) (oi := { dst := some 62, op := Op.fieldAddr 90 (Operand.tmp 61) 5, type := 0, pos := "order.go:43", after := #[{ on := 13, ground := Ground.data }, { on := 0, ground := Ground.phase }, { on := 1, ground := Ground.phase }, { on := 2, ground := Ground.phase }, { on := 3, ground := Ground.phase }, { on := 4, ground := Ground.phase }, { on := 5, ground := Ground.phase }, { on := 6, ground := Ground.phase }, { on := 7, ground := Ground.phase }, { on := 8, ground := Ground.phase }, { on := 9, ground := Ground.phase }, { on := 10, ground := Ground.phase }, { on := 11, ground := Ground.phase }, { on := 12, ground := Ground.phase }], guard := none }) (v := ?va13) rfl (by kernel_rfl) (by kernel_rfl) (by kernel_rfl) (fun _ _ _ h => h) (Or.inl ⟨by rfl, ?hy13⟩) ?_
              case hy13 => (intro w'; go_simp; try with_reducible rfl)
              try simp only [Act.put, List.setIfInBounds_toArray, List.set_cons_zero, List.set_cons_succ]
              refine wpAny_ready (rs := [15]) (by kernel_rfl) (by simp) ?_
              refine AllReady.cons (o := { dst := none, op := Op.store 88 (Operand.tmp 62) (Operand.tmp 60), type := 0, pos := "order.go:43", after := #[{ on := 14, ground := Ground.data }, { on := 12, ground := Ground.data }, { on := 12, ground := Ground.chain }, { on := 0, ground := Ground.phase }, { on := 1, ground := Ground.phase }, { on := 2, ground := Ground.phase }, { on := 3, ground := Ground.phase }, { on := 4, ground := Ground.phase }, { on := 5, ground := Ground.phase }, { on := 6, ground := Ground.phase }, { on := 7, ground := Ground.phase }, { on := 8, ground := Ground.phase }, { on := 9, ground := Ground.phase }, { on := 10, ground := Ground.phase }, { on := 11, ground := Ground.phase }, { on := 12, ground := Ground.phase }], guard := none }) rfl (fun K hK => ?_) AllReady.nil
              go_simp
              refine hK _ _ ?_
              clear hK K
              try simp only [Act.put, List.setIfInBounds_toArray, List.set_cons_zero, List.set_cons_succ]
              refine wpAny_done (by kernel_rfl) ?_ _
              go_wp2_with fail
              go_ret
              exact ⟨by rw [HO.out]; rfl, HFIN.out HN.out HR.out⟩
            · refine AllReady.cons (o := { dst := some 59, op := Op.buildSlice 88 1 #[(0, Operand.tmp 58)], type := 88, pos := "order.go:43", after := #[{ on := 10, ground := Ground.data }], guard := none }) rfl (fun K hK => ?_) AllReady.nil
              go_simp
              refine hK _ _ ?_
              clear hK K
              try simp only [Act.put, List.setIfInBounds_toArray, List.set_cons_zero, List.set_cons_succ]
              refine wpAny_ready (rs := [4]) (by kernel_rfl) (by simp) ?_
              refine AllReady.cons (o := { dst := some 52, op := Op.load 88 (Operand.tmp 51), type := 88, pos := "order.go:43", after := #[{ on := 3, ground := Ground.data }], guard := none }) rfl (fun K hK => ?_) AllReady.nil
              go_simp
              refine hK _ _ ?_
              clear hK K
              try simp only [Act.put, List.setIfInBounds_toArray, List.set_cons_zero, List.set_cons_succ]
              refine wpAny_ready (rs := [12]) (by kernel_rfl) (by simp) ?_
              refine AllReady.cons (o := { dst := some 60, op := Op.call { callee := Callee.builtin Builtin.append, args := #[Operand.tmp 52, Operand.tmp 59], argTypes := #[88, 88] }, type := 88, pos := "order.go:43", after := #[{ on := 4, ground := Ground.data }, { on := 11, ground := Ground.data }], guard := none }) rfl (fun K hK => ?_) AllReady.nil
              refine step_append_rd rfl (.tmp 52) (.tmp 59) 88 rfl B 97 i0 (.complex .f64 0 0) 1 16 Try.underlying88 hi0 hz0 hz1 hz2 rfl (by decide) (.slice av xs.length cv) xs.length xs rfl HO2.out (some ⟨w.heap.size + 1, 0, none⟩) 1 1 [.complex .f64 (FloatKind.f64.nearest x.b) (FloatKind.f64.nearest k)] rfl HR2.out rfl HS2.out HM2.out HM3.out HM4.out ?_
              intro v4 w4 hown4 hgr4 hat4
              obtain ⟨a4, p4, rfl, _⟩ := own_slice hown4
              obtain ⟨c54, f54, l54⟩ := HC4.out w4 hgr4
              have HFIN := Lib.hid (HF4.out a4 p4 w4 hown4 hgr4 hat4)
              clear hown4 hgr4 hat4
              refine hK _ _ ?_
              clear hK K
              try simp only [Act.put, List.setIfInBounds_toArray, List.set_cons_zero, List.set_cons_succ]
              refine wpAny_take (i := 13) (oi := { dst := some 61, op := Op.nilCheck (Operand.tmp 48), type := 0, pos := "order.go:43", after := #[{ on := 0, ground := Ground.data }, { on := 0, ground := Ground.phase }, { on := 1, ground := Ground.phase }, { on := 2, ground := Ground.phase }, { on := 3, ground := Ground.phase }, { on := 4, ground := Ground.phase }, { on := 5, ground := Ground.phase }, { on := 6, ground := Ground.phase }, { on := 7, ground := Ground.phase }, { on := 8, ground := Ground.phase }, { on := 9, ground := Ground.phase }, { on := 10, ground := Ground.phase }, { on := 11, ground := Ground.phase }, { on := 12, ground := Ground.phase }], guard := none }) (v := ?va14) rfl (by kernel_rfl) (by kernel_rfl) (by kernel_rfl) (fun _ _ _ h => h) (Or.inl ⟨by rfl, ?hy14⟩) ?_
              case hy14 => (intro w'; go_simp; try with_reducible rfl)
              try simp only [Act.put, List.setIfInBounds_toArray, List.set_cons_zero, List.set_cons_succ]
              refine wpAny_take (i := 14) (oi := { dst := some 62, op := Op.fieldAddr 90 (Operand.tmp 61) 5, type := 0, pos := "order.go:43", after := #[{ on := 13, ground := Ground.data }, { on := 0, ground := Ground.phase }, { on := 1, ground := Ground.phase }, { on := 2, ground := Ground.phase }, { on := 3, ground := Ground.phase }, { on := 4, ground := Ground.phase }, { on := 5, ground := Ground.phase }, { on := 6, ground := Ground.phase }, { on := 7, ground := Ground.phase }, { on := 8, ground := Ground.phase }, { on := 9, ground := Ground.phase }, { on := 10, ground := Ground.phase }, { on := 11, ground := Ground.phase }, { on := 12, ground := Ground.phase }], guard := none }) (v := ?va15) rfl (by kernel_rfl) (by kernel_rfl) (by kernel_rfl) (fun _ _ _ h => h) (Or.inl ⟨by rfl, ?hy15⟩) ?_
              case hy15 => (intro w'; go_simp; try with_reducible rfl)
              try simp only [Act.put, List.setIfInBounds_toArray, List.set_cons_zero, List.set_cons_succ]
              refine wpAny_ready (rs := [15]) (by kernel_rfl) (by simp) ?_
              refine AllReady.cons (o := { dst := none, op := Op.store 88 (Operand.tmp 62) (Operand.tmp 60), type := 0, pos := "order.go:43", after := #[{ on := 14, ground := Ground.data }, { on := 12, ground := Ground.data }, { on := 12, ground := Ground.chain }, { on := 0, ground := Ground.phase }, { on := 1, ground := Ground.phase }, { on := 2, ground := Ground.phase }, { on := 3, ground := Ground.phase }, { on := 4, ground := Ground.phase }, { on := 5, ground := Ground.phase }, { on := 6, ground := Ground.phase }, { on := 7, ground := Ground.phase }, { on := 8, ground := Ground.phase }, { on := 9, ground := Ground.phase }, { on := 10, ground := Ground.phase }, { on := 11, ground := Ground.phase }, { on := 12, ground := Ground.phase }], guard := none }) rfl (fun K hK => ?_) AllReady.nil
              go_simp
              refine hK _ _ ?_
              clear hK K
              try simp only [Act.put, List.setIfInBounds_toArray, List.set_cons_zero, List.set_cons_succ]
              refine wpAny_done (by kernel_rfl) ?_ _
              go_wp2_with fail
              go_ret
              exact ⟨by rw [HO.out]; rfl, HFIN.out HN.out HR.out⟩
        · have HO : Hid (okS x t = false) := by show _ = _; simp [okS, hk, hb, rwB, hc, h1, h2]
          rw [hc] at c1
          clear hb
          have t0 : (x.k != 0) = true := by simp [hk]
          have t1 : (x.k == 0) = false := by simp [hk]
          have t2 : (x.k == 1) = false := by simp [hk]
          have t3 : (x.k == 2) = true := by simp [hk]
          have t4 : (x.k == 3) = false := by simp [hk]
          have t5 : (x.k == 4) = false := by simp [hk]
          have t6 : (x.k == 5) = false := by simp [hk]
          have HR : Hid (rwB x = true) := by show _ = _; simp [rwB, hk]
          have HN : Hid (t = nxt k x t) := by show _ = _; simp [nxt, hk]
          clear hk
          go_enter Try.func46, Try.ntmps46
          go_wp2_with fail
          refine wp_region_any (by kernel_rfl) ?_
          try (change wpAny _ _ _ _ _ _ _ (World.drew _))
          refine wpAny_take (i := 0) (oi := { dst := some 48, op := Op.move (Operand.tmp 0), type := 96, pos := "order.go:43", after := #[], guard := none }) (v := ?va1) rfl (by kernel_rfl) (by kernel_rfl) (by kernel_rfl) (fun _ _ _ h => h) (Or.inl ⟨by rfl, ?hy1⟩) ?_
          case hy1 => (intro w'; go_simp; try with_reducible rfl)
          try simp only [Act.put, List.setIfInBounds_toArray, List.set_cons_zero, List.set_cons_succ]
          refine wpAny_take (i := 1) (oi := { dst := some 49, op := Op.move (Operand.tmp 0), type := 96, pos := "order.go:43", after := #[], guard := none }) (v := ?va2) rfl (by kernel_rfl) (by kernel_rfl) (by kernel_rfl) (fun _ _ _ h => h) (Or.inl ⟨by rfl, ?hy2⟩) ?_
          case hy2 => (intro w'; go_simp; try with_reducible rfl)
          try simp only [Act.put, List.setIfInBounds_toArray, List.set_cons_zero, List.set_cons_succ]
          refine wpAny_take (i := 2) (oi := { dst := some 50, op := Op.nilCheck (Operand.tmp 49), type := 0, pos := "order.go:43", after := #[{ on := 1, ground := Ground.data }], guard := none }) (v := ?va3) rfl (by kernel_rfl) (by kernel_rfl) (by kernel_rfl) (fun _ _ _ h => h) (Or.inl ⟨by rfl, ?hy3⟩) ?_
          case hy3 => (intro w'; go_simp; try with_reducible rfl)
          try simp only [Act.put, List.setIfInBounds_toArray, List.set_cons_zero, List.set_cons_succ]
          refine wpAny_take (i := 3) (oi := { dst := some 51, op := Op.fieldAddr 90 (Operand.tmp 50) 5, type := 0, pos := "order.go:43", after := #[{ on := 2, ground := Ground.data }], guard := none }) (v := ?va4) rfl (by kernel_rfl) (by kernel_rfl) (by kernel_rfl) (fun _ _ _ h => h) (Or.inl ⟨by rfl, ?hy4⟩) ?_
          case hy4 => (intro w'; go_simp; try with_reducible rfl)
          try simp only [Act.put, List.setIfInBounds_toArray, List.set_cons_zero, List.set_cons_succ]
          refine wpAny_take (i := 5) (oi := { dst := some 53, op := Op.fieldAddr 36 (Operand.tmp 5) 2, type := 0, pos := "order.go:43", after := #[], guard := none }) (v := ?va5) rfl (by kernel_rfl) (by kernel_rfl) (by kernel_rfl) (fun _ _ _ h => h) (Or.inl ⟨by rfl, ?hy5⟩) ?_
          case hy5 => (intro w'; go_simp; try with_reducible rfl)
          try simp only [Act.put, List.setIfInBounds_toArray, List.set_cons_zero, List.set_cons_succ]
          refine wpAny_take (i := 8) (oi := { dst := some 56, op := Op.move (Operand.tmp 1), type := 3, pos := "order.go:43", after := #[], guard := none }) (v := ?va6) rfl (by kernel_rfl) (by kernel_rfl) (by kernel_rfl) (fun _ _ _ h => h) (Or.inl ⟨by rfl, ?hy6⟩) ?_
          case hy6 => (intro w'; go_simp; try with_reducible rfl)
          try simp only [Act.put, List.setIfInBounds_toArray, List.set_cons_zero, List.set_cons_succ]
          refine wpAny_take (i := 9) (oi := { dst := some 57, op := Op.convert 3 98 (Operand.tmp 56), type := 98, pos := "order.go:43", after := #[{ on := 8, ground := Ground.data }], guard := none }) (v := ?va7) rfl (by kernel_rfl) (by kernel_rfl) (by kernel_rfl) (fun _ _ _ h => h) (Or.inl ⟨by rfl, ?hy7⟩) ?_
          case hy7 => (intro w'; go_simp; try with_reducible rfl)
          try simp only [Act.put, List.setIfInBounds_toArray, List.set_cons_zero, List.set_cons_succ]
          refine wpAny_ready (rs := [4, 6]) (by kernel_rfl) (by simp) ?_
          refine AllReady.cons (o := { dst := some 52, op := Op.load 88 (Operand.tmp 51), type := 88, pos := "order.go:43", after := #[{ on := 3, ground := Ground.data }], guard := none }) rfl (fun K hK => ?_) ?_
          · go_simp
            refine hK _ _ ?_
            clear hK K
            try simp only [Act.put, List.setIfInBounds_toArray, List.set_cons_zero, List.set_cons_succ]
            refine wpAny_ready (rs := [6]) (by kernel_rfl) (by simp) ?_
            refine AllReady.cons (o := { dst := some 54, op := Op.load 3 (Operand.tmp 53), type := 3, pos := "order.go:43", after := #[{ on := 5, ground := Ground.data }], guard := none }) rfl (fun K hK => ?_) AllReady.nil
            go_simp
            refine hK _ _ ?_
            clear hK K
            try simp only [Act.put, List.setIfInBounds_toArray, List.set_cons_zero, List.set_cons_succ]
            refine wpAny_take (i := 7) (oi := { dst := some 55, op := Op.convert 3 98 (Operand.tmp 54), type := 98, pos := "order.go:43", after := #[{ on := 6, ground := Ground.data }], guard := none }) (v := ?va8) rfl (by kernel_rfl) (by kernel_rfl) (by kernel_rfl) (fun _ _ _ h => h) (Or.inl ⟨by rfl, ?hy8⟩) ?_
            case hy8 => (intro w'; go_simp; try with_reducible rfl)
            try simp only [Act.put, List.setIfInBounds_toArray, List.set_cons_zero, List.set_cons_succ]
            refine wpAny_take (i := 10) (oi := { dst := some 58, op := Op.call { callee := Callee.builtin Builtin.complex, args := #[Operand.tmp 55, Operand.tmp 57], argTypes := #[98, 98] }, type := 97, pos := "order.go:43", after := #[{ on := 7, ground := Ground.data }, { on := 9, ground := Ground.data }], guard := none }) (v := ?va9) rfl (by kernel_rfl) (by kernel_rfl) (by kernel_rfl) (fun _ _ _ h => h) (Or.inl ⟨by rfl, ?hy9⟩) ?_
            case hy9 => (intro w'; go_simp; try with_reducible rfl)
            try simp only [Act.put, List.setIfInBounds_toArray, List.set_cons_zero, List.set_cons_succ]
            refine wpAny_ready (rs := [11]) (by kernel_rfl) (by simp) ?_
            refine AllReady.cons (o := { dst := some 59, op := Op.buildSlice 88 1 #[(0, Operand.tmp 58)], type := 88, pos := "order.go:43", after := #[{ on := 10, ground := Ground.data }], guard := none }) rfl (fun K hK => ?_) AllReady.nil
            go_simp
            refine hK _ _ ?_
            clear hK K
            try simp only [Act.put, List.setIfInBounds_toArray, List.set_cons_zero, List.set_cons_succ]
            refine wpAny_ready (rs := [12]) (by kernel_rfl) (by simp) ?_
            refine AllReady.cons (o := { dst := some 60, op := Op.call { callee := Callee.builtin Builtin.append, args := #[Operand.tmp 52, Operand.tmp 59], argTypes := #[88, 88] }, type := 88, pos := "order.go:43", after := #[{ on := 4, ground := Ground.data }, { on := 11, ground := Ground.data }], guard := none }) rfl (fun K hK => ?_) AllReady.nil
            refine step_append_rd rfl (.tmp 52) (.tmp 59) 88 rfl B 97 i0 (.complex .f64 0 0) 1 16 Try.underlying88 hi0 hz0 hz1 hz2 rfl (by decide) (.slice av xs.length cv) xs.length xs rfl HO2.out (some ⟨w.heap.size + 1, 0, none⟩) 1 1 [.complex .f64 (FloatKind.f64.nearest x.b) (FloatKind.f64.nearest k)] rfl HR2.out rfl HS2.out HM2.out HM3.out HM4.out ?_
            intro v4 w4 hown4 hgr4 hat4
            obtain ⟨a4, p4, rfl, _⟩ := own_slice hown4
            obtain ⟨c54, f54, l54⟩ := HC4.out w4 hgr4
            have HFIN := Lib.hid (HF4.out a4 p4 w4 hown4 hgr4 hat4)
            clear hown4 hgr4 hat4
            refine hK _ _ ?_
            clear hK K
            try simp only [Act.put, List.setIfInBounds_toArray, List.set_cons_zero, List.set_cons_succ]
            refine wpAny_take (i := 13) (oi := { dst := some 61, op := Op.nilCheck (Operand.tmp 48), type := 0, pos := "order.go:43", after := #[{ on := 0, ground := Ground.data }, { on := 0, ground := Ground.phase }, { on := 1, ground := Ground.phase }, { on := 2, ground := Ground.phase }, { on := 3, ground := Ground.phase }, { on := 4, ground := Ground.phase }, { on := 5, ground := Ground.phase }, { on := 6, ground := Ground.phase }, { on := 7, ground := Ground.phase }, { on := 8, ground := Ground.phase }, { on := 9, ground := Ground.phase }, { on := 10, ground := Ground.phase }, { on := 11, ground := Ground.phase }, { on := 12, ground := Ground.phase }], guard := none }) (v := ?va10) rfl (by kernel_rfl) (by kernel_rfl) (by kernel_rfl) (fun _ _ _ h => h) (Or.inl ⟨by rfl, ?hy10⟩) ?_
            case hy10 => (intro w'; go_simp; try with_reducible rfl)
            try simp only [Act.put, List.setIfInBounds_toArray, List.set_cons_zero, List.set_cons_succ]
            refine wpAny_take (i := 14) (oi := { dst := some 62, op := Op.fieldAddr 90 (Operand.tmp 61) 5, type := 0, pos := "order.go:43", after := #[{ on := 13, ground := Ground.data }, { on := 0, ground := Ground.phase }, { on := 1, ground := Ground.phase }, { on := 2, ground := Ground.phase }, { on := 3, ground := Ground.phase }, { on := 4, ground := Ground.phase }, { on := 5, ground := Ground.phase }, { on := 6, ground := Ground.phase }, { on := 7, ground := Ground.phase }, { on := 8, ground := Ground.phase }, { on := 9, ground := Ground.phase }, { on := 10, ground := Ground.phase }, { on := 11, ground := Ground.phase }, { on := 12, ground := Ground.phase }], guard := none }) (v := ?va11) rfl (by kernel_rfl) (by kernel_rfl) (by kernel_rfl) (fun _ _ _ h => h) (Or.inl ⟨by rfl, ?hy11⟩) ?_
            case hy11 => (intro w'; go_simp; try with_reducible rfl)
            try simp only [Act.put, List.setIfInBounds_toArray, List.set_cons_zero, List.set_cons_succ]
            refine wpAny_ready (rs := [15]) (by kernel_rfl) (by simp) ?_
            refine AllReady.cons (o := { dst := none, op := Op.store 88 (Operand.tmp 62) (Operand.tmp 60), type := 0, pos := "order.go:43", after := #[{ on := 14, ground := Ground.data }, { on := 12, ground := Ground.data }, { on := 12, ground := Ground.chain }, { on := 0, ground := Ground.phase }, { on := 1, ground := Ground.phase }, { on := 2, ground := Ground.phase }, { on := 3, ground := Ground.phase }, { on := 4, ground := Ground.phase }, { on := 5, ground := Ground.phase }, { on := 6, ground := Ground.phase }, { on := 7, ground := Ground.phase }, { on := 8, ground := Ground.phase }, { on := 9, ground := Ground.phase }, { on := 10, ground := Ground.phase }, { on := 11, ground := Ground.phase }, { on := 12, ground := Ground.phase }], guard := none }) rfl (fun K hK => ?_) AllReady.nil
            go_simp
            refine hK _ _ ?_
            clear hK K
            try simp only [Act.put, List.setIfInBounds_toArray, List.set_cons_zero, List.set_cons_succ]
            refine wpAny_done (by kernel_rfl) ?_ _
            go_wp2_with fail
            go_ret
            exact ⟨by rw [HO.out]; rfl, HFIN.out HN.out HR.out⟩
          · refine AllReady.cons (o := { dst := some 54, op := Op.load 3 (Operand.tmp 53), type := 3, pos := "order.go:43", after := #[{ on := 5, ground := Ground.data }], guard := none }) rfl (fun K hK => ?_) AllReady.nil
            go_simp
            refine hK _ _ ?_
            clear hK K
            try simp only [Act.put, List.setIfInBounds_toArray, List.set_cons_zero, List.set_cons_succ]
            refine wpAny_take (i := 7) (oi := { dst := some 55, op := Op.convert 3 98 (Operand.tmp 54), type := 98, pos := "order.go:43", after := #[{ on := 6, ground := Ground.data }], guard := none }) (v := ?va16) rfl (by kernel_rfl) (by kernel_rfl) (by kernel_rfl) (fun _ _ _ h => h) (Or.inl ⟨by rfl, ?hy16⟩) ?_
            case hy16 => (intro w'; go_simp; try with_reducible rfl)
            try simp only [Act.put, List.setIfInBounds_toArray, List.set_cons_zero, List.set_cons_succ]
            refine wpAny_take (i := 10) (oi := { dst := some 58, op := Op.call { callee := Callee.builtin Builtin.complex, args := #[Operand.tmp 55, Operand.tmp 57], argTypes := #[98, 98] }, type := 97, pos := "order.go:43", after := #[{ on := 7, ground := Ground.data }, { on := 9, ground := Ground.data }], guard := none }) (v := ?va17) rfl (by kernel_rfl) (by kernel_rfl) (by kernel_rfl) (fun _ _ _ h => h) (Or.inl ⟨by rfl, ?hy17⟩) ?_
            case hy17 => (intro w'; go_simp; try with_reducible rfl)
            try simp only [Act.put, List.setIfInBounds_toArray, List.set_cons_zero, List.set_cons_succ]
            refine wpAny_ready (rs := [4, 11]) (by kernel_rfl) (by simp) ?_
            refine AllReady.cons (o := { dst := some 52, op := Op.load 88 (Operand.tmp 51), type := 88, pos := "order.go:43", after := #[{ on := 3, ground := Ground.data }], guard := none }) rfl (fun K hK => ?_) ?_
            · go_simp
              refine hK _ _ ?_
              clear hK K
              try simp only [Act.put, List.setIfInBounds_toArray, List.set_cons_zero, List.set_cons_succ]
              refine wpAny_ready (rs := [11]) (by kernel_rfl) (by simp) ?_
              refine AllReady.cons (o := { dst := some 59, op := Op.buildSlice 88 1 #[(0, Operand.tmp 58)], type := 88, pos := "order.go:43", after := #[{ on := 10, ground := Ground.data }], guard := none }) rfl (fun K hK => ?_) AllReady.nil
              go_simp
              refine hK _ _ ?_
              clear hK K
              try simp only [Act.put, List.setIfInBounds_toArray, List.set_cons_zero, List.set_cons_succ]
              refine wpAny_ready (rs := [12]) (by kernel_rfl) (by simp) ?_
              refine AllReady.cons (o := { dst := some 60, op := Op.call { callee := Callee.builtin Builtin.append, args := #[Operand.tmp 52, Operand.tmp 59], argTypes := #[88, 88] }, type := 88, pos := "order.go:43", after := #[{ on := 4, ground := Ground.data }, { on := 11, ground := Ground.data }], guard := none }) rfl (fun K hK => ?_) AllReady.nil
              refine step_append_rd rfl (.tmp 52) (.tmp 59) 88 rfl B 97 i0 (.complex .f64 0 0) 1 16 Try.underlying88 hi0 hz0 hz1 hz2 rfl (by decide) (.slice av xs.length cv) xs.length xs rfl HO2.out (some ⟨w.heap.size + 1, 0, none⟩) 1 1 [.complex .f64 (FloatKind.f64.nearest x.b) (FloatKind.f64.nearest k)] rfl HR2.out rfl HS2.out HM2.out HM3.out HM4.out ?_
              intro v4 w4 hown4 hgr4 hat4
              obtain ⟨a4, p4, rfl, _⟩ := own_slice hown4
              obtain ⟨c54, f54, l54⟩ := HC4.out w4 hgr4
              have HFIN := Lib.hid (HF4.out a4 p4 w4 hown4 hgr4 hat4)
              clear hown4 hgr4 hat4
              refine hK _ _ ?_
              clear hK K
              try simp only [Act.put, List.setIfInBounds_toArray, List.set_cons_zero, List.set_cons_succ]
              refine wpAny_take (i := 13) (oi := { dst := some 61, op := Op.nilCheck (Operand.tmp 48), type := 0, pos := "order.go:43", after := #[{ on := 0, ground := Ground.data }, { on := 0, ground := Ground.phase }, { on := 1, ground := Ground.phase }, { on := 2, ground := Ground.phase }, { on := 3, ground := Ground.phase }, { on := 4, ground := Ground.phase }, { on := 5, ground := Ground.phase }, { on := 6, ground := Ground.phase }, { on := 7, ground := Ground.phase }, { on := 8, ground := Ground.phase }, { on := 9, ground := Ground.phase }, { on := 10, ground := Ground.phase }, { on := 11, ground := Ground.phase }, { on := 12, ground := Ground.phase }], guard := none }) (v := ?va12) rfl (by kernel_rfl) (by kernel_rfl) (by kernel_rfl) (fun _ _ _ h => h) (Or.inl ⟨by rfl, ?hy12⟩) ?_
              case hy12 => (intro w'; go_simp; try with_reducible rfl)
              try simp only [Act.put, List.setIfInBounds_toArray, List.set_cons_zero, List.set_cons_succ]
              refine wpAny_take (i := 14) (oi := { dst := some 62, op := Op.fieldAddr 90 (Operand.tmp 61) 5, type := 0, pos := "order.go:43", after := #[{ on := 13, ground := Ground.data }, { on := 0, ground := Ground.phase }, { on := 1, ground := Ground.phase }, { on := 2, ground := Ground.phase }, { on := 3, ground := Ground.phase }, { on := 4, ground := Ground.phase }, { on := 5, ground := Ground.phase }, { on := 6, ground := Ground.phase }, { on := 7, ground := Ground.phase }, { on := 8, ground := Ground.phase }, { on := 9, ground := Ground.phase }, { on := 10, ground := Ground.phase }, { on := 11, ground := Ground.phase }, { on := 12, ground := Ground.phase }], guard := none }) (v := ?va13) rfl (by kernel_rfl) (by kernel_rfl) (by kernel_rfl) (fun _ _ _ h => h) (Or.inl ⟨by rfl, ?hy13⟩) ?_
              case hy13 => (intro w'; go_simp; try with_reducible rfl)
              try simp only [Act.put, List.setIfInBounds_toArray, List.set_cons_zero, List.set_cons_succ]
              refine wpAny_ready (rs := [15]) (by kernel_rfl) (by simp) ?_
              refine AllReady.cons (o := { dst := none, op := Op.store 88 (Operand.tmp 62) (Operand.tmp 60), type := 0, pos := "order.go:43", after := #[{ on := 14, ground := Ground.data }, { on := 12, ground := Ground.data }, { on := 12, ground := Ground.chain }, { on := 0, ground := Ground.phase }, { on := 1, ground := Ground.phase }, { on := 2, ground := Ground.phase }, { on := 3, ground := Ground.phase }, { on := 4, ground := Ground.phase }, { on := 5, ground := Ground.phase }, { on := 6, ground := Ground.phase }, { on := 7, ground := Ground.phase }, { on := 8, ground := Ground.phase }, { on := 9, ground := Ground.phase }, { on := 10, ground := Ground.phase }, { on := 11, ground := Ground.phase }, { on := 12, ground := Ground.phase }], guard := none }) rfl (fun K hK => ?_) AllReady.nil
              go_simp
              refine hK _ _ ?_
              clear hK K
              try simp only [Act.put, List.setIfInBounds_toArray, List.set_cons_zero, List.set_cons_succ]
              refine wpAny_done (by kernel_rfl) ?_ _
              go_wp2_with fail
              go_ret
              exact ⟨by rw [HO.out]; rfl, HFIN.out HN.out HR.out⟩
            · refine AllReady.cons (o := { dst := some 59, op := Op.buildSlice 88 1 #[(0, Operand.tmp 58)], type := 88, pos := "order.go:43", after := #[{ on := 10, ground := Ground.data }], guard := none }) rfl (fun K hK => ?_) AllReady.nil
              go_simp
              refine hK _ _ ?_
              clear hK K
              try simp only [Act.put, List.setIfInBounds_toArray, List.set_cons_zero, List.set_cons_succ]
              refine wpAny_ready (rs := [4]) (by kernel_rfl) (by simp) ?_
              refine AllReady.cons (o := { dst := some 52, op := Op.load 88 (Operand.tmp 51), type := 88, pos := "order.go:43", after := #[{ on := 3, ground := Ground.data }], guard := none }) rfl (fun K hK => ?_) AllReady.nil
              go_simp
              refine hK _ _ ?_
              clear hK K
              try simp only [Act.put, List.setIfInBounds_toArray, List.set_cons_zero, List.set_cons_succ]
              refine wpAny_ready (rs := [12]) (by kernel_rfl) (by simp) ?_
              refine AllReady.cons (o := { dst := some 60, op := Op.call { callee := Callee.builtin Builtin.append, args := #[Operand.tmp 52, Operand.tmp 59], argTypes := #[88, 88] }, type := 88, pos := "order.go:43", after := #[{ on := 4, ground := Ground.data }, { on := 11, ground := Ground.data }], guard := none }) rfl (fun K hK => ?_) AllReady.nil
              refine step_append_rd rfl (.tmp 52) (.tmp 59) 88 rfl B 97 i0 (.complex .f64 0 0) 1 16 Try.underlying88 hi0 hz0 hz1 hz2 rfl (by decide) (.slice av xs.length cv) xs.length xs rfl HO2.out (some ⟨w.heap.size + 1, 0, none⟩) 1 1 [.complex .f64 (FloatKind.f64.nearest x.b) (FloatKind.f64.nearest k)] rfl HR2.out rfl HS2.out HM2.out HM3.out HM4.out ?_
              intro v4 w4 hown4 hgr4 hat4
              obtain ⟨a4, p4, rfl, _⟩ := own_slice hown4
              obtain ⟨c54, f54, l54⟩ := HC4.out w4 hgr4
              have HFIN := Lib.hid (HF4.out a4 p4 w4 hown4 hgr4 hat4)
              clear hown4 hgr4 hat4
              refine hK _ _ ?_
              clear hK K
              try simp only [Act.put, List.setIfInBounds_toArray, List.set_cons_zero, List.set_cons_succ]
              refine wpAny_take (i := 13) (oi := { dst := some 61, op := Op.nilCheck (Operand.tmp 48), type := 0, pos := "order.go:43", after := #[{ on := 0, ground := Ground.data }, { on := 0, ground := Ground.phase }, { on := 1, ground := Ground.phase }, { on := 2, ground := Ground.phase }, { on := 3, ground := Ground.phase }, { on := 4, ground := Ground.phase }, { on := 5, ground := Ground.phase }, { on := 6, ground := Ground.phase }, { on := 7, ground := Ground.phase }, { on := 8, ground := Ground.phase }, { on := 9, ground := Ground.phase }, { on := 10, ground := Ground.phase }, { on := 11, ground := Ground.phase }, { on := 12, ground := Ground.phase }], guard := none }) (v := ?va14) rfl (by kernel_rfl) (by kernel_rfl) (by kernel_rfl) (fun _ _ _ h => h) (Or.inl ⟨by rfl, ?hy14⟩) ?_
              case hy14 => (intro w'; go_simp; try with_reducible rfl)
              try simp only [Act.put, List.setIfInBounds_toArray, List.set_cons_zero, List.set_cons_succ]
              refine wpAny_take (i := 14) (oi := { dst := some 62, op := Op.fieldAddr 90 (Operand.tmp 61) 5, type := 0, pos := "order.go:43", after := #[{ on := 13, ground := Ground.data }, { on := 0, ground := Ground.phase }, { on := 1, ground := Ground.phase }, { on := 2, ground := Ground.phase }, { on := 3, ground := Ground.phase }, { on := 4, ground := Ground.phase }, { on := 5, ground := Ground.phase }, { on := 6, ground := Ground.phase }, { on := 7, ground := Ground.phase }, { on := 8, ground := Ground.phase }, { on := 9, ground := Ground.phase }, { on := 10, ground := Ground.phase }, { on := 11, ground := Ground.phase }, { on := 12, ground := Ground.phase }], guard := none }) (v := ?va15) rfl (by kernel_rfl) (by kernel_rfl) (by kernel_rfl) (fun _ _ _ h => h) (Or.inl ⟨by rfl, ?hy15⟩) ?_
              case hy15 => (intro w'; go_simp; try with_reducible rfl)
              try simp only [Act.put, List.setIfInBounds_toArray, List.set_cons_zero, List.set_cons_succ]
              refine wpAny_ready (rs := [15]) (by kernel_rfl) (by simp) ?_
              refine AllReady.cons (o := { dst := none, op := Op.store 88 (Operand.tmp 62) (Operand.tmp 60), type := 0, pos := "order.go:43", after := #[{ on := 14, ground := Ground.data }, { on := 12, ground := Ground.data }, { on := 12, ground := Ground.chain }, { on := 0, ground := Ground.phase }, { on := 1, ground := Ground.phase }, { on := 2, ground := Ground.phase }, { on := 3, ground := Ground.phase }, { on := 4, ground := Ground.phase }, { on := 5, ground := Ground.phase }, { on := 6, ground := Ground.phase }, { on := 7, ground := Ground.phase }, { on := 8, ground := Ground.phase }, { on := 9, ground := Ground.phase }, { on := 10, ground := Ground.phase }, { on := 11, ground := Ground.phase }, { on := 12, ground := Ground.phase }], guard := none }) rfl (fun K hK => ?_) AllReady.nil
              go_simp
              refine hK _ _ ?_
              clear hK K
              try simp only [Act.put, List.setIfInBounds_toArray, List.set_cons_zero, List.set_cons_succ]
              refine wpAny_done (by kernel_rfl) ?_ _
              go_wp2_with fail
              go_ret
              exact ⟨by rw [HO.out]; rfl, HFIN.out HN.out HR.out⟩
      · have HO : Hid (okS x t = false) := by show _ = _; simp [okS, hk, hb, rwB, hc, h1]
        rw [hc] at c1
        clear hb
        have t0 : (x.k != 0) = true := by simp [hk]
        have t1 : (x.k == 0) = false := by simp [hk]
        have t2 : (x.k == 1) = false := by simp [hk]
        have t3 : (x.k == 2) = true := by simp [hk]
        have t4 : (x.k == 3) = false := by simp [hk]
        have t5 : (x.k == 4) = false := by simp [hk]
        have t6 : (x.k == 5) = false := by simp [hk]
        have HR : Hid (rwB x = true) := by show _ = _; simp [rwB, hk]
        have HN : Hid (t = nxt k x t) := by show _ = _; simp [nxt, hk]
        clear hk
        go_enter Try.func46, Try.ntmps46
        go_wp2_with fail
        refine wp_region_any (by kernel_rfl) ?_
        try (change wpAny _ _ _ _ _ _ _ (World.drew _))
        refine wpAny_take (i := 0) (oi := { dst := some 48, op := Op.move (Operand.tmp 0), type := 96, pos := "order.go:43", after := #[], guard := none }) (v := ?va1) rfl (by kernel_rfl) (by kernel_rfl) (by kernel_rfl) (fun _ _ _ h => h) (Or.inl ⟨by rfl, ?hy1⟩) ?_
        case hy1 => (intro w'; go_simp; try with_reducible rfl)
        try simp only [Act.put, List.setIfInBounds_toArray, List.set_cons_zero, List.set_cons_succ]
        refine wpAny_take (i := 1) (oi := { dst := some 49, op := Op.move (Operand.tmp 0), type := 96, pos := "order.go:43", after := #[], guard := none }) (v := ?va2) rfl (by kernel_rfl) (by kernel_rfl) (by kernel_rfl) (fun _ _ _ h => h) (Or.inl ⟨by rfl, ?hy2⟩) ?_
        case hy2 => (intro w'; go_simp; try with_reducible rfl)
        try simp only [Act.put, List.setIfInBounds_toArray, List.set_cons_zero, List.set_cons_succ]
        refine wpAny_take (i := 2) (oi := { dst := some 50, op := Op.nilCheck (Operand.tmp 49), type := 0, pos := "order.go:43", after := #[{ on := 1, ground := Ground.data }], guard := none }) (v := ?va3) rfl (by kernel_rfl) (by kernel_rfl) (by kernel_rfl) (fun _ _ _ h => h) (Or.inl ⟨by rfl, ?hy3⟩) ?_
        case hy3 => (intro w'; go_simp; try with_reducible rfl)
        try simp only [Act.put, List.setIfInBounds_toArray, List.set_cons_zero, List.set_cons_succ]
        refine wpAny_take (i := 3) (oi := { dst := some 51, op := Op.fieldAddr 90 (Operand.tmp 50) 5, type := 0, pos := "order.go:43", after := #[{ on := 2, ground := Ground.data }], guard := none }) (v := ?va4) rfl (by kernel_rfl) (by kernel_rfl) (by kernel_rfl) (fun _ _ _ h => h) (Or.inl ⟨by rfl, ?hy4⟩) ?_
        case hy4 => (intro w'; go_simp; try with_reducible rfl)
        try simp only [Act.put, List.setIfInBounds_toArray, List.set_cons_zero, List.set_cons_succ]
        refine wpAny_take (i := 5) (oi := { dst := some 53, op := Op.fieldAddr 36 (Operand.tmp 5) 2, type := 0, pos := "order.go:43", after := #[], guard := none }) (v := ?va5) rfl (by kernel_rfl) (by kernel_rfl) (by kernel_rfl) (fun _ _ _ h => h) (Or.inl ⟨by rfl, ?hy5⟩) ?_
        case hy5 => (intro w'; go_simp; try with_reducible rfl)
        try simp only [Act.put, List.setIfInBounds_toArray, List.set_cons_zero, List.set_cons_succ]
        refine wpAny_take (i := 8) (oi := { dst := some 56, op := Op.move (Operand.tmp 1), type := 3, pos := "order.go:43", after := #[], guard := none }) (v := ?va6) rfl (by kernel_rfl) (by kernel_rfl) (by kernel_rfl) (fun _ _ _ h => h) (Or.inl ⟨by rfl, ?hy6⟩) ?_
        case hy6 => (intro w'; go_simp; try with_reducible rfl)
        try simp only [Act.put, List.setIfInBounds_toArray, List.set_cons_zero, List.set_cons_succ]
        refine wpAny_take (i := 9) (oi := { dst := some 57, op := Op.convert 3 98 (Operand.tmp 56), type := 98, pos := "order.go:43", after := #[{ on := 8, ground := Ground.data }], guard := none }) (v := ?va7) rfl (by kernel_rfl) (by kernel_rfl) (by kernel_rfl) (fun _ _ _ h => h) (Or.inl ⟨by rfl, ?hy7⟩) ?_
        case hy7 => (intro w'; go_simp; try with_reducible rfl)
        try simp only [Act.put, List.setIfInBounds_toArray, List.set_cons_zero, List.set_cons_succ]
        refine wpAny_ready (rs := [4, 6]) (by kernel_rfl) (by simp) ?_
        refine AllReady.cons (o := { dst := some 52, op := Op.load 88 (Operand.tmp 51), type := 88, pos := "order.go:43", after := #[{ on := 3, ground := Ground.data }], guard := none }) rfl (fun K hK => ?_) ?_
        · go_simp
          refine hK _ _ ?_
          clear hK K
          try simp only [Act.put, List.setIfInBounds_toArray, List.set_cons_zero, List.set_cons_succ]
          refine wpAny_ready (rs := [6]) (by kernel_rfl) (by simp) ?_
          refine AllReady.cons (o := { dst := some 54, op := Op.load 3 (Operand.tmp 53), type := 3, pos := "order.go:43", after := #[{ on := 5, ground := Ground.data }], guard := none }) rfl (fun K hK => ?_) AllReady.nil
          go_simp
          refine hK _ _ ?_
          clear hK K
          try simp only [Act.put, List.setIfInBounds_toArray, List.set_cons_zero, List.set_cons_succ]
          refine wpAny_take (i := 7) (oi := { dst := some 55, op := Op.convert 3 98 (Operand.tmp 54), type := 98, pos := "order.go:43", after := #[{ on := 6, ground := Ground.data }], guard := none }) (v := ?va8) rfl (by kernel_rfl) (by kernel_rfl) (by kernel_rfl) (fun _ _ _ h => h) (Or.inl ⟨by rfl, ?hy8⟩) ?_
          case hy8 => (intro w'; go_simp; try with_reducible rfl)
          try simp only [Act.put, List.setIfInBounds_toArray, List.set_cons_zero, List.set_cons_succ]
          refine wpAny_take (i := 10) (oi := { dst := some 58, op := Op.call { callee := Callee.builtin Builtin.complex, args := #[Operand.tmp 55, Operand.tmp 57], argTypes := #[98, 98] }, type := 97, pos := "order.go:43", after := #[{ on := 7, ground := Ground.data }, { on := 9, ground := Ground.data }], guard := none }) (v := ?va9) rfl (by kernel_rfl) (by kernel_rfl) (by kernel_rfl) (fun _ _ _ h => h) (Or.inl ⟨by rfl, ?hy9⟩) ?_
          case hy9 => (intro w'; go_simp; try with_reducible rfl)
          try simp only [Act.put, List.setIfInBounds_toArray, List.set_cons_zero, List.set_cons_succ]
          refine wpAny_ready (rs := [11]) (by kernel_rfl) (by simp) ?_
          refine AllReady.cons (o := { dst := some 59, op := Op.buildSlice 88 1 #[(0, Operand.tmp 58)], type := 88, pos := "order.go:43", after := #[{ on := 10, ground := Ground.data }], guard := none }) rfl (fun K hK => ?_) AllReady.nil
          go_simp
          refine hK _ _ ?_
          clear hK K
          try simp only [Act.put, List.setIfInBounds_toArray, List.set_cons_zero, List.set_cons_succ]
          refine wpAny_ready (rs := [12]) (by kernel_rfl) (by simp) ?_
          refine AllReady.cons (o := { dst := some 60, op := Op.call { callee := Callee.builtin Builtin.append, args := #[Operand.tmp 52, Operand.tmp 59], argTypes := #[88, 88] }, type := 88, pos := "order.go:43", after := #[{ on := 4, ground := Ground.data }, { on := 11, ground := Ground.data }], guard := none }) rfl (fun K hK => ?_) AllReady.nil
          refine step_append_rd rfl (.tmp 52) (.tmp 59) 88 rfl B 97 i0 (.complex .f64 0 0) 1 16 Try.underlying88 hi0 hz0 hz1 hz2 rfl (by decide) (.slice av xs.length cv) xs.length xs rfl HO2.out (some ⟨w.heap.size + 1, 0, none⟩) 1 1 [.complex .f64 (FloatKind.f64.nearest x.b) (FloatKind.f64.nearest k)] rfl HR2.out rfl HS2.out HM2.out HM3.out HM4.out ?_
          intro v4 w4 hown4 hgr4 hat4
          obtain ⟨a4, p4, rfl, _⟩ := own_slice hown4
          obtain ⟨c54, f54, l54⟩ := HC4.out w4 hgr4
          have HFIN := Lib.hid (HF4.out a4 p4 w4 hown4 hgr4 hat4)
          clear hown4 hgr4 hat4
          refine hK _ _ ?_
          clear hK K
          try simp only [Act.put, List.setIfInBounds_toArray, List.set_cons_zero, List.set_cons_succ]
          refine wpAny_take (i := 13) (oi := { dst := some 61, op := Op.nilCheck (Operand.tmp 48), type := 0, pos := "order.go:43", after := #[{ on := 0, ground := Ground.data }, { on := 0, ground := Ground.phase }, { on := 1, ground := Ground.phase }, { on := 2, ground := Ground.phase }, { on := 3, ground := Ground.phase }, { on := 4, ground := Ground.phase }, { on := 5, ground := Ground.phase }, { on := 6, ground := Ground.phase }, { on := 7, ground := Ground.phase }, { on := 8, ground := Ground.phase }, { on := 9, ground := Ground.phase }, { on := 10, ground := Ground.phase }, { on := 11, ground := Ground.phase }, { on := 12, ground := Ground.phase }], guard := none }) (v := ?va10) rfl (by kernel_rfl) (by kernel_rfl) (by kernel_rfl) (fun _ _ _ h => h) (Or.inl ⟨by rfl, ?hy10⟩) ?_
          case hy10 => (intro w'; go_simp; try with_reducible rfl)
          try simp only [Act.put, List.setIfInBounds_toArray, List.set_cons_zero, List.set_cons_succ]
          refine wpAny_take (i := 14) (oi := { dst := some 62, op := Op.fieldAddr 90 (Operand.tmp 61) 5, type := 0, pos := "order.go:43", after := #[{ on := 13, ground := Ground.data }, { on := 0, ground := Ground.phase }, { on := 1, ground := Ground.phase }, { on := 2, ground := Ground.phase }, { on := 3, ground := Ground.phase }, { on := 4, ground := Ground.phase }, { on := 5, ground := Ground.phase }, { on := 6, ground := Ground.phase }, { on := 7, ground := Ground.phase }, { on := 8, ground := Ground.phase }, { on := 9, ground := Ground.phase }, { on := 10, ground := Ground.phase }, { on := 11, ground := Ground.phase }, { on := 12, ground := Ground.phase }], guard := none }) (v := ?va11) rfl (by kernel_rfl) (by kernel_rfl) (by kernel_rfl) (fun _ _ _ h => h) (Or.inl ⟨by rfl, ?hy11⟩) ?_
          case hy11 => (intro w'; go_simp; try with_reducible rfl)
          try simp only [Act.put, List.setIfInBounds_toArray, List.set_cons_zero, List.set_cons_succ]
          refine wpAny_ready (rs := [15]) (by kernel_rfl) (by simp) ?_
          refine AllReady.cons (o := { dst := none, op := Op.store 88 (Operand.tmp 62) (Operand.tmp 60), type := 0, pos := "order.go:43", after := #[{ on := 14, ground := Ground.data }, { on := 12, ground := Ground.data }, { on := 12, ground := Ground.chain }, { on := 0, ground := Ground.phase }, { on := 1, ground := Ground.phase }, { on := 2, ground := Ground.phase }, { on := 3, ground := Ground.phase }, { on := 4, ground := Ground.phase }, { on := 5, ground := Ground.phase }, { on := 6, ground := Ground.phase }, { on := 7, ground := Ground.phase }, { on := 8, ground := Ground.phase }, { on := 9, ground := Ground.phase }, { on := 10, ground := Ground.phase }, { on := 11, ground := Ground.phase }, { on := 12, ground := Ground.phase }], guard := none }) rfl (fun K hK => ?_) AllReady.nil
          go_simp
          refine hK _ _ ?_
          clear hK K
          try simp only [Act.put, List.setIfInBounds_toArray, List.set_cons_zero, List.set_cons_succ]
          refine wpAny_done (by kernel_rfl) ?_ _
          go_wp2_with fail
          go_ret
          exact ⟨by rw [HO.out]; rfl, HFIN.out HN.out HR.out⟩
        · refine AllReady.cons (o := { dst := some 54, op := Op.load 3 (Operand.tmp 53), type := 3, pos := "order.go:43", after := #[{ on := 5, ground := Ground.data }], guard := none }) rfl (fun K hK => ?_) AllReady.nil
          go_simp
          refine hK _ _ ?_
          clear hK K
          try simp only [Act.put, List.setIfInBounds_toArray, List.set_cons_zero, List.set_cons_succ]
          refine wpAny_take (i := 7) (oi := { dst := some 55, op := Op.convert 3 98 (Operand.tmp 54), type := 98, pos := "order.go:43", after := #[{ on := 6, ground := Ground.data }], guard := none }) (v := ?va16) rfl (by kernel_rfl) (by kernel_rfl) (by kernel_rfl) (fun _ _ _ h => h) (Or.inl ⟨by rfl, ?hy16⟩) ?_
          case hy16 => (intro w'; go_simp; try with_reducible rfl)
          try simp only [Act.put, List.setIfInBounds_toArray, List.set_cons_zero, List.set_cons_succ]
          refine wpAny_take (i := 10) (oi := { dst := some 58, op := Op.call { callee := Callee.builtin Builtin.complex, args := #[Operand.tmp 55, Operand.tmp 57], argTypes := #[98, 98] }, type := 97, pos := "order.go:43", after := #[{ on := 7, ground := Ground.data }, { on := 9, ground := Ground.data }], guard := none }) (v := ?va17) rfl (by kernel_rfl) (by kernel_rfl) (by kernel_rfl) (fun _ _ _ h => h) (Or.inl ⟨by rfl, ?hy17⟩) ?_
          case hy17 => (intro w'; go_simp; try with_reducible rfl)
          try simp only [Act.put, List.setIfInBounds_toArray, List.set_cons_zero, List.set_cons_succ]
          refine wpAny_ready (rs := [4, 11]) (by kernel_rfl) (by simp) ?_
          refine AllReady.cons (o := { dst := some 52, op := Op.load 88 (Operand.tmp 51), type := 88, pos := "order.go:43", after := #[{ on := 3, ground := Ground.data }], guard := none }) rfl (fun K hK => ?_) ?_
          · go_simp
            refine hK _ _ ?_
            clear hK K
            try simp only [Act.put, List.setIfInBounds_toArray, List.set_cons_zero, List.set_cons_succ]
            refine wpAny_ready (rs := [11]) (by kernel_rfl) (by simp) ?_
            refine AllReady.cons (o := { dst := some 59, op := Op.buildSlice 88 1 #[(0, Operand.tmp 58)], type := 88, pos := "order.go:43", after := #[{ on := 10, ground := Ground.data }], guard := none }) rfl (fun K hK => ?_) AllReady.nil
            go_simp
            refine hK _ _ ?_
            clear hK K
            try simp only [Act.put, List.setIfInBounds_toArray, List.set_cons_zero, List.set_cons_succ]
            refine wpAny_ready (rs := [12]) (by kernel_rfl) (by simp) ?_
            refine AllReady.cons (o := { dst := some 60, op := Op.call { callee := Callee.builtin Builtin.append, args := #[Operand.tmp 52, Operand.tmp 59], argTypes := #[88, 88] }, type := 88, pos := "order.go:43", after := #[{ on := 4, ground := Ground.data }, { on := 11, ground := Ground.data }], guard := none }) rfl (fun K hK => ?_) AllReady.nil
            refine step_append_rd rfl (.tmp 52) (.tmp 59) 88 rfl B 97 i0 (.complex .f64 0 0) 1 16 Try.underlying88 hi0 hz0 hz1 hz2 rfl (by decide) (.slice av xs.length cv) xs.length xs rfl HO2.out (some ⟨w.heap.size + 1, 0, none⟩) 1 1 [.complex .f64 (FloatKind.f64.nearest x.b) (FloatKind.f64.nearest k)] rfl HR2.out rfl HS2.out HM2.out HM3.out HM4.out ?_
            intro v4 w4 hown4 hgr4 hat4
            obtain ⟨a4, p4, rfl, _⟩ := own_slice hown4
            obtain ⟨c54, f54, l54⟩ := HC4.out w4 hgr4
            have HFIN := Lib.hid (HF4.out a4 p4 w4 hown4 hgr4 hat4)
            clear hown4 hgr4 hat4
            refine hK _ _ ?_
            clear hK K
            try simp only [Act.put, List.setIfInBounds_toArray, List.set_cons_zero, List.set_cons_succ]
            refine wpAny_take (i := 13) (oi := { dst := some 61, op := Op.nilCheck (Operand.tmp 48), type := 0, pos := "order.go:43", after := #[{ on := 0, ground := Ground.data }, { on := 0, ground := Ground.phase }, { on := 1, ground := Ground.phase }, { on := 2, ground := Ground.phase }, { on := 3, ground := Ground.phase }, { on := 4, ground := Ground.phase }, { on := 5, ground := Ground.phase }, { on := 6, ground := Ground.phase }, { on := 7, ground := Ground.phase }, { on := 8, ground := Ground.phase }, { on := 9, ground := Ground.phase }, { on := 10, ground := Ground.phase }, { on := 11, ground := Ground.phase }, { on := 12, ground := Ground.phase }], guard := none }) (v := ?va12) rfl (by kernel_rfl) (by kernel_rfl) (by kernel_rfl) (fun _ _ _ h => h) (Or.inl ⟨by rfl, ?hy12⟩) ?_
            case hy12 => (intro w'; go_simp; try with_reducible rfl)
            try simp only [Act.put, List.setIfInBounds_toArray, List.set_cons_zero, List.set_cons_succ]
            refine wpAny_take (i := 14) (oi := { dst := some 62, op := Op.fieldAddr 90 (Operand.tmp 61) 5, type := 0, pos := "order.go:43", after := #[{ on := 13, ground := Ground.data }, { on := 0, ground := Ground.phase }, { on := 1, ground := Ground.phase }, { on := 2, ground := Ground.phase }, { on := 3, ground := Ground.phase }, { on := 4, ground := Ground.phase }, { on := 5, ground := Ground.phase }, { on := 6, ground := Ground.phase }, { on := 7, ground := Ground.phase }, { on := 8, ground := Ground.phase }, { on := 9, ground := Ground.phase }, { on := 10, ground := Ground.phase }, { on := 11, ground := Ground.phase }, { on := 12, ground := Ground.phase }], guard := none }) (v := ?va13) rfl (by kernel_rfl) (by kernel_rfl) (by kernel_rfl) (fun _ _ _ h => h) (Or.inl ⟨by rfl, ?hy13⟩) ?_
            case hy13 => (intro w'; go_simp; try with_reducible rfl)
            try simp only [Act.put, List.setIfInBounds_toArray, List.set_cons_zero, List.set_cons_succ]
            refine wpAny_ready (rs := [15]) (by kernel_rfl) (by simp) ?_
            refine AllReady.cons (o := { dst := none, op := Op.store 88 (Operand.tmp 62) (Operand.tmp 60), type := 0, pos := "order.go:43", after := #[{ on := 14, ground := Ground.data }, { on := 12, ground := Ground.data }, { on := 12, ground := Ground.chain }, { on := 0, ground := Ground.phase }, { on := 1, ground := Ground.phase }, { on := 2, ground := Ground.phase }, { on := 3, ground := Ground.phase }, { on := 4, ground := Ground.phase }, { on := 5, ground := Ground.phase }, { on := 6, ground := Ground.phase }, { on := 7, ground := Ground.phase }, { on := 8, ground := Ground.phase }, { on := 9, ground := Ground.phase }, { on := 10, ground := Ground.phase }, { on := 11, ground := Ground.phase }, { on := 12, ground := Ground.phase }], guard := none }) rfl (fun K hK => ?_) AllReady.nil
            go_simp
            refine hK _ _ ?_
            clear hK K
            try simp only [Act.put, List.setIfInBounds_toArray, List.set_cons_zero, List.set_cons_succ]
            refine wpAny_done (by kernel_rfl) ?_ _
            go_wp2_with fail
            go_ret
            exact ⟨by rw [HO.out]; rfl, HFIN.out HN.out HR.out⟩
          · refine AllReady.cons (o := { dst := some 59, op := Op.buildSlice 88 1 #[(0, Operand.tmp 58)], type := 88, pos := "order.go:43", after := #[{ on := 10, ground := Ground.data }], guard := none }) rfl (fun K hK => ?_) AllReady.nil
            go_simp
            refine hK _ _ ?_
            clear hK K
            try simp only [Act.put, List.setIfInBounds_toArray, List.set_cons_zero, List.set_cons_succ]
            refine wpAny_ready (rs := [4]) (by kernel_rfl) (by simp) ?_
            refine AllReady.cons (o := { dst := some 52, op := Op.load 88 (Operand.tmp 51), type := 88, pos := "order.go:43", after := #[{ on := 3, ground := Ground.data }], guard := none }) rfl (fun K hK => ?_) AllReady.nil
            go_simp
            refine hK _ _ ?_
            clear hK K
            try simp only [Act.put, List.setIfInBounds_toArray, List.set_cons_zero, List.set_cons_succ]
            refine wpAny_ready (rs := [12]) (by kernel_rfl) (by simp) ?_
            refine AllReady.cons (o := { dst := some 60, op := Op.call { callee := Callee.builtin Builtin.append, args := #[Operand.tmp 52, Operand.tmp 59], argTypes := #[88, 88] }, type := 88, pos := "order.go:43", after := #[{ on := 4, ground := Ground.data }, { on := 11, ground := Ground.data }], guard := none }) rfl (fun K hK => ?_) AllReady.nil
            refine step_append_rd rfl (.tmp 52) (.tmp 59) 88 rfl B 97 i0 (.complex .f64 0 0) 1 16 Try.underlying88 hi0 hz0 hz1 hz2 rfl (by decide) (.slice av xs.length cv) xs.length xs rfl HO2.out (some ⟨w.heap.size + 1, 0, none⟩) 1 1 [.complex .f64 (FloatKind.f64.nearest x.b) (FloatKind.f64.nearest k)] rfl HR2.out rfl HS2.out HM2.out HM3.out HM4.out ?_
            intro v4 w4 hown4 hgr4 hat4
            obtain ⟨a4, p4, rfl, _⟩ := own_slice hown4
            obtain ⟨c54, f54, l54⟩ := HC4.out w4 hgr4
            have HFIN := Lib.hid (HF4.out a4 p4 w4 hown4 hgr4 hat4)
            clear hown4 hgr4 hat4
            refine hK _ _ ?_
            clear hK K
            try simp only [Act.put, List.setIfInBounds_toArray, List.set_cons_zero, List.set_cons_succ]
            refine wpAny_take (i := 13) (oi := { dst := some 61, op := Op.nilCheck (Operand.tmp 48), type := 0, pos := "order.go:43", after := #[{ on := 0, ground := Ground.data }, { on := 0, ground := Ground.phase }, { on := 1, ground := Ground.phase }, { on := 2, ground := Ground.phase }, { on := 3, ground := Ground.phase }, { on := 4, ground := Ground.phase }, { on := 5, ground := Ground.phase }, { on := 6, ground := Ground.phase }, { on := 7, ground := Ground.phase }, { on := 8, ground := Ground.phase }, { on := 9, ground := Ground.phase }, { on := 10, ground := Ground.phase }, { on := 11, ground := Ground.phase }, { on := 12, ground := Ground.phase }], guard := none }) (v := ?va14) rfl (by kernel_rfl) (by kernel_rfl) (by kernel_rfl) (fun _ _ _ h => h) (Or.inl ⟨by rfl, ?hy14⟩) ?_
            case hy14 => (intro w'; go_simp; try with_reducible rfl)
            try simp only [Act.put, List.setIfInBounds_toArray, List.set_cons_zero, List.set_cons_succ]
            refine wpAny_take (i := 14) (oi := { dst := some 62, op := Op.fieldAddr 90 (Operand.tmp 61) 5, type := 0, pos := "order.go:43", after := #[{ on := 13, ground := Ground.data }, { on := 0, ground := Ground.phase }, { on := 1, ground := Ground.phase }, { on := 2, ground := Ground.phase }, { on := 3, ground := Ground.phase }, { on := 4, ground := Ground.phase }, { on := 5, ground := Ground.phase }, { on := 6, ground := Ground.phase }, { on := 7, ground := Ground.phase }, { on := 8, ground := Ground.phase }, { on := 9, ground := Ground.phase }, { on := 10, ground := Ground.phase }, { on := 11, ground := Ground.phase }, { on := 12, ground := Ground.phase }], guard := none }) (v := ?va15) rfl (by kernel_rfl) (by kernel_rfl) (by kernel_rfl) (fun _ _ _ h => h) (Or.inl ⟨by rfl, ?hy15⟩) ?_
            case hy15 => (intro w'; go_simp; try with_reducible rfl)
            try simp only [Act.put, List.setIfInBounds_toArray, List.set_cons_zero, List.set_cons_succ]
            refine wpAny_ready (rs := [15]) (by kernel_rfl) (by simp) ?_
            refine AllReady.cons (o := { dst := none, op := Op.store 88 (Operand.tmp 62) (Operand.tmp 60), type := 0, pos := "order.go:43", after := #[{ on := 14, ground := Ground.data }, { on := 12, ground := Ground.data }, { on := 12, ground := Ground.chain }, { on := 0, ground := Ground.phase }, { on := 1, ground := Ground.phase }, { on := 2, ground := Ground.phase }, { on := 3, ground := Ground.phase }, { on := 4, ground := Ground.phase }, { on := 5, ground := Ground.phase }, { on := 6, ground := Ground.phase }, { on := 7, ground := Ground.phase }, { on := 8, ground := Ground.phase }, { on := 9, ground := Ground.phase }, { on := 10, ground := Ground.phase }, { on := 11, ground := Ground.phase }, { on := 12, ground := Ground.phase }], guard := none }) rfl (fun K hK => ?_) AllReady.nil
            go_simp
            refine hK _ _ ?_
            clear hK K
            try simp only [Act.put, List.setIfInBounds_toArray, List.set_cons_zero, List.set_cons_succ]
            refine wpAny_done (by kernel_rfl) ?_ _
            go_wp2_with fail
            go_ret
            exact ⟨by rw [HO.out]; rfl, HFIN.out HN.out HR.out⟩
    · have HO : Hid (okS x t = false) := by show _ = _; simp [okS, hk, hb, rwB, hc]
      rw [hc] at c1
      clear hb
      have t0 : (x.k != 0) = true := by simp [hk]
      have t1 : (x.k == 0) = false := by simp [hk]
      have t2 : (x.k == 1) = false := by simp [hk]
      have t3 : (x.k == 2) = true := by simp [hk]
      have t4 : (x.k == 3) = false := by simp [hk]
      have t5 : (x.k == 4) = false := by simp [hk]
      have t6 : (x.k == 5) = false := by simp [hk]
      have HR : Hid (rwB x = true) := by show _ = _; simp [rwB, hk]
      have HN : Hid (t = nxt k x t) := by show _ = _; simp [nxt, hk]
      clear hk
      go_enter Try.func46, Try.ntmps46
      go_wp2_with fail
      refine wp_region_any (by kernel_rfl) ?_
      try (change wpAny _ _ _ _ _ _ _ (World.drew _))
      refine wpAny_take (i := 0) (oi := { dst := some 48, op := Op.move (Operand.tmp 0), type := 96, pos := "order.go:43", after := #[], guard := none }) (v := ?va1) rfl (by kernel_rfl) (by kernel_rfl) (by kernel_rfl) (fun _ _ _ h => h) (Or.inl ⟨by rfl, ?hy1⟩) ?_
      case hy1 => (intro w'; go_simp; try with_reducible rfl)
      try simp only [Act.put, List.setIfInBounds_toArray, List.set_cons_zero, List.set_cons_succ]
      refine wpAny_take (i := 1) (oi := { dst := some 49, op := Op.move (Operand.tmp 0), type := 96, pos := "order.go:43", after := #[], guard := none }) (v := ?va2) rfl (by kernel_rfl) (by kernel_rfl) (by kernel_rfl) (fun _ _ _ h => h) (Or.inl ⟨by rfl, ?hy2⟩) ?_
      case hy2 => (intro w'; go_simp; try with_reducible rfl)
      try simp only [Act.put, List.setIfInBounds_toArray, List.set_cons_zero, List.set_cons_succ]
      refine wpAny_take (i := 2) (oi := { dst := some 50, op := Op.nilCheck (Operand.tmp 49), type := 0, pos := "order.go:43", after := #[{ on := 1, ground := Ground.data }], guard := none }) (v := ?va3) rfl (by kernel_rfl) (by kernel_rfl) (by kernel_rfl) (fun _ _ _ h => h) (Or.inl ⟨by rfl, ?hy3⟩) ?_
      case hy3 => (intro w'; go_simp; try with_reducible rfl)
      try simp only [Act.put, List.setIfInBounds_toArray, List.set_cons_zero, List.set_cons_succ]
      refine wpAny_take (i := 3) (oi := { dst := some 51, op := Op.fieldAddr 90 (Operand.tmp 50) 5, type := 0, pos := "order.go:43", after := #[{ on := 2, ground := Ground.data }], guard := none }) (v := ?va4) rfl (by kernel_rfl) (by kernel_rfl) (by kernel_rfl) (fun _ _ _ h => h) (Or.inl ⟨by rfl, ?hy4⟩) ?_
      case hy4 => (intro w'; go_simp; try with_reducible rfl)
      try simp only [Act.put, List.setIfInBounds_toArray, List.set_cons_zero, List.set_cons_succ]
      refine wpAny_take (i := 5) (oi := { dst := some 53, op := Op.fieldAddr 36 (Operand.tmp 5) 2, type := 0, pos := "order.go:43", after := #[], guard := none }) (v := ?va5) rfl (by kernel_rfl) (by kernel_rfl) (by kernel_rfl) (fun _ _ _ h => h) (Or.inl ⟨by rfl, ?hy5⟩) ?_
      case hy5 => (intro w'; go_simp; try with_reducible rfl)
      try simp only [Act.put, List.setIfInBounds_toArray, List.set_cons_zero, List.set_cons_succ]
      refine wpAny_take (i := 8) (oi := { dst := some 56, op := Op.move (Operand.tmp 1), type := 3, pos := "order.go:43", after := #[], guard := none }) (v := ?va6) rfl (by kernel_rfl) (by kernel_rfl) (by kernel_rfl) (fun _ _ _ h => h) (Or.inl ⟨by rfl, ?hy6⟩) ?_
      case hy6 => (intro w'; go_simp; try with_reducible rfl)
      try simp only [Act.put, List.setIfInBounds_toArray, List.set_cons_zero, List.set_cons_succ]
      refine wpAny_take (i := 9) (oi := { dst := some 57, op := Op.convert 3 98 (Operand.tmp 56), type := 98, pos := "order.go:43", after := #[{ on := 8, ground := Ground.data }], guard := none }) (v := ?va7) rfl (by kernel_rfl) (by kernel_rfl) (by kernel_rfl) (fun _ _ _ h => h) (Or.inl ⟨by rfl, ?hy7⟩) ?_
      case hy7 => (intro w'; go_simp; try with_reducible rfl)
      try simp only [Act.put, List.setIfInBounds_toArray, List.set_cons_zero, List.set_cons_succ]
      refine wpAny_ready (rs := [4, 6]) (by kernel_rfl) (by simp) ?_
      refine AllReady.cons (o := { dst := some 52, op := Op.load 88 (Operand.tmp 51), type := 88, pos := "order.go:43", after := #[{ on := 3, ground := Ground.data }], guard := none }) rfl (fun K hK => ?_) ?_
      · go_simp
        refine hK _ _ ?_
        clear hK K
        try simp only [Act.put, List.setIfInBounds_toArray, List.set_cons_zero, List.set_cons_succ]
        refine wpAny_ready (rs := [6]) (by kernel_rfl) (by simp) ?_
        refine AllReady.cons (o := { dst := some 54, op := Op.load 3 (Operand.tmp 53), type := 3, pos := "order.go:43", after := #[{ on := 5, ground := Ground.data }], guard := none }) rfl (fun K hK => ?_) AllReady.nil
        go_simp
        refine hK _ _ ?_
        clear hK K
        try simp only [Act.put, List.setIfInBounds_toArray, List.set_cons_zero, List.set_cons_succ]
        refine wpAny_take (i := 7) (oi := { dst := some 55, op := Op.convert 3 98 (Operand.tmp 54), type := 98, pos := "order.go:43", after := #[{ on := 6, ground := Ground.data }], guard := none }) (v := ?va8) rfl (by kernel_rfl) (by kernel_rfl) (by kernel_rfl) (fun _ _ _ h => h) (Or.inl ⟨by rfl, ?hy8⟩) ?_
        case hy8 => (intro w'; go_simp; try with_reducible rfl)
        try simp only [Act.put, List.setIfInBounds_toArray, List.set_cons_zero, List.set_cons_succ]
        refine wpAny_take (i := 10) (oi := { dst := some 58, op := Op.call { callee := Callee.builtin Builtin.complex, args := #[Operand.tmp 55, Operand.tmp 57], argTypes := #[98, 98] }, type := 97, pos := "order.go:43", after := #[{ on := 7, ground := Ground.data }, { on := 9, ground := Ground.data }], guard := none }) (v := ?va9) rfl (by kernel_rfl) (by kernel_rfl) (by kernel_rfl) (fun _ _ _ h => h) (Or.inl ⟨by rfl, ?hy9⟩) ?_
        case hy9 => (intro w'; go_simp; try with_reducible rfl)
        try simp only [Act.put, List.setIfInBounds_toArray, List.set_cons_zero, List.set_cons_succ]
        refine wpAny_ready (rs := [11]) (by kernel_rfl) (by simp) ?_
        refine AllReady.cons (o := { dst := some 59, op := Op.buildSlice 88 1 #[(0, Operand.tmp 58)], type := 88, pos := "order.go:43", after := #[{ on := 10, ground := Ground.data }], guard := none }) rfl (fun K hK => ?_) AllReady.nil
        go_simp
        refine hK _ _ ?_
        clear hK K
        try simp only [Act.put, List.setIfInBounds_toArray, List.set_cons_zero, List.set_cons_succ]
        refine wpAny_ready (rs := [12]) (by kernel_rfl) (by simp) ?_
        refine AllReady.cons (o := { dst := some 60, op := Op.call { callee := Callee.builtin Builtin.append, args := #[Operand.tmp 52, Operand.tmp 59], argTypes := #[88, 88] }, type := 88, pos := "order.go:43", after := #[{ on := 4, ground := Ground.data }, { on := 11, ground := Ground.data }], guard := none }) rfl (fun K hK => ?_) AllReady.nil
        refine step_append_rd rfl (.tmp 52) (.tmp 59) 88 rfl B 97 i0 (.complex .f64 0 0) 1 16 Try.underlying88 hi0 hz0 hz1 hz2 rfl (by decide) (.slice av xs.length cv) xs.length xs rfl HO2.out (some ⟨w.heap.size + 1, 0, none⟩) 1 1 [.complex .f64 (FloatKind.f64.nearest x.b) (FloatKind.f64.nearest k)] rfl HR2.out rfl HS2.out HM2.out HM3.out HM4.out ?_
        intro v4 w4 hown4 hgr4 hat4
        obtain ⟨a4, p4, rfl, _⟩ := own_slice hown4
        obtain ⟨c54, f54, l54⟩ := HC4.out w4 hgr4
        have HFIN := Lib.hid (HF4.out a4 p4 w4 hown4 hgr4 hat4)
        clear hown4 hgr4 hat4
        refine hK _ _ ?_
        clear hK K
        try simp only [Act.put, List.setIfInBounds_toArray, List.set_cons_zero, List.set_cons_succ]
        refine wpAny_take (i := 13) (oi := { dst := some 61, op := Op.nilCheck (Operand.tmp 48), type := 0, pos := "order.go:43", after := #[{ on := 0, ground := Ground.data }, { on := 0, ground := Ground.phase }, { on := 1, ground := Ground.phase }, { on := 2, ground := Ground.phase }, { on := 3, ground := Ground.phase }, { on := 4, ground := Ground.phase }, { on := 5, ground := Ground.phase }, { on := 6, ground := Ground.phase }, { on := 7, ground := Ground.phase }, { on := 8, ground := Ground.phase }, { on := 9, ground := Ground.phase }, { on := 10, ground := Ground.phase }, { on := 11, ground := Ground.phase }, { on := 12, ground := Ground.phase }], guard := none }) (v := ?va10) rfl (by kernel_rfl) (by kernel_rfl) (by kernel_rfl) (fun _ _ _ h => h) (Or.inl ⟨by rfl, ?hy10⟩) ?_
        case hy10 => (intro w'; go_simp; try with_reducible rfl)
        try simp only [Act.put, List.setIfInBounds_toArray, List.set_cons_zero, List.set_cons_succ]
        refine wpAny_take (i := 14) (oi := { dst := some 62, op := Op.fieldAddr 90 (Operand.tmp 61) 5, type := 0, pos := "order.go:43", after := #[{ on := 13, ground := Ground.data }, { on := 0, ground := Ground.phase }, { on := 1, ground := Ground.phase }, { on := 2, ground := Ground.phase }, { on := 3, ground := Ground.phase }, { on := 4, ground := Ground.phase }, { on := 5, ground := Ground.phase }, { on := 6, ground := Ground.phase }, { on := 7, ground := Ground.phase }, { on := 8, ground := Ground.phase }, { on := 9, ground := Ground.phase }, { on := 10, ground := Ground.phase }, { on := 11, ground := Ground.phase }, { on := 12, ground := Ground.phase }], guard := none }) (v := ?va11) rfl (by kernel_rfl) (by kernel_rfl) (by kernel_rfl) (fun _ _ _ h => h) (Or.inl ⟨by rfl, ?hy11⟩) ?_
        case hy11 => (intro w'; go_simp; try with_reducible rfl)
        try simp only [Act.put, List.setIfInBounds_toArray, List.set_cons_zero, List.set_cons_succ]
        refine wpAny_ready (rs := [15]) (by kernel_rfl) (by simp) ?_
        refine AllReady.cons (o := { dst := none, op := Op.store 88 (Operand.tmp 62) (Operand.tmp 60), type := 0, pos := "order.go:43", after := #[{ on := 14, ground := Ground.data }, { on := 12, ground := Ground.data }, { on := 12, ground := Ground.chain }, { on := 0, ground := Ground.phase }, { on := 1, ground := Ground.phase }, { on := 2, ground := Ground.phase }, { on := 3, ground := Ground.phase }, { on := 4, ground := Ground.phase }, { on := 5, ground := Ground.phase }, { on := 6, ground := Ground.phase }, { on := 7, ground := Ground.phase }, { on := 8, ground := Ground.phase }, { on := 9, ground := Ground.phase }, { on := 10, ground := Ground.phase }, { on := 11, ground := Ground.phase }, { on := 12, ground := Ground.phase }], guard := none }) rfl (fun K hK => ?_) AllReady.nil
        go_simp
        refine hK _ _ ?_
        clear hK K
        try simp only [Act.put, List.setIfInBounds_toArray, List.set_cons_zero, List.set_cons_succ]
        refine wpAny_done (by kernel_rfl) ?_ _
        go_wp2_with fail
        go_ret
        exact ⟨by rw [HO.out]; rfl, HFIN.out HN.out HR.out⟩
      · refine AllReady.cons (o := { dst := some 54, op := Op.load 3 (Operand.tmp 53), type := 3, pos := "order.go:43", after := #[{ on := 5, ground := Ground.data }], guard := none }) rfl (fun K hK => ?_) AllReady.nil
        go_simp
        refine hK _ _ ?_
        clear hK K
        try simp only [Act.put, List.setIfInBounds_toArray, List.set_cons_zero, List.set_cons_succ]
        refine wpAny_take (i := 7) (oi := { dst := some 55, op := Op.convert 3 98 (Operand.tmp 54), type := 98, pos := "order.go:43", after := #[{ on := 6, ground := Ground.data }], guard := none }) (v := ?va16) rfl (by kernel_rfl) (by kernel_rfl) (by kernel_rfl) (fun _ _ _ h => h) (Or.inl ⟨by rfl, ?hy16⟩) ?_
        case hy16 => (intro w'; go_simp; try with_reducible rfl)
        try simp only [Act.put, List.setIfInBounds_toArray, List.set_cons_zero, List.set_cons_succ]
        refine wpAny_take (i := 10) (oi := { dst := some 58, op := Op.call { callee := Callee.builtin Builtin.complex, args := #[Operand.tmp 55, Operand.tmp 57], argTypes := #[98, 98] }, type := 97, pos := "order.go:43", after := #[{ on := 7, ground := Ground.data }, { on := 9, ground := Ground.data }], guard := none }) (v := ?va17) rfl (by kernel_rfl) (by kernel_rfl) (by kernel_rfl) (fun _ _ _ h => h) (Or.inl ⟨by rfl, ?hy17⟩) ?_
        case hy17 => (intro w'; go_simp; try with_reducible rfl)
        try simp only [Act.put, List.setIfInBounds_toArray, List.set_cons_zero, List.set_cons_succ]
        refine wpAny_ready (rs := [4, 11]) (by kernel_rfl) (by simp) ?_
        refine AllReady.cons (o := { dst := some 52, op := Op.load 88 (Operand.tmp 51), type := 88, pos := "order.go:43", after := #[{ on := 3, ground := Ground.data }], guard := none }) rfl (fun K hK => ?_) ?_
        · go_simp
          refine hK _ _ ?_
          clear hK K
          try simp only [Act.put, List.setIfInBounds_toArray, List.set_cons_zero, List.set_cons_succ]
          refine wpAny_ready (rs := [11]) (by kernel_rfl) (by simp) ?_
          refine AllReady.cons (o := { dst := some 59, op := Op.buildSlice 88 1 #[(0, Operand.tmp 58)], type := 88, pos := "order.go:43", after := #[{ on := 10, ground := Ground.data }], guard := none }) rfl (fun K hK => ?_) AllReady.nil
          go_simp
          refine hK _ _ ?_
          clear hK K
          try simp only [Act.put, List.setIfInBounds_toArray, List.set_cons_zero, List.set_cons_succ]
          refine wpAny_ready (rs := [12]) (by kernel_rfl) (by simp) ?_
          refine AllReady.cons (o := { dst := some 60, op := Op.call { callee := Callee.builtin Builtin.append, args := #[Operand.tmp 52, Operand.tmp 59], argTypes := #[88, 88] }, type := 88, pos := "order.go:43", after := #[{ on := 4, ground := Ground.data }, { on := 11, ground := Ground.data }], guard := none }) rfl (fun K hK => ?_) AllReady.nil
          refine step_append_rd rfl (.tmp 52) (.tmp 59) 88 rfl B 97 i0 (.complex .f64 0 0) 1 16 Try.underlying88 hi0 hz0 hz1 hz2 rfl (by decide) (.slice av xs.length cv) xs.length xs rfl HO2.out (some ⟨w.heap.size + 1, 0, none⟩) 1 1 [.complex .f64 (FloatKind.f64.nearest x.b) (FloatKind.f64.nearest k)] rfl HR2.out rfl HS2.out HM2.out HM3.out HM4.out ?_
          intro v4 w4 hown4 hgr4 hat4
          obtain ⟨a4, p4, rfl, _⟩ := own_slice hown4
          obtain ⟨c54, f54, l54⟩ := HC4.out w4 hgr4
          have HFIN := Lib.hid (HF4.out a4 p4 w4 hown4 hgr4 hat4)
          clear hown4 hgr4 hat4
          refine hK _ _ ?_
          clear hK K
          try simp only [Act.put, List.setIfInBounds_toArray, List.set_cons_zero, List.set_cons_succ]
          refine wpAny_take (i := 13) (oi := { dst := some 61, op := Op.nilCheck (Operand.tmp 48), type := 0, pos := "order.go:43", after := #[{ on := 0, ground := Ground.data }, { on := 0, ground := Ground.phase }, { on := 1, ground := Ground.phase }, { on := 2, ground := Ground.phase }, { on := 3, ground := Ground.phase }, { on := 4, ground := Ground.phase }, { on := 5, ground := Ground.phase }, { on := 6, ground := Ground.phase }, { on := 7, ground := Ground.phase }, { on := 8, ground := Ground.phase }, { on := 9, ground := Ground.phase }, { on := 10, ground := Ground.phase }, { on := 11, ground := Ground.phase }, { on := 12, ground := Ground.phase }], guard := none }) (v := ?va12) rfl (by kernel_rfl) (by kernel_rfl) (by kernel_rfl) (fun _ _ _ h => h) (Or.inl ⟨by rfl, ?hy12⟩) ?_
          case hy12 => (intro w'; go_simp; try with_reducible rfl)
          try simp only [Act.put, List.setIfInBounds_toArray, List.set_cons_zero, List.set_cons_succ]
          refine wpAny_take (i := 14) (oi := { dst := some 62, op := Op.fieldAddr 90 (Operand.tmp 61) 5, type := 0, pos := "order.go:43", after := #[{ on := 13, ground := Ground.data }, { on := 0, ground := Ground.phase }, { on := 1, ground := Ground.phase }, { on := 2, ground := Ground.phase }, { on := 3, ground := Ground.phase }, { on := 4, ground := Ground.phase }, { on := 5, ground := Ground.phase }, { on := 6, ground := Ground.phase }, { on := 7, ground := Ground.phase }, { on := 8, ground := Ground.phase }, { on := 9, ground := Ground.phase }, { on := 10, ground := Ground.phase }, { on := 11, ground := Ground.phase }, { on := 12, ground := Ground.phase }], guard := none }) (v := ?va13) rfl (by kernel_rfl) (by kernel_rfl) (by kernel_rfl) (fun _ _ _ h => h) (Or.inl ⟨by rfl, ?hy13⟩) ?_
          case hy13 => (intro w'; go_simp; try with_reducible rfl)
          try simp only [Act.put, List.setIfInBounds_toArray, List.set_cons_zero, List.set_cons_succ]
          refine wpAny_ready (rs := [15]) (by kernel_rfl) (by simp) ?_
          refine AllReady.cons (o := { dst := none, op := Op.store 88 (Operand.tmp 62) (Operand.tmp 60), type := 0, pos := "order.go:43", after := #[{ on := 14, ground := Ground.data }, { on := 12, ground := Ground.data }, { on := 12, ground := Ground.chain }, { on := 0, ground := Ground.phase }, { on := 1, ground := Ground.phase }, { on := 2, ground := Ground.phase }, { on := 3, ground := Ground.phase }, { on := 4, ground := Ground.phase }, { on := 5, ground := Ground.phase }, { on := 6, ground := Ground.phase }, { on := 7, ground := Ground.phase }, { on := 8, ground := Ground.phase }, { on := 9, ground := Ground.phase }, { on := 10, ground := Ground.phase }, { on := 11, ground := Ground.phase }, { on := 12, ground := Ground.phase }], guard := none }) rfl (fun K hK => ?_) AllReady.nil
          go_simp
          refine hK _ _ ?_
          clear hK K
          try simp only [Act.put, List.setIfInBounds_toArray, List.set_cons_zero, List.set_cons_succ]
          refine wpAny_done (by kernel_rfl) ?_ _
          go_wp2_with fail
          go_ret
          exact ⟨by rw [HO.out]; rfl, HFIN.out HN.out HR.out⟩
        · refine AllReady.cons (o := { dst := some 59, op := Op.buildSlice 88 1 #[(0, Operand.tmp 58)], type := 88, pos := "order.go:43", after := #[{ on := 10, ground := Ground.data }], guard := none }) rfl (fun K hK => ?_) AllReady.nil
          go_simp
          refine hK _ _ ?_
          clear hK K
          try simp only [Act.put, List.setIfInBounds_toArray, List.set_cons_zero, List.set_cons_succ]
          refine wpAny_ready (rs := [4]) (by kernel_rfl) (by simp) ?_
          refine AllReady.cons (o := { dst := some 52, op := Op.load 88 (Operand.tmp 51), type := 88, pos := "order.go:43", after := #[{ on := 3, ground := Ground.data }], guard := none }) rfl (fun K hK => ?_) AllReady.nil
          go_simp
          refine hK _ _ ?_
          clear hK K
          try simp only [Act.put, List.setIfInBounds_toArray, List.set_cons_zero, List.set_cons_succ]
          refine wpAny_ready (rs := [12]) (by kernel_rfl) (by simp) ?_
          refine AllReady.cons (o := { dst := some 60, op := Op.call { callee := Callee.builtin Builtin.append, args := #[Operand.tmp 52, Operand.tmp 59], argTypes := #[88, 88] }, type := 88, pos := "order.go:43", after := #[{ on := 4, ground := Ground.data }, { on := 11, ground := Ground.data }], guard := none }) rfl (fun K hK => ?_) AllReady.nil
          refine step_append_rd rfl (.tmp 52) (.tmp 59) 88 rfl B 97 i0 (.complex .f64 0 0) 1 16 Try.underlying88 hi0 hz0 hz1 hz2 rfl (by decide) (.slice av xs.length cv) xs.length xs rfl HO2.out (some ⟨w.heap.size + 1, 0, none⟩) 1 1 [.complex .f64 (FloatKind.f64.nearest x.b) (FloatKind.f64.nearest k)] rfl HR2.out rfl HS2.out HM2.out HM3.out HM4.out ?_
          intro v4 w4 hown4 hgr4 hat4
          obtain ⟨a4, p4, rfl, _⟩ := own_slice hown4
          obtain ⟨c54, f54, l54⟩ := HC4.out w4 hgr4
          have HFIN := Lib.hid (HF4.out a4 p4 w4 hown4 hgr4 hat4)
          clear hown4 hgr4 hat4
          refine hK _ _ ?_
          clear hK K
          try simp only [Act.put, List.setIfInBounds_toArray, List.set_cons_zero, List.set_cons_succ]
          refine wpAny_take (i := 13) (oi := { dst := some 61, op := Op.nilCheck (Operand.tmp 48), type := 0, pos := "order.go:43", after := #[{ on := 0, ground := Ground.data }, { on := 0, ground := Ground.phase }, { on := 1, ground := Ground.phase }, { on := 2, ground := Ground.phase }, { on := 3, ground := Ground.phase }, { on := 4, ground := Ground.phase }, { on := 5, ground := Ground.phase }, { on := 6, ground := Ground.phase }, { on := 7, ground := Ground.phase }, { on := 8, ground := Ground.phase }, { on := 9, ground := Ground.phase }, { on := 10, ground := Ground.phase }, { on := 11, ground := Ground.phase }, { on := 12, ground := Ground.phase }], guard := none }) (v := ?va14) rfl (by kernel_rfl) (by kernel_rfl) (by kernel_rfl) (fun _ _ _ h => h) (Or.inl ⟨by rfl, ?hy14⟩) ?_
          case hy14 => (intro w'; go_simp; try with_reducible rfl)
          try simp only [Act.put, List.setIfInBounds_toArray, List.set_cons_zero, List.set_cons_succ]
          refine wpAny_take (i := 14) (oi := { dst := some 62, op := Op.fieldAddr 90 (Operand.tmp 61) 5, type := 0, pos := "order.go:43", after := #[{ on := 13, ground := Ground.data }, { on := 0, ground := Ground.phase }, { on := 1, ground := Ground.phase }, { on := 2, ground := Ground.phase }, { on := 3, ground := Ground.phase }, { on := 4, ground := Ground.phase }, { on := 5, ground := Ground.phase }, { on := 6, ground := Ground.phase }, { on := 7, ground := Ground.phase }, { on := 8, ground := Ground.phase }, { on := 9, ground := Ground.phase }, { on := 10, ground := Ground.phase }, { on := 11, ground := Ground.phase }, { on := 12, ground := Ground.phase }], guard := none }) (v := ?va15) rfl (by kernel_rfl) (by kernel_rfl) (by kernel_rfl) (fun _ _ _ h => h) (Or.inl ⟨by rfl, ?hy15⟩) ?_
          case hy15 => (intro w'; go_simp; try with_reducible rfl)
          try simp only [Act.put, List.setIfInBounds_toArray, List.set_cons_zero, List.set_cons_succ]
          refine wpAny_ready (rs := [15]) (by kernel_rfl) (by simp) ?_
          refine AllReady.cons (o := { dst := none, op := Op.store 88 (Operand.tmp 62) (Operand.tmp 60), type := 0, pos := "order.go:43", after := #[{ on := 14, ground := Ground.data }, { on := 12, ground := Ground.data }, { on := 12, ground := Ground.chain }, { on := 0, ground := Ground.phase }, { on := 1, ground := Ground.phase }, { on := 2, ground := Ground.phase }, { on := 3, ground := Ground.phase }, { on := 4, ground := Ground.phase }, { on := 5, ground := Ground.phase }, { on := 6, ground := Ground.phase }, { on := 7, ground := Ground.phase }, { on := 8, ground := Ground.phase }, { on := 9, ground := Ground.phase }, { on := 10, ground := Ground.phase }, { on := 11, ground := Ground.phase }, { on := 12, ground := Ground.phase }], guard := none }) rfl (fun K hK => ?_) AllReady.nil
          go_simp
          refine hK _ _ ?_
          clear hK K
          try simp only [Act.put, List.setIfInBounds_toArray, List.set_cons_zero, List.set_cons_succ]
          refine wpAny_done (by kernel_rfl) ?_ _
          go_wp2_with fail
          go_ret
          exact ⟨by rw [HO.out]; rfl, HFIN.out HN.out HR.out⟩
set_option maxRecDepth 100000 in
set_option maxHeartbeats 16000000 in
theorem step_any (g B : Nat) (t : Tk) (v : Value) (xs : List Value) (x : Sn) (k : Nat) (w : World) (hg : At w g 90 (t.cs v)) (hv : w.ownsRow B 97 1 v xs.length xs) (hB : B ≤ w.heap.size) (hxs : xs.length ≤ 1000000) :
    Calls Try.prog 46 #[.pointer (some ⟨g, 0, none⟩), .int .i64 (k : Int), .agg x.cs.toArray] w fun e w' => e = .returned (.bool (okS x t)) ∧ Stp w g B t v xs x k w' := by
  have c0 : w.cell? ⟨g, 0, none⟩ = some (.bool t.b) := hg.cell 0
  have c1 : w.cell? ⟨g, 1, none⟩ = some (.bool t.c) := hg.cell 1
  have c2 : w.cell? ⟨g, 2, none⟩ = some (.bool t.a) := hg.cell 2
  have c3 : w.cell? ⟨g, 3, none⟩ = some (.bool t.d) := hg.cell 3
  have c4 : w.cell? ⟨g, 4, none⟩ = some (.int .i64 t.p) := hg.cell 4
  have c5 : w.cell? ⟨g, 5, none⟩ = some v := hg.cell 5
  have f0 := hg.frozen 0
  have f1 := hg.frozen 1
  have f2 := hg.frozen 2
  have f3 := hg.frozen 3
  have f4 := hg.frozen 4
  have f5 := hg.frozen 5
  have hlt := hg.lt
  have HG := Lib.hid hg
  have HV := Lib.hid hv
  have HB := Lib.hid hB
  have HX := Lib.hid hxs
  clear hg hv hB hxs
  unfold Sn.cs
  by_cases hk0 : x.k = 0
  · have HR : Hid (rwB x = false) := by show _ = _; simp [rwB, hk0]
    have HN : Hid ((t.cs v).setIfInBounds 0 (.bool true) = (nxt k x t).cs v) := by show _ = _; simp [nxt, hk0, Tk.cs]
    have t0 : (x.k != 0) = false := by simp [hk0]
    have t1 : (x.k == 0) = true := by simp [hk0]
    have t2 : (x.k == 1) = false := by simp [hk0]
    have t3 : (x.k == 2) = false := by simp [hk0]
    have t4 : (x.k == 3) = false := by simp [hk0]
    have t5 : (x.k == 4) = false := by simp [hk0]
    have t6 : (x.k == 5) = false := by simp [hk0]
    cases hb : t.b
    · have HO : Hid (okS x t = true) := by show _ = _; simp [okS, hk0, hb]
      rw [hb] at c0
      clear c4 hb hk0
      go_enter Try.func46, Try.ntmps46
      go_wp2_with fail
      go_ret
      exact ⟨by rw [HO.out]; rfl, stp_one HG.out HV.out HR.out _ 0 _ HN.out⟩
    · have HO : Hid (okS x t = false) := by show _ = _; simp [okS, hk0, hb]
      rw [hb] at c0
      clear c4 hb hk0
      go_enter Try.func46, Try.ntmps46
      go_wp2_with fail
      go_ret
      exact ⟨by rw [HO.out]; rfl, stp_one HG.out HV.out HR.out _ 0 _ HN.out⟩
  · have t0 : (x.k != 0) = true := by simp [hk0]
    have t1 : (x.k == 0) = false := by simp [hk0]
    cases hb : t.b
    · have HO : Hid (okS x t = false) := by show _ = _; simp [okS, hk0, hb]
      rw [hb] at c0
      clear c4 hb hk0
      go_enter Try.func46, Try.ntmps46
      go_wp2_with fail
      go_ret
      exact ⟨by rw [HO.out]; rfl, stp_none HG.out HV.out HO.out _⟩
    · rw [hb] at c0
      by_cases hk3 : x.k = 3
      · have HR : Hid (rwB x = false) := by show _ = _; simp [rwB, hk3]
        have HN : Hid (((t.cs v).setIfInBounds 1 (.bool true)).setIfInBounds 4 (.int .i64 (k : Int)) = (nxt k x t).cs v) := by show _ = _; simp [nxt, hk3, Tk.cs]
        clear t0 t1
        have t0 : (x.k != 0) = true := by simp [hk3]
        have t1 : (x.k == 0) = false := by simp [hk3]
        have t2 : (x.k == 1) = false := by simp [hk3]
        have t3 : (x.k == 2) = false := by simp [hk3]
        have t4 : (x.k == 3) = true := by simp [hk3]
        have t5 : (x.k == 4) = false := by simp [hk3]
        have t6 : (x.k == 5) = false := by simp [hk3]
        cases hc : t.c
        · have HO : Hid (okS x t = true) := by show _ = _; simp [okS, hk3, hb, hc, rwB]
          rw [hc] at c1
          clear hb hk0
          go_enter Try.func46, Try.ntmps46
          go_wp2_with fail
          go_ret
          exact ⟨by rw [HO.out]; rfl, stp_two HG.out HV.out HR.out _ 1 4 _ _ HN.out⟩
        · have HO : Hid (okS x t = false) := by show _ = _; simp [okS, hk3, hb, hc, rwB]
          rw [hc] at c1
          clear hb hk0
          go_enter Try.func46, Try.ntmps46
          go_wp2_with fail
          go_ret
          exact ⟨by rw [HO.out]; rfl, stp_two HG.out HV.out HR.out _ 1 4 _ _ HN.out⟩
      · by_cases hk4 : x.k = 4
        · have HR : Hid (rwB x = false) := by show _ = _; simp [rwB, hk4]
          have HN : Hid ((t.cs v).setIfInBounds 2 (.bool true) = (nxt k x t).cs v) := by show _ = _; simp [nxt, hk4, Tk.cs]
          clear t0 t1
          have t0 : (x.k != 0) = true := by simp [hk4]
          have t1 : (x.k == 0) = false := by simp [hk4]
          have t2 : (x.k == 1) = false := by simp [hk4]
          have t3 : (x.k == 2) = false := by simp [hk4]
          have t4 : (x.k == 3) = false := by simp [hk4]
          have t5 : (x.k == 4) = true := by simp [hk4]
          have t6 : (x.k == 5) = false := by simp [hk4]
          cases ha : t.a
          · cases hc : t.c
            · by_cases he : x.e = 0
              · have HO : Hid (okS x t = false) := by show _ = _; simp [okS, hk4, hb, hc, ha, he, rwB]
                have he' : (x.e != 0) = false := by simp [he]
                rw [hc] at c1
                rw [ha] at c2
                clear c4 hb hk0
                go_enter Try.func46, Try.ntmps46
                go_wp2_with fail
                go_ret
                exact ⟨by rw [HO.out]; rfl, stp_one HG.out HV.out HR.out _ 2 _ HN.out⟩
              · have HO : Hid (okS x t = true) := by show _ = _; simp [okS, hk4, hb, hc, ha, he, rwB]
                have he' : (x.e != 0) = true := by simp [he]
                rw [hc] at c1
                rw [ha] at c2
                clear c4 hb hk0
                go_enter Try.func46, Try.ntmps46
                go_wp2_with fail
                go_ret
                exact ⟨by rw [HO.out]; rfl, stp_one HG.out HV.out HR.out _ 2 _ HN.out⟩
            · have HO : Hid (okS x t = true) := by show _ = _; simp [okS, hk4, hb, hc, ha, rwB]
              rw [hc] at c1
              rw [ha] at c2
              clear c4 hb hk0
              go_enter Try.func46, Try.ntmps46
              go_wp2_with fail
              go_ret
              exact ⟨by rw [HO.out]; rfl, stp_one HG.out HV.out HR.out _ 2 _ HN.out⟩
          · have HO : Hid (okS x t = false) := by show _ = _; simp [okS, hk4, hb, ha, rwB]
            rw [ha] at c2
            clear c4 hb hk0
            go_enter Try.func46, Try.ntmps46
            go_wp2_with fail
            go_ret
            exact ⟨by rw [HO.out]; rfl, stp_one HG.out HV.out HR.out _ 2 _ HN.out⟩
        · by_cases hk5 : x.k = 5
          · have HR : Hid (rwB x = false) := by show _ = _; simp [rwB, hk5]
            have HN : Hid ((t.cs v).setIfInBounds 3 (.bool true) = (nxt k x t).cs v) := by show _ = _; simp [nxt, hk5, Tk.cs]
            clear t0 t1
            have t0 : (x.k != 0) = true := by simp [hk5]
            have t1 : (x.k == 0) = false := by simp [hk5]
            have t2 : (x.k == 1) = false := by simp [hk5]
            have t3 : (x.k == 2) = false := by simp [hk5]
            have t4 : (x.k == 3) = false := by simp [hk5]
            have t5 : (x.k == 4) = false := by simp [hk5]
            have t6 : (x.k == 5) = true := by simp [hk5]
            cases hd : t.d
            · cases hc : t.c
              · have HO : Hid (okS x t = false) := by show _ = _; simp [okS, hk5, hb, hc, hd, rwB]
                rw [hc] at c1
                rw [hd] at c3
                clear c4 hb hk0
                go_enter Try.func46, Try.ntmps46
                go_wp2_with fail
                go_ret
                exact ⟨by rw [HO.out]; rfl, stp_one HG.out HV.out HR.out _ 3 _ HN.out⟩
              · have HO : Hid (okS x t = true) := by show _ = _; simp [okS, hk5, hb, hc, hd, rwB]
                rw [hc] at c1
                rw [hd] at c3
                clear c4 hb hk0
                go_enter Try.func46, Try.ntmps46
                go_wp2_with fail
                go_ret
                exact ⟨by rw [HO.out]; rfl, stp_one HG.out HV.out HR.out _ 3 _ HN.out⟩
            · have HO : Hid (okS x t = false) := by show _ = _; simp [okS, hk5, hb, hd, rwB]
              rw [hd] at c3
              clear c4 hb hk0
              go_enter Try.func46, Try.ntmps46
              go_wp2_with fail
              go_ret
              exact ⟨by rw [HO.out]; rfl, stp_one HG.out HV.out HR.out _ 3 _ HN.out⟩
          · by_cases hk1 : x.k = 1
            · have := step_rw g B t v xs x k w HG.out HV.out HB.out HX.out hb (.inl hk1)
              unfold Sn.cs at this
              exact this
            · by_cases hk2 : x.k = 2
              · have := step_rw g B t v xs x k w HG.out HV.out HB.out HX.out hb (.inr hk2)
                unfold Sn.cs at this
                exact this
              · have HO : Hid (okS x t = false) := by show _ = _; simp [okS, hk0, hk1, hk2, hk3, hk4, hk5, rwB]
                have t2 : (x.k == 1) = false := by simp [hk1]
                have t3 : (x.k == 2) = false := by simp [hk2]
                have t4 : (x.k == 3) = false := by simp [hk3]
                have t5 : (x.k == 4) = false := by simp [hk4]
                have t6 : (x.k == 5) = false := by simp [hk5]
                clear hk1 hk2 hk3 hk4 hk5
                clear c4 hb hk0
                go_enter Try.func46, Try.ntmps46
                go_wp2_with fail
                go_ret
                exact ⟨by rw [HO.out]; rfl, stp_none HG.out HV.out HO.out _⟩
end Go.Proofs.Ytfigoeoimefngaa
