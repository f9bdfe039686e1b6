/-
  graph.From.
-/
import Derived.Test.YtpllcjggjjapoaaGrE
import Derived.Laws.EntriesVeiled
namespace Go.Proofs.Ytpllcjggjjapoaa
open Go.RowKit Go.Maps Go.ChangeMaps Go.MapKept Go.WideElems

def FromP (E : List Ed) (n : Nm) (w : World) (e : Ending) (w' : World) : Prop := ∃ r a c, e = .returned (.slice a r.length c) ∧ Rd w' a (nms r) ∧ Strict r ∧ (∀ x, x ∈ r ↔ Reach E n x) ∧ r.length ≤ 200 ∧ r.length ≤ c ∧ Grows w w'
theorem mkSet (W : World) : (Instr.makeMap 38 none).run Try.prog W = .ok (.map (some W.heap.size)) (W.alloc (.map #[] 0)) := by kernel_rfl
set_option maxHeartbeats 4000000 in
theorem from_any (E : List Ed) (n : Nat) (hn : E.length = n) (hL : n ≤ 200) (hok : ∀ e ∈ E, e.1.ok ∧ e.2.ok) (a : Option Addr) (cap : Nat) (x : Nm) (hx : x.ok) (w : World) (hr : Rd w a (rowsOf Edcs E)) :
    Calls Try.prog 8 #[.slice a n cap, x.v] w (FromP E x w) := by
  have HG0 := Lib.hid ((Grows.refl w).alloc (.cells #[.int .i64 x.s, .int .i64 x.i, .int .i64 x.t] 24))
  have HROWS := Lib.hid (rows_any E n hn hL hok a cap _ (hr.grows HG0.out))
  have HX0 := Lib.hid (At.new w 24 #[.int .i64 x.s, .int .i64 x.i, .int .i64 x.t])
  have HN := Lib.hid hn
  have HX := Lib.hid hx
  have hmk := mkSet
  clear hr hn hok hx
  unfold Nm.v
  go_enter Try.func8, Try.ntmps8
  go_wp2_with fail
  refine HROWS.out.mono ?_
  rintro e w1 ⟨m, V, rfl, hRw, hg, hm⟩
  have HRW := Lib.hid hRw
  have HG1 := Lib.hid (HG0.out.trans hg)
  have HX1 := Lib.hid (HX0.out.grows hg)
  have HM := Lib.hid hm
  clear hRw hg hm HROWS
  have hG5 : Grows w1 (((((w1.alloc (.map #[] 0)).alloc (.cells #[.map (some m)] 35)).alloc (.cells #[.map (some w1.heap.size)] 38)).alloc (.cells #[.slice none 0 0] 28)).alloc (.cells #[(.func (.func 14) #[] #[ptr (w1.heap.size + 1), ptr (w1.heap.size + 1 + 1), ptr (w1.heap.size + 1 + 1 + 1), ptr (w1.heap.size + 1 + 1 + 1 + 1)])] 39)) := (((((Grows.refl w1).alloc _).alloc _).alloc _).alloc _).alloc _
  have HX5 := HX1.out.grows hG5
  have c5 := HX5.cell
  have hS5 : FrS w.heap.size.succ w1.heap.size (w1.heap.size + 1) (w1.heap.size + 1 + 1) (w1.heap.size + 1 + 1 + 1) (w1.heap.size + 1 + 1 + 1 + 1) m w1.heap.size E V [] [] (((((w1.alloc (.map #[] 0)).alloc (.cells #[.map (some m)] 35)).alloc (.cells #[.map (some w1.heap.size)] 38)).alloc (.cells #[.slice none 0 0] 28)).alloc (.cells #[(.func (.func 14) #[] #[ptr (w1.heap.size + 1), ptr (w1.heap.size + 1 + 1), ptr (w1.heap.size + 1 + 1 + 1), ptr (w1.heap.size + 1 + 1 + 1 + 1)])] 39)) := by
    have q1 := (((At.new (w1.alloc (.map #[] 0)) 35 #[.map (some m)]).alloc (.cells #[.map (some w1.heap.size)] 38)).alloc (.cells #[.slice none 0 0] 28)).alloc (.cells #[(.func (.func 14) #[] #[ptr (w1.heap.size + 1), ptr (w1.heap.size + 1 + 1), ptr (w1.heap.size + 1 + 1 + 1), ptr (w1.heap.size + 1 + 1 + 1 + 1)])] 39)
    have q2 := ((At.new ((w1.alloc (.map #[] 0)).alloc (.cells #[.map (some m)] 35)) 38 #[.map (some w1.heap.size)]).alloc (.cells #[.slice none 0 0] 28)).alloc (.cells #[(.func (.func 14) #[] #[ptr (w1.heap.size + 1), ptr (w1.heap.size + 1 + 1), ptr (w1.heap.size + 1 + 1 + 1), ptr (w1.heap.size + 1 + 1 + 1 + 1)])] 39)
    have q3 := (At.new (((w1.alloc (.map #[] 0)).alloc (.cells #[.map (some m)] 35)).alloc (.cells #[.map (some w1.heap.size)] 38)) 28 #[.slice none 0 0]).alloc (.cells #[(.func (.func 14) #[] #[ptr (w1.heap.size + 1), ptr (w1.heap.size + 1 + 1), ptr (w1.heap.size + 1 + 1 + 1), ptr (w1.heap.size + 1 + 1 + 1 + 1)])] 39)
    have q4 := At.new ((((w1.alloc (.map #[] 0)).alloc (.cells #[.map (some m)] 35)).alloc (.cells #[.map (some w1.heap.size)] 38)).alloc (.cells #[.slice none 0 0] 28)) 39 #[(.func (.func 14) #[] #[ptr (w1.heap.size + 1), ptr (w1.heap.size + 1 + 1), ptr (w1.heap.size + 1 + 1 + 1), ptr (w1.heap.size + 1 + 1 + 1 + 1)])]
    rw [World.size_alloc] at q1
    rw [World.size_alloc, World.size_alloc] at q2
    rw [World.size_alloc, World.size_alloc, World.size_alloc] at q3
    rw [World.size_alloc, World.size_alloc, World.size_alloc, World.size_alloc] at q4
    refine ⟨q1, q2, ⟨_, q3, World.ownsRow_nil _ _ _ _⟩, q4, ?_, ((((Se.made w1).grows ((Grows.refl _).alloc _)).grows ((Grows.refl _).alloc _)).grows ((Grows.refl _).alloc _)).grows ((Grows.refl _).alloc _), fun z b hb => (own_typed (HRW.out.row z) hb).choose_spec.2.2, ?_, hG5.size⟩
    · have := HRW.out.grows hG5
      rwa [World.size_alloc] at this
    · have := HRW.out.map.lt
      omega
  have HS5 := Lib.hid hS5
  have HG5 := Lib.hid (HG1.out.trans hG5)
  clear HX5 hS5 hG5
  have HC := Lib.hid (from1_any _ _ _ _ _ _ _ _ E (by have := HN.out; omega) V w ⟨by have := HG1.out.size; omega, HG1.out.size, HG1.out.size⟩ E.length [] _ x HX.out HS5.out List.nodup_nil (fun z hz => by cases hz) (Nat.sub_le _ _) HG5.out)
  unfold Nm.v at HC
  clear HS5
  go_wp2_with fail
  refine HC.out.mono ?_
  rintro e w6 ⟨rfl, out, hS6, hJ, hG6⟩
  obtain ⟨v, hO, hOwn⟩ := hS6.bO
  obtain ⟨av, cv, hv, hcap, _⟩ := own_slice hOwn
  subst hv
  have cO := hO.cell 0
  have hlen := (hJ.len (fun z hz => by cases hz)).2
  have HSRT := Lib.hid (sort_any out out.length rfl av cv w6 (Rd.own hOwn) hcap (by have := HN.out; omega))
  have HJ := Lib.hid hJ
  have HG6 := Lib.hid hG6
  have HLEN : Hid (out.length ≤ 200) := Lib.hid (by have := HN.out; omega)
  clear hS6 hJ hG6 hO hOwn hcap hlen c5 HC
  go_wp2_with fail
  refine HSRT.out.mono ?_
  rintro e w7 ⟨r, a7, c7, rfl, h1, h2, h3, h4, h5, h6⟩
  have HF : Hid (FromP E x w (.returned (.slice a7 r.length c7)) w7) := Lib.hid ⟨r, a7, c7, rfl, h1, h2, fun z => (h3 z).trans (HJ.out.reach z), Nat.le_trans h4 HLEN.out, h5, HG6.out.trans h6⟩
  clear h1 h2 h3 h4 h5 h6 cO
  go_wp2_with fail
  go_ret
  exact HF.out
end Go.Proofs.Ytpllcjggjjapoaa
