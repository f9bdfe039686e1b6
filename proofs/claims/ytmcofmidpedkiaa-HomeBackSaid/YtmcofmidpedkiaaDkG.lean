/-
  disk.kept: the iterator, for a plan of at most one line.
-/
import Derived.Test.YtmcofmidpedkiaaDkE
import Derived.Test.YtmcofmidpedkiaaRf
import Derived.Sort.QuietIn
import Derived.Stop.RegionWithIn
namespace Go.Proofs.Ytmcofmidpedkiaa
open Go.RowKit Go.Maps Go.Shelf
attribute [local go_sem] Oper.semAt_some

theorem kept_any (g : Nat) (a : Option Addr) (len cap : Nat) (w : World) : Calls Try.prog 36 #[.pointer (some ⟨g, 0, none⟩), .slice a len cap] w fun e w' => e = .returned (.func (.func 43) #[] #[.pointer (some ⟨w.heap.size + 1, 0, none⟩), .pointer (some ⟨w.heap.size, 0, none⟩)]) ∧ (w.alloc (.cells #[.pointer (some ⟨g, 0, none⟩)] 23)).alloc (.cells #[.slice a len cap] 49) = w' := by
  go_enter Try.func36, Try.ntmps36
  go_wp2_with fail
  go_ret
  exact ⟨rfl, rfl⟩

def TZ : List Value := List.replicate 34 (.bool false)
theorem tz_run (W : World) : (zeroValue 92).run Try.prog W = .ok (.agg TZ.toArray) W := by kernel_rfl

set_option maxRecDepth 100000 in
set_option maxHeartbeats 1000000 in
theorem kept1_one (l g m bd bp bs gb cp n0 : Nat) (ab ao cap : Nat) (W : World) (s n len : Nat) (hs : s < 34) (hn1 : 1 ≤ n) (hn2 : n ≤ len) (hlen : len ≤ 1000000)
    (hbd : W.cell? ⟨bd, 0, none⟩ = some (.pointer (some ⟨g, 0, none⟩))) (hbp : W.cell? ⟨bp, 0, none⟩ = some (.slice (some ⟨ab, ao, none⟩) 1 cap))
    (hp0 : W.cell? ⟨ab, ao, none⟩ = some (.int .i64 (s : Int))) (hp1 : W.cell? ⟨ab, ao + 1, none⟩ = some (.int .i64 (n : Int))) (hg : W.cell? ⟨g, 2176, none⟩ = some (.map (some m)))
    (hlk : ∀ W', Grows W W' → (Instr.lookup 54 (.map (some m)) (.int .i64 (s : Int)) false).run Try.prog W' = .ok (.slice (some ⟨gb, 0, none⟩) len cp) W')
    (hrow : W.cell? ⟨gb, n - 1, none⟩ = some (.slice (some ⟨bs, 0, none⟩) 64 64)) (R : World → Prop)
    (hY : ∀ W', Grows W W' → YieldAt Fence.wide n0 Try.prog l #[.int .i64 (s : Int), .slice (some ⟨bs, 0, none⟩) 64 64] W' fun e W2 => e = .returned (.bool true) ∧ R W2) :
    CallsIn Fence.wide (n0 + 1) Try.prog 43 #[.func (.yield l) #[] #[], .pointer (some ⟨bp, 0, none⟩), .pointer (some ⟨bd, 0, none⟩)] W fun e W' => (∃ v, e = .returned v) ∧ R W' := by
  have hbdl := World.block_lt_of_cell? W _ hbd
  have hbpl := World.block_lt_of_cell? W _ hbp
  have habl := World.block_lt_of_cell? W _ hp0
  have hgl := World.block_lt_of_cell? W _ hg
  have hgbl := World.block_lt_of_cell? W _ hrow
  have hz := tz_run
  have hts : TZ[s]? = some (.bool false) := by unfold TZ; rw [List.getElem?_replicate, if_pos hs]
  have htl : TZ.length = 34 := by simp [TZ]
  have hts2 : ∀ h : s < TZ.length, TZ[s] = .bool false := fun h => by rw [List.getElem?_eq_getElem h] at hts; injection hts
  generalize TZ = Z at *
  have HY := Lib.hid hY
  have HLK := Lib.hid hlk
  clear hY hlk
  have hs0 : (0 : Int) ≤ (s : Int) := by omega
  have hs1 : (s : Int) < 34 := by omega
  have hn3 : ¬ (n : Int) < 1 := by omega
  have hn4 : ¬ (len : Int) < (n : Int) := by omega
  refine callsIn_of_wp Try.func43 rfl trivial ?_ rfl
  simp only [Try.ntmps43, List.size_toArray, List.length_cons, List.length_nil, Nat.reduceAdd, Nat.reduceSub, Array.replicate_succ, Array.replicate_zero, List.push_toArray, List.append_toArray, List.nil_append, List.cons_append]
  gi_wp2
  refine wpIn_loop_rounds 2 ?_
  rw [roundsIn_succ]
  gi_wp2_with (refine ⟨trivial, ?_⟩; gi_at_call 24; refine (callsIn_wide.2 (is_yes _ _ (by omega) (by omega))).mono ?_; rintro e w' ⟨rfl, rfl⟩)
  obtain ⟨W4, hW4⟩ : ∃ W4, W4 = (W.alloc (.cells (Z.set s (.bool true)).toArray 92)).alloc (.cells #[.int .i64 (s : Int), .int .i64 (n : Int)] 51) := ⟨_, rfl⟩
  have HG4 : Hid (Grows W W4) := by show Grows W W4; rw [hW4]; exact ((Grows.refl _).alloc _).alloc _
  have hk : At W4 (W.heap.size + 1) 51 #[.int .i64 (s : Int), .int .i64 (n : Int)] := by
    rw [hW4]
    have := At.new (W.alloc (.cells (Z.set s (.bool true)).toArray 92)) 51 #[.int .i64 (s : Int), .int .i64 (n : Int)]
    rwa [World.size_alloc] at this
  have hk0 := hk.cell 0
  have hk1 := hk.cell 1
  simp only [List.getElem?_toArray, List.getElem?_cons_zero, List.getElem?_cons_succ] at hk0 hk1
  have hbd4 := (HG4.out.cell _ _ hbdl).trans hbd
  have hg4 := (HG4.out.cell _ _ hgl).trans hg
  have hrow4 := (HG4.out.cell _ _ hgbl).trans hrow
  have hl4 := fun k => HLK.out (W4.drewN k) (HG4.out.drewN k)
  rw [← hW4]
  clear hW4 hk hbd hbp hp0 hp1 hg hrow hz hts hts2 htl
  gi_quiet (fail)
  have HG5 : Hid (Grows W (W4.drewN nq)) := HG4.out.drewN nq
  have hk0' : (W4.drewN nq).cell? ⟨W.heap.size + 1, 0, none⟩ = some (.int .i64 (s : Int)) := hk0
  have hk1' : (W4.drewN nq).cell? ⟨W.heap.size + 1, 1, none⟩ = some (.int .i64 (n : Int)) := hk1
  have hrow' : (W4.drewN nq).cell? ⟨gb, n - 1, none⟩ = some (.slice (some ⟨bs, 0, none⟩) 64 64) := hrow4
  clear hk0 hk1 hrow4 hl4 hbd4 hg4 HG4
  generalize W4.drewN nq = W5 at *
  have hq1 : (1 : Int) ≤ (n : Int) := by omega
  have hq2 : (n : Int) - 1 < (len : Int) := by omega
  have hq3 : (0 : Int) ≤ (n : Int) - 1 := by omega
  have hq4 : ((n : Int) - 1).toNat = n - 1 := by omega
  have hq5 : IntKind.i64.wrap ((n : Int) - 1) = (n : Int) - 1 := IntWalk.i64_in _ (by omega)
  obtain ⟨fn, tmps, assign, body, hy, hR⟩ := HY.out W5.drew HG5.out.drew
  have HR := Lib.hid hR
  clear hR
  gi_wp2
  gi_region_with (refine HR.out.mono ?_; rintro e W2 ⟨rfl, hR2⟩)
  all_goals
    clear hy
    have HR2 := Lib.hid hR2
    clear hR2
    gi_wp2
    rw [roundsIn_succ]
    gi_wp2
    go_end0
    exact ⟨⟨_, rfl⟩, HR2.out⟩

set_option maxRecDepth 100000 in
theorem kept1_nil (l bd bp n0 : Nat) (a : Option Addr) (cap : Nat) (W : World) (hbp : W.cell? ⟨bp, 0, none⟩ = some (.slice a 0 cap)) :
    CallsIn Fence.wide (n0 + 1) Try.prog 43 #[.func (.yield l) #[] #[], .pointer (some ⟨bp, 0, none⟩), .pointer (some ⟨bd, 0, none⟩)] W fun e W' => (∃ v, e = .returned v) ∧ Grows W W' := by
  have hbpl := World.block_lt_of_cell? W _ hbp
  have hz := tz_run
  generalize TZ = Z at *
  refine callsIn_of_wp Try.func43 rfl trivial ?_ rfl
  simp only [Try.ntmps43, List.size_toArray, List.length_cons, List.length_nil, Nat.reduceAdd, Nat.reduceSub, Array.replicate_succ, Array.replicate_zero, List.push_toArray, List.append_toArray, List.nil_append, List.cons_append]
  gi_wp2
  refine wpIn_loop_rounds 1 ?_
  rw [roundsIn_succ]
  gi_wp2
  go_end0
  exact ⟨⟨_, rfl⟩, (Grows.refl _).alloc _⟩
end Go.Proofs.Ytmcofmidpedkiaa
