/-
  witness.look: the walk.
-/
import Derived.Test.YtfigoeoimefngaaWiC
import Derived.Test.YtfigoeoimefngaaZa
import Derived.RegionTactic
namespace Go.Proofs.Ytfigoeoimefngaa
open Go.RowKit Go.Maps Go.ChangeMaps Go.MapKept Go.WideElems

theorem mkM1 (W : World) : (Instr.makeMap 59 none).run Try.prog W = .ok (.map (some W.heap.size)) (W.alloc (.map #[] 0)) := by kernel_rfl
theorem mkM2 (W : World) : (Instr.makeMap 60 none).run Try.prog W = .ok (.map (some W.heap.size)) (W.alloc (.map #[] 0)) := by kernel_rfl
theorem mkM3 (W : World) : (Instr.makeMap 61 none).run Try.prog W = .ok (.map (some W.heap.size)) (W.alloc (.map #[] 0)) := by kernel_rfl
theorem mkM4 (W : World) : (Instr.makeMap 71 none).run Try.prog W = .ok (.map (some W.heap.size)) (W.alloc (.map #[] 0)) := by kernel_rfl
theorem results_mix {P : Program} {fn : Func} {p q : Tmp} {tp : TypeId} (h : fn.results = #[.cell p tp, .tmp q]) (tmps : Array Value) (w : World) (g : Nat) (v : Value)
    (hp : tmps.getD p undef = .pointer (some ⟨g, 0, none⟩)) (h1 : (loadVar tp ⟨g, 0, none⟩).run P w = .ok v w) :
    (results fn tmps).run P w = .ok (.tuple #[v, tmps.getD q undef]) w := by
  have hp' : tmps[p]?.getD undef = .pointer (some ⟨g, 0, none⟩) := by simpa using hp
  simp [results, h, hp', asAddr, h1]
theorem ld_view {w : World} {g : Nat} {l : List Value} (h : At w g 63 l.toArray) (hl : l.length = 5) : (loadVar 63 ⟨g, 0, none⟩).run Try.prog w = .ok (.agg l.toArray) w := by
  have := ld_mid (P := Try.prog) (o := 0) (n := 5) h Try.underlying63 rfl (by omega) (by kernel_rfl) w (Grows.refl w)
  rwa [List.drop_zero, List.take_of_length_le (by omega)] at this
/-- A history looked at. -/
structure Vw (w : World) (L : List Sn) (r : Nat) (V : Nm → Value) : Prop where
  rank : KM Try.prog 29 Nm.ok Nm.lit (.int .i64 0) w r (decL L).length (fun n => .int .i64 (rk (decL L) n : Nat))
  steps : Sw w r (r + 1) (ev L) V
  was : KM Try.prog 3 inI (Lit.int .i64) Nm.zero.v w (r + 2) L.length (fun z => (wasF L L.length z).v)
theorem Vw.grows {w w' : World} {L : List Sn} {r : Nat} {V : Nm → Value} (h : Vw w L r V) (hg : Grows w w') : Vw w' L r V := ⟨h.rank.grows hg, h.steps.grows hg, h.was.grows hg⟩
def vwv (a : Option Addr) (n cap : Nat) (a' : Option Addr) (d c' r : Nat) : List Value := [.slice a n cap, .slice a' d c', .map (some r), .map (some (r + 1)), .map (some (r + 2))]
def LookP (L : List Sn) (a : Option Addr) (n cap : Nat) (w : World) (e : Ending) (w' : World) : Prop :=
  Grows w w' ∧ ((mayB L = false ∧ e = .returned (.tuple #[.agg #[.slice none 0 0, .slice none 0 0, .map none, .map none, .map none], .int .i64 2])) ∨
    (mayB L = true ∧ ∃ a' c' r V, e = .returned (.tuple #[.agg (vwv a n cap a' (decL L).length c' r).toArray, .int .i64 0]) ∧ w.heap.size ≤ r ∧ (decL L).length ≤ c' ∧ Rd w' a' (rowsOf Nm.cs (decL L)) ∧ Vw w' L r V))
theorem one_view (a : Option Addr) (n c : Nat) (a' : Option Addr) (n' c' : Nat) (x y z : Option Nat) : [Value.slice a n c, Value.slice a' n' c', Value.map x, Value.map y, Value.map z].toArray.all (·.oneCell') = true :=
  all_oneCell_toArray (fun v hv => by
    simp only [List.mem_cons, List.not_mem_nil, or_false] at hv
    rcases hv with rfl | rfl | rfl | rfl | rfl <;> rfl)
theorem info_view : (Try.prog.info? 63).map (·.size) = some 5 := by kernel_rfl
theorem info_i64 : (Try.prog.info? 3).map (fun i => (i.zero, i.size, i.bytes)) = some (some (.int .i64 0), 1, 8) := by kernel_rfl
theorem decL_len (L : List Sn) : (decL L).length ≤ L.length := by
  unfold decL
  rw [List.length_map]
  exact List.length_filter_le _ _
theorem decL_ok {L : List Sn} (h : ∀ x ∈ L, x.n.ok) : ∀ n ∈ decL L, n.ok := fun n hn => by
  unfold decL at hn
  obtain ⟨x, hx, rfl⟩ := List.mem_map.1 hn
  exact h x (List.mem_filter.1 hx).1
theorem name_cell {w : World} {a : Option Addr} {l : List Nm} (h : Rd w a (rowsOf Nm.cs l)) {k : Nat} (hk : k < l.length) :
    ∃ (g off : Nat), a = some ⟨g, off, none⟩ ∧ g < w.heap.size ∧ w.cell? ⟨g, off + k * 3, none⟩ = some (.int .i64 l[k].s) ∧ w.cell? ⟨g, off + k * 3 + 1, none⟩ = some (.int .i64 l[k].i) ∧ w.cell? ⟨g, off + k * 3 + 2, none⟩ = some (.int .i64 l[k].t) := by
  obtain ⟨g, off, e, hg, hc⟩ := rows_cell Nm.cs_len (by omega) h hk
  exact ⟨g, off, e, hg, hc 0 _ rfl, hc 1 _ rfl, hc 2 _ rfl⟩
theorem LkA.start (w1 : World) (vw : List Value) (L : List Sn) (d : List Nm) : LkA w1 ((((w1.alloc (.map #[] 0)).alloc (.map #[] 0)).alloc (.map #[] 0)).alloc (.cells vw.toArray 63)) vw L d 0 0 0 (fun _ => .slice none 0 0) := by
  refine ⟨((((Grows.refl _).alloc _).alloc _).alloc _).alloc _, ?_, ?_, ?_, ?_⟩
  · have := At.new (((w1.alloc (.map #[] 0)).alloc (.map #[] 0)).alloc (.map #[] 0)) 63 vw.toArray
    rwa [World.size_alloc, World.size_alloc, World.size_alloc] at this
  · exact (KM.made Try.prog 29 Nm.ok Nm.lit (.int .i64 0) w1).grows ((((Grows.refl _).alloc _).alloc _).alloc _)
  · have := (Sw.made (w1.alloc (.map #[] 0)) w1.heap.size).grows (((Grows.refl _).alloc (.map #[] 0)).alloc (.cells vw.toArray 63))
    rwa [World.size_alloc] at this
  · have := (KM.made Try.prog 3 inI (Lit.int .i64) Nm.zero.v ((w1.alloc (.map #[] 0)).alloc (.map #[] 0))).grows ((Grows.refl _).alloc (.cells vw.toArray 63))
    rw [World.size_alloc, World.size_alloc] at this
    have e : (fun z : Int => (wasF L 0 z).v) = fun _ => Nm.zero.v := by
      funext z
      unfold wasF
      rw [if_neg (by omega)]
    rw [e]
    exact this
theorem heap_setCells_ne {g b : Nat} (hb : b ≠ g) : ∀ (vs : List Value) {W : World} (o : Nat), (W.setCells g o vs).heap[b]? = W.heap[b]?
  | [], _, _ => rfl
  | v :: vs, W, o => by
    rw [World.setCells, heap_setCells_ne hb vs]
    exact Below.heap_setCell _ ⟨g, o, none⟩ v b hb
theorem rd_setCells {W : World} {a : Option Addr} {xs : List Value} (h : Rd W a xs) {g : Nat} (hb : ∀ b off, a = some ⟨b, off, none⟩ → xs ≠ [] → b ≠ g) (vs : List Value) (o : Nat) : Rd (W.setCells g o vs) a xs := by
  rcases h with h | ⟨b, off, e, hlt, hc⟩
  · exact .inl h
  · by_cases hx : xs = []
    · exact .inl hx
    · exact .inr ⟨b, off, e, by rw [size_setCells]; exact hlt, fun j v hv => (World.cell?_of_block (heap_setCells_ne (hb b off e hx) vs o)).trans (hc j v hv)⟩
theorem names_apart {W : World} {b : Nat} (h : At W b 63 [Value.slice none 0 0, Value.slice none 0 0, Value.map none, Value.map none, Value.map none].toArray) {d : List Nm} {a : Option Addr} (hr : Rd W a (rowsOf Nm.cs d)) {off : Nat} (e : a = some ⟨b, off, none⟩) (hne : rowsOf Nm.cs d ≠ []) : False := by
  rcases hr with hr | ⟨b', off', e', hlt, hc⟩
  · exact hne hr
  · rw [e] at e'
    injection e' with e'
    injection e' with e1 e2
    subst e1
    cases d with
    | nil => exact hne rfl
    | cons x d =>
      have h0 := hc 0 (.int .i64 x.s) rfl
      rw [h.cell] at h0
      match off' + 0, h0 with
      | 0, h0 => simp at h0
      | 1, h0 => simp at h0
      | 2, h0 => simp at h0
      | 3, h0 => simp at h0
      | 4, h0 => simp at h0
      | k + 5, h0 => simp at h0
theorem Vw.of {w1 wr : World} {vw : List Value} {L : List Sn} {V : Nm → Value} {g : Nat} (hA : LkA w1 wr vw L (decL L) (decL L).length L.length L.length V) (hg : g < w1.heap.size) (vs : List Value) : Vw (wr.setCells g 0 vs) L w1.heap.size V := by
  have hh : ∀ (b : Nat), b ≠ g → (wr.setCells g 0 vs).heap[b]? = wr.heap[b]? := fun b hb => heap_setCells_ne hb _ _
  refine ⟨?_, ?_, ?_⟩
  · have := hA.rank.same (hh w1.heap.size (by omega))
    rwa [List.take_length] at this
  · have := hA.steps.same (hh (w1.heap.size + 1) (by omega)) (fun n b hb => by
      obtain ⟨_, _, q, _⟩ := own_typed (hA.steps.row n) hb
      exact hh b (by omega))
    rwa [List.take_length] at this
  · exact hA.was.same (hh (w1.heap.size + 2) (by omega))
set_option maxRecDepth 100000 in
set_option maxHeartbeats 8000000 in
theorem look_any (L : List Sn) (n : Nat) (hn : L.length = n) (hL : n ≤ 1000) (hok : ∀ x ∈ L, x.n.ok ∧ x.wk.ok) (a : Option Addr) (cap : Nat) (w : World) (hr : Rd w a (rowsOf Sn.cs L)) :
    Calls Try.prog 26 #[.slice a n cap] w (LookP L a n cap w) := by
  have hm1 := mkM1
  have hm2 := mkM2
  have hm3 := mkM3
  have HZ0 := Lib.hid (At.new w 63 [Value.slice none 0 0, Value.slice none 0 0, Value.map none, Value.map none, Value.map none].toArray)
  have HG0 := Lib.hid ((Grows.refl w).alloc (.cells [Value.slice none 0 0, Value.slice none 0 0, Value.map none, Value.map none, Value.map none].toArray 63))
  have HT := Lib.hid (fun W (hg : Grows w W) => order_p L n hn (by omega) (fun x hx => (hok x hx).1) a cap W (hr.grows hg))
  have HR := Lib.hid hr
  have HN := Lib.hid hn
  have HOK := Lib.hid hok
  clear hr hn hok
  go_enter Try.func26, Try.ntmps26
  go_wp2_with fail
  refine (HT.out _ HG0.out).mono ?_
  clear HT
  rintro e w1 ⟨hg, ⟨hm, rfl⟩ | ⟨hm, a', c', rfl, hd, hc⟩⟩
  · have HM := Lib.hid hm
    have HZ := Lib.hid (HZ0.out.grows hg)
    have HG := Lib.hid (HG0.out.trans hg)
    clear hg hm hm1 hm2 hm3
    go_wp2_with (with_reducible refine wpList_store_mid (op := ⟨none, .store 63 (.tmp 2) (.tmp 20), _, _, _, none⟩) rfl 63 (.tmp 2) (.tmp 20) rfl (w.heap.size) (0) [Value.slice none 0 0, Value.slice none 0 0, Value.map none, Value.map none, Value.map none].toArray ?s1a ?s1b ?s1c ?s1d ?s1e ?_)
    case s1a => rfl
    case s1b => rfl
    case s1c => exact HZ.out.there 0 5 (by simp)
    case s1d => kernel_rfl
    case s1e => exact one_view none 0 0 none 0 0 none none none
    refine bodyPost_ret (results_mix rfl _ _ w.heap.size _ rfl (ld_view (At.all (vs := [Value.slice none 0 0, Value.slice none 0 0, Value.map none, Value.map none, Value.map none]) HZ.out rfl) rfl)) rfl ?_
    exact ⟨Grows.setCells (Nat.le_refl _) _ _ HG.out, .inl ⟨HM.out, rfl⟩⟩
  · have HM := Lib.hid hm
    have HZ := Lib.hid (HZ0.out.grows hg)
    have HG := Lib.hid (HG0.out.trans hg)
    have HD := Lib.hid hd
    have HC := Lib.hid hc
    have hdl := decL_len L
    have HDO := Lib.hid (decL_ok (fun x hx => (HOK.out x hx).1))
    obtain ⟨d, hdd⟩ : ∃ d, d = (decL L).length := ⟨_, rfl⟩
    have HDD := Lib.hid hdd
    have HDN : Hid (d ≤ n) := Lib.hid (by rw [hdd, ← HN.out]; exact hdl)
    rw [← hdd]
    clear hg hm hd hc hdd hdl HZ0 HG0
    go_wp2_with fail
    clear hm1 hm2 hm3
    obtain ⟨vw, hvw⟩ : ∃ vw, vw = vwv a n cap a' d c' w1.heap.size := ⟨_, rfl⟩
    go_loopg [30] d (fun gh v30 wr => ∃ (j : Nat), gh + j = d ∧ v30 = .int .i64 (j : Int) ∧ LkA w1 wr vw L (decL L) j 0 0 (fun _ => .slice none 0 0))
    case atStart =>
      refine ⟨0, by omega, rfl, ?_⟩
      rw [hvw]
      exact LkA.start w1 _ L (decL L)
    case round =>
      obtain ⟨j, hgj, rfl, hA⟩ := hrel
      have HA := Lib.hid hA
      have hv0 := HA.out.view
      rw [hvw] at hv0
      have HV0 := Lib.hid hv0
      clear hA hv0
      by_cases hlt : j < d
      · have hjl : j < (decL L).length := by rw [← HDD.out]; exact hlt
        obtain ⟨g, off, rfl, hgw, c0, c1, c2⟩ := name_cell (HD.out.grows HA.out.g) hjl
        have HXG : Hid ((decL L)[j]? = some (decL L)[j]) := Lib.hid (List.getElem?_eq_getElem hjl)
        have HXO := Lib.hid (HDO.out _ (List.getElem_mem hjl))
        generalize (decL L)[j] = x at *
        have hj1 : (j : Int) < (d : Int) := by omega
        obtain ⟨W, hW⟩ : ∃ W, wr.alloc (.cells #[.int .i64 x.s, .int .i64 x.i, .int .i64 x.t] 29) = W := ⟨_, rfl⟩
        have hgW : Grows wr W := by rw [← hW]; exact (Grows.refl _).alloc _
        obtain ⟨o, hup, hA'⟩ := (HA.out.grows hgW).rankNext (by have := HDN.out; omega) HXG.out HXO.out
        have hv2 : W.cell? ⟨w1.heap.size + 1 + 1 + 1, 2, none⟩ = some (.map (some w1.heap.size)) := (HV0.out.grows hgW).cell 2
        have hn0 : W.cell? ⟨wr.heap.size, 0, none⟩ = some (.int .i64 x.s) := by rw [← hW]; exact (At.new wr 29 #[.int .i64 x.s, .int .i64 x.i, .int .i64 x.t]).cell 0
        have hn1 : W.cell? ⟨wr.heap.size, 1, none⟩ = some (.int .i64 x.i) := by rw [← hW]; exact (At.new wr 29 #[.int .i64 x.s, .int .i64 x.i, .int .i64 x.t]).cell 1
        have hn2 : W.cell? ⟨wr.heap.size, 2, none⟩ = some (.int .i64 x.t) := by rw [← hW]; exact (At.new wr 29 #[.int .i64 x.s, .int .i64 x.i, .int .i64 x.t]).cell 2
        have HA' := Lib.hid hA'
        have hwrap : IntKind.i64.wrap ((j : Int) + 1) = (j : Int) + 1 := IntWalk.i64_in _ (by have := HDN.out; omega)
        unfold Nm.v at hup
        clear hA' hgW
        go_wp2_with fail
        go_roundg (gk - 1)
        case measure => omega
        case rel => exact ⟨j + 1, by omega, by go_num, HA'.out⟩
      · have hge : ¬ (j : Int) < (d : Int) := by omega
        have hjd : j = d := by omega
        subst hjd
        clear hlt hge hgj
        have hlz : ¬ (j : Int) < (j : Int) := by omega
        have hm4 := mkM4
        go_wp2_with fail
        clear hm4
        obtain ⟨ℓ, hl⟩ : ∃ ℓ, wr.heap.size = ℓ := ⟨_, rfl⟩
        have HLL : Hid (w1.heap.size + 4 ≤ ℓ) := Lib.hid (by have := HA.out.view.lt; omega)
        rw [hl]
        go_loopg [44] n (fun gh v44 wr => ∃ (i : Nat) (V : Nm → Value), gh + i = n ∧ v44 = .int .i64 (i : Int) ∧ LkA w1 wr vw L (decL L) j i i V ∧ LkL wr ℓ L i)
        case atStart =>
          refine ⟨0, _, by omega, rfl, HA.out.grows ((Grows.refl _).alloc _), ?_⟩
          rw [← hl]
          exact KM.made Try.prog 73 Wk.ok Wk.lit Nm.zero.v wr
        case round =>
          obtain ⟨i, V, hgi, rfl, hA2, hLq⟩ := hrel
          have HA2 := Lib.hid hA2
          have HLQ := Lib.hid hLq
          have hv2 := hA2.view
          rw [hvw] at hv2
          have HV2 := Lib.hid hv2
          clear hA2 hLq hv2 HA
          by_cases hlt : i < n
          · have hil : i < L.length := by rw [HN.out]; exact hlt
            obtain ⟨g, off, rfl, hgw, hcc⟩ := cells14 (HR.out.grows (HG.out.trans HA2.out.g)) hil
            obtain ⟨c0, c1, c2, c3, c4, c5, c6, c7, c8, c9, c10, c11, c12, c13⟩ := cells14_at hcc
            clear hcc
            have HXG : Hid (L[i]? = some L[i]) := Lib.hid (List.getElem?_eq_getElem hil)
            have HXO := Lib.hid (HOK.out _ (List.getElem_mem hil))
            generalize L[i] = x at *
            have hi1 : (i : Int) < (n : Int) := by omega
            have HNB : Hid (i < 1000) := Lib.hid (by omega)
            obtain ⟨W, hW⟩ : ∃ W, (wr.alloc (.cells x.cs.toArray 36)).alloc (.cells x.wk.cs.toArray 73) = W := ⟨_, rfl⟩
            have hgW : Grows wr W := by rw [← hW]; exact ((Grows.refl _).alloc _).alloc _
            have HAW := Lib.hid (HA2.out.grows hgW)
            have HLW : Hid (LkL W ℓ L i) := Lib.hid (KM.grows HLQ.out hgW)
            have hXA : At W wr.heap.size 36 x.cs.toArray := by rw [← hW]; exact (At.new wr _ _).alloc _
            have hXW : At W (wr.heap.size + 1) 73 x.wk.cs.toArray := by
              have := At.new (wr.alloc (.cells x.cs.toArray 36)) 73 x.wk.cs.toArray
              rw [World.size_alloc] at this
              rw [← hW]; exact this
            have HXA := Lib.hid hXA
            have HVW := Lib.hid (HV2.out.grows hgW)
            have hw0 : W.cell? ⟨wr.heap.size + 1, 0, none⟩ = some (.int .i64 x.b) := hXW.cell 0
            have hw1 : W.cell? ⟨wr.heap.size + 1, 1, none⟩ = some (.int .u8 x.x0) := hXW.cell 1
            have hw2 : W.cell? ⟨wr.heap.size + 1, 2, none⟩ = some (.int .u8 x.x1) := hXW.cell 2
            have hw3 : W.cell? ⟨wr.heap.size + 1, 3, none⟩ = some (.int .u8 x.x2) := hXW.cell 3
            have hw4 : W.cell? ⟨wr.heap.size + 1, 4, none⟩ = some (.int .u8 x.x3) := hXW.cell 4
            have hw5 : W.cell? ⟨wr.heap.size + 1, 5, none⟩ = some (.int .u8 x.x4) := hXW.cell 5
            have hw6 : W.cell? ⟨wr.heap.size + 1, 6, none⟩ = some (.int .u8 x.x5) := hXW.cell 6
            have hw7 : W.cell? ⟨wr.heap.size + 1, 7, none⟩ = some (.int .u8 x.x6) := hXW.cell 7
            have hw8 : W.cell? ⟨wr.heap.size + 1, 8, none⟩ = some (.int .u8 x.x7) := hXW.cell 8
            have hk0 : W.cell? ⟨wr.heap.size, 0, none⟩ = some (.int .i8 x.k) := hXA.cell 0
            have hn0 : W.cell? ⟨wr.heap.size, 1, none⟩ = some (.int .i64 x.n.s) := hXA.cell 1
            have hn1 : W.cell? ⟨wr.heap.size, 2, none⟩ = some (.int .i64 x.n.i) := hXA.cell 2
            have hn2 : W.cell? ⟨wr.heap.size, 3, none⟩ = some (.int .i64 x.n.t) := hXA.cell 3
            have hv4 : W.cell? ⟨w1.heap.size + 1 + 1 + 1, 4, none⟩ = some (.map (some (w1.heap.size + 2))) := HVW.out.cell 4
            unfold Sn.cs Sn.wk Wk.cs at hW
            clear hXA hXW hgW HV2
            obtain ⟨i0, hi0, hz0, hz1, hz2⟩ := info_parts info_i64
            by_cases k1 : x.k = 1
            · have e1 : (x.k == 1) = true := by simp [k1]
              have e2 : (x.k == 2) = false := by simp [k1]
              have hrw : rwB x = true := by simp [rwB, k1]
              have hgd : Grows W W.drew := (Grows.refl _).drew
              have hlk := LkL.look (HLW.out.grows hgd) HXG.out k1 HXO.out.2
              obtain ⟨o, hup, hA3⟩ := (HAW.out.grows hgd).read (by omega)
              obtain ⟨W2, hW2⟩ : ∃ W2, setBlock W.drew (w1.heap.size + 2) o = W2 := ⟨_, rfl⟩
              rw [hW2] at hup hA3
              have HA3 := Lib.hid hA3
              have HL3 : Hid (LkL W2 ℓ L (i + 1)) := Lib.hid (by rw [← hW2]; exact (LkL.other (HLW.out.grows hgd) (by have := HLL.out; omega) o).pass HXG.out (by rw [k1]; decide))
              have hXA2 : At W2 wr.heap.size 36 x.cs.toArray := by rw [← hW2]; exact (HXA.out.grows hgd).turn (by have := HA2.out.view.lt; omega) o
              have hm0 : W2.cell? ⟨wr.heap.size, 1, none⟩ = some (.int .i64 x.n.s) := hXA2.cell 1
              have hm1 : W2.cell? ⟨wr.heap.size, 2, none⟩ = some (.int .i64 x.n.i) := hXA2.cell 2
              have hm2 : W2.cell? ⟨wr.heap.size, 3, none⟩ = some (.int .i64 x.n.t) := hXA2.cell 3
              have hv3 : W2.cell? ⟨w1.heap.size + 1 + 1 + 1, 3, none⟩ = some (.map (some (w1.heap.size + 1))) := by
                have := hA3.view
                rw [hvw] at this
                exact this.cell 3
              unfold Wk.v Sn.wk at hlk
              generalize (wasA L i).v = y at *
              clear hW2 hA3 hXA2 hgd k1
              go_wp2_with fail
              go_region
              obtain ⟨W3, hW3⟩ : ∃ W3, W2.alloc (.cells #[.int .i64 (i : Int)] 3) = W3 := ⟨_, rfl⟩
              have hg3 : Grows W2 W3 := by rw [← hW3]; exact (Grows.refl _).alloc _
              have hs3 : W3.heap.size = W2.heap.size + 1 := by rw [← hW3]; simp
              have hR3 : Rd W3 (some ⟨W2.heap.size, 0, none⟩) [(.int .i64 (i : Int))] := by rw [← hW3]; exact rd_new W2 #[.int .i64 (i : Int)] 3 (0, 0)
              obtain ⟨st, Wm, hme, hown1, hsz1, hb1, hfin⟩ := (HA3.out.grows hg3).entry (by have := HNB.out; omega) HXG.out hrw HXO.out.1
              obtain ⟨ax, cx, hvx, _⟩ := own_slice hown1
              have HVX := Lib.hid hvx
              have HOWN1 := Lib.hid hown1
              have HFIN := Lib.hid hfin
              have HRM : Hid (Rd Wm (some ⟨W2.heap.size, 0, none⟩) [(.int .i64 (i : Int))]) := Lib.hid (by
                rcases hR3 with h | ⟨b, off, e, hb, hc⟩
                · exact .inl h
                · injection e with e
                  injection e with e1 e2
                  subst e1
                  exact .inr ⟨_, off, by rw [← e2], by rw [hsz1]; exact hb, fun j v hv => (World.cell?_of_block (hb1 _ (show W2.heap.size ≠ w1.heap.size + 1 by have := HA3.out.view.lt; omega))).trans (hc j v hv)⟩)
              have HPL : Hid ((pls (ev (L.take i)) x.n).length ≤ 1000) := Lib.hid (by
                have h1 := pls_len (ev (L.take i)) x.n
                have h2 := ev_len (L.take i)
                rw [List.length_take] at h2
                have := HNB.out
                omega)
              have HSM : Hid (w1.heap.size ≤ Wm.heap.size) := Lib.hid (by have := HA3.out.view.lt; omega)
              have HBM := Lib.hid hb1
              rw [hvx] at hme
              unfold Nm.v at hme
              clear hg3 hs3 hR3 hown1 hsz1 hb1 hfin hvx
              go_wp2_with (at_builtin; (refine wpList_append_rd _ rfl (.tmp 74) (.tmp 76) 40 rfl w1.heap.size 3 i0 (.int .i64 0) 1 8 Try.underlying40 hi0 hz0 hz1 hz2 rfl (by decide) (V x.n) (pls (ev (L.take i)) x.n).length (nts (pls (ev (L.take i)) x.n)) ?ev HOWN1.out (some ⟨W2.heap.size, 0, none⟩) 1 1 [(.int .i64 (i : Int))] rfl HRM.out rfl (fun u hu => by rw [List.mem_singleton.1 hu]; rfl) (by have h1 := HPL.out; unfold maxLen; omega) (by have h1 := HPL.out; omega) HSM.out ?app))
              case ev => exact HVX.out.symm
              case app =>
                intro v4 w4 hown hgr hbl
                obtain ⟨W5, hrun, hA5, hfr⟩ := HFIN.out v4 w4 hown hgr hbl
                obtain ⟨es, cl, q⟩ := HL3.out.block
                have hq3 : W3.heap[ℓ]? = W2.heap[ℓ]? := by rw [← hW3]; exact RowKit.Below.heap_alloc _ _ _ (KM.lt HL3.out)
                have HL5 : Hid (LkL W5 ℓ L (i + 1)) := Lib.hid (KM.same HL3.out ((hfr ℓ es cl (hq3.trans q) (by have := HLL.out; omega)).trans hq3))
                clear hq3
                have HA5 := Lib.hid hA5
                clear hown hgr hbl hA5 hfr q hme hW3
                go_wp2_with fail
                go_roundg (gk - 1)
                case measure => omega
                case rel => exact ⟨i + 1, _, by omega, by go_num, HA5.out, HL5.out⟩
            · by_cases k2 : x.k = 2
              · have e1 : (x.k == 1) = false := by simp [k2]
                have e2 : (x.k == 2) = true := by simp [k2]
                have hrw : rwB x = true := by simp [rwB, k2]
                obtain ⟨o, hup, hL3⟩ := HLW.out.write (by omega) HXG.out k2 HXO.out.2
                obtain ⟨W2, hW2⟩ : ∃ W2, setBlock W ℓ o = W2 := ⟨_, rfl⟩
                rw [hW2] at hup hL3
                have HL3 := Lib.hid hL3
                have hA3 : LkA w1 W2 vw L (decL L) j i (i + 1) V := by rw [← hW2]; exact (HAW.out.last HLL.out HLW.out.block o).pass HXG.out k1
                have HA3 := Lib.hid hA3
                have hXA2 : At W2 wr.heap.size 36 x.cs.toArray := by rw [← hW2]; exact HXA.out.turn (by have := KM.lt HLQ.out; omega) o
                have hm0 : W2.cell? ⟨wr.heap.size, 1, none⟩ = some (.int .i64 x.n.s) := hXA2.cell 1
                have hm1 : W2.cell? ⟨wr.heap.size, 2, none⟩ = some (.int .i64 x.n.i) := hXA2.cell 2
                have hm2 : W2.cell? ⟨wr.heap.size, 3, none⟩ = some (.int .i64 x.n.t) := hXA2.cell 3
                have hv3 : W2.cell? ⟨w1.heap.size + 1 + 1 + 1, 3, none⟩ = some (.map (some (w1.heap.size + 1))) := by
                  have := hA3.view
                  rw [hvw] at this
                  exact this.cell 3
                unfold Wk.v Sn.wk Nm.v at hup
                clear hW2 hL3 hA3 hXA2 k1 k2
                obtain ⟨W3, hW3⟩ : ∃ W3, W2.alloc (.cells #[.int .i64 (i : Int)] 3) = W3 := ⟨_, rfl⟩
                have hg3 : Grows W2 W3 := by rw [← hW3]; exact (Grows.refl _).alloc _
                have hs3 : W3.heap.size = W2.heap.size + 1 := by rw [← hW3]; simp
                have hR3 : Rd W3 (some ⟨W2.heap.size, 0, none⟩) [(.int .i64 (i : Int))] := by rw [← hW3]; exact rd_new W2 #[.int .i64 (i : Int)] 3 (0, 0)
                obtain ⟨st, Wm, hme, hown1, hsz1, hb1, hfin⟩ := (HA3.out.grows hg3).entry (by have := HNB.out; omega) HXG.out hrw HXO.out.1
                obtain ⟨ax, cx, hvx, _⟩ := own_slice hown1
                have HVX := Lib.hid hvx
                have HOWN1 := Lib.hid hown1
                have HFIN := Lib.hid hfin
                have HRM : Hid (Rd Wm (some ⟨W2.heap.size, 0, none⟩) [(.int .i64 (i : Int))]) := Lib.hid (by
                  rcases hR3 with h | ⟨b, off, e, hb, hc⟩
                  · exact .inl h
                  · injection e with e
                    injection e with e1 e2
                    subst e1
                    exact .inr ⟨_, off, by rw [← e2], by rw [hsz1]; exact hb, fun j v hv => (World.cell?_of_block (hb1 _ (show W2.heap.size ≠ w1.heap.size + 1 by have := HA3.out.view.lt; omega))).trans (hc j v hv)⟩)
                have HPL : Hid ((pls (ev (L.take i)) x.n).length ≤ 1000) := Lib.hid (by
                  have h1 := pls_len (ev (L.take i)) x.n
                  have h2 := ev_len (L.take i)
                  rw [List.length_take] at h2
                  have := HNB.out
                  omega)
                have HSM : Hid (w1.heap.size ≤ Wm.heap.size) := Lib.hid (by have := HA3.out.view.lt; omega)
                have HBM := Lib.hid hb1
                rw [hvx] at hme
                unfold Nm.v at hme
                clear hg3 hs3 hR3 hown1 hsz1 hb1 hfin hvx
                go_wp2_with (at_builtin; (refine wpList_append_rd _ rfl (.tmp 74) (.tmp 76) 40 rfl w1.heap.size 3 i0 (.int .i64 0) 1 8 Try.underlying40 hi0 hz0 hz1 hz2 rfl (by decide) (V x.n) (pls (ev (L.take i)) x.n).length (nts (pls (ev (L.take i)) x.n)) ?ev HOWN1.out (some ⟨W2.heap.size, 0, none⟩) 1 1 [(.int .i64 (i : Int))] rfl HRM.out rfl (fun u hu => by rw [List.mem_singleton.1 hu]; rfl) (by have h1 := HPL.out; unfold maxLen; omega) (by have h1 := HPL.out; omega) HSM.out ?app))
                case ev => exact HVX.out.symm
                case app =>
                  intro v4 w4 hown hgr hbl
                  obtain ⟨W5, hrun, hA5, hfr⟩ := HFIN.out v4 w4 hown hgr hbl
                  obtain ⟨es, cl, q⟩ := HL3.out.block
                  have hq3 : W3.heap[ℓ]? = W2.heap[ℓ]? := by rw [← hW3]; exact RowKit.Below.heap_alloc _ _ _ (KM.lt HL3.out)
                  have HL5 : Hid (LkL W5 ℓ L (i + 1)) := Lib.hid (KM.same HL3.out ((hfr ℓ es cl (hq3.trans q) (by have := HLL.out; omega)).trans hq3))
                  clear hq3
                  have HA5 := Lib.hid hA5
                  clear hown hgr hbl hA5 hfr q hme hW3
                  go_wp2_with fail
                  go_roundg (gk - 1)
                  case measure => omega
                  case rel => exact ⟨i + 1, _, by omega, by go_num, HA5.out, HL5.out⟩
              · have e1 : (x.k == 1) = false := by simp [k1]
                have e2 : (x.k == 2) = false := by simp [k2]
                have HAE : Hid (LkA w1 W vw L (decL L) j (i + 1) (i + 1) V) := Lib.hid ((HAW.out.pass HXG.out k1).skip HXG.out (by simp [rwB, e1, e2]))
                have HLE : Hid (LkL W ℓ L (i + 1)) := Lib.hid (HLW.out.pass HXG.out k2)
                clear k1 k2
                go_wp2_with fail
                go_roundg (gk - 1)
                case measure => omega
                case rel => exact ⟨i + 1, V, by omega, by go_num, HAE.out, HLE.out⟩
          · have hin : i = n := by omega
            have hge : ¬ (i : Int) < (n : Int) := by omega
            have HVZ := Lib.hid (HZ.out.grows HA2.out.g)
            have hz0 : wr.cell? ⟨w1.heap.size + 1 + 1 + 1, 0, none⟩ = some (.slice a n cap) := HV2.out.cell 0
            have hz1 : wr.cell? ⟨w1.heap.size + 1 + 1 + 1, 1, none⟩ = some (.slice a' j c') := HV2.out.cell 1
            have hz2 : wr.cell? ⟨w1.heap.size + 1 + 1 + 1, 2, none⟩ = some (.map (some w1.heap.size)) := HV2.out.cell 2
            have hz3 : wr.cell? ⟨w1.heap.size + 1 + 1 + 1, 3, none⟩ = some (.map (some (w1.heap.size + 1))) := HV2.out.cell 3
            have hz4 : wr.cell? ⟨w1.heap.size + 1 + 1 + 1, 4, none⟩ = some (.map (some (w1.heap.size + 2))) := HV2.out.cell 4
            clear hlt
            go_wp2_with (with_reducible refine wpList_store_mid (op := ⟨none, .store 63 (.tmp 2) (.tmp 81), _, _, _, none⟩) rfl 63 (.tmp 2) (.tmp 81) rfl w.heap.size 0 [.slice a n cap, .slice a' j c', .map (some w1.heap.size), .map (some (w1.heap.size + 1)), .map (some (w1.heap.size + 2))].toArray ?b1 ?b2 ?b3 ?b4 ?b5 ?_)
            case b3 => exact HVZ.out.there 0 5 (by simp)
            case b4 => first | exact Option.map_eq_some_iff.1 info_view | exact info_view
            case b5 => exact ⟨rfl, rfl, rfl, rfl, rfl⟩
            refine bodyPost_ret (results_mix rfl _ _ w.heap.size _ rfl (ld_view (At.all (vs := [.slice a n cap, .slice a' j c', .map (some w1.heap.size), .map (some (w1.heap.size + 1)), .map (some (w1.heap.size + 2))]) HVZ.out rfl) rfl)) rfl ?_
            have hin2 : i = L.length := by rw [HN.out]; exact hin
            have hA := HA2.out
            have hjd : j = (decL L).length := HDD.out
            rw [hin2, hjd] at hA
            have hrl := hA.g.size
            have hbw : w.heap.size < w1.heap.size := HZ.out.lt
            refine ⟨Grows.setCells (Nat.le_refl _) _ _ (HG.out.trans hA.g), .inr ⟨HM.out, a', c', w1.heap.size, V, by rw [← hjd]; rfl, HG.out.size, HC.out, ?_, ?_⟩⟩
            · exact rd_setCells (HD.out.grows hA.g) (fun b off e hne => by
                rintro rfl
                exact names_apart HZ.out HD.out e hne) _ _
            · exact Vw.of hA hbw _
end Go.Proofs.Ytfigoeoimefngaa
