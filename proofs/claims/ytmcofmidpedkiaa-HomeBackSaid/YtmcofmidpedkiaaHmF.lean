/-
  home.read where nothing is sealed; cashboxlaw09.wakes.
-/
import Derived.Test.YtmcofmidpedkiaaHmE
import Derived.Lib.SlBytesConst
namespace Go.Proofs.Ytmcofmidpedkiaa
open Go.RowKit Go.Maps

set_option maxRecDepth 100000 in
set_option maxHeartbeats 1000000 in
theorem read_no (l : List Nat) (hl : l.length = 64) (hb : ∀ x ∈ l, x < 256) (hs : sealedB l 31 = false) (k : Int) (g1 c1 : Nat) (w : World) (hc : 64 ≤ c1) (hr : Rd w (some ⟨g1, 0, none⟩) (bys l)) :
    Calls Try.prog 30 #[.slice (some ⟨g1, 0, none⟩) 64 c1, .int .i64 k] w (RdPost w none) := by
  have hop := hopen_any l hl 31 (by omega) (by omega) g1 c1 hc w
  rw [hs] at hop
  have HOP : Hid (∀ W, Grows w W → Calls Try.prog 27 #[.slice (some ⟨g1, 0, none⟩) 64 c1, .int .i64 31] W fun e w' => OpenNo W e w') := fun W hW => by
    have h1 := hopen_any l hl 31 (by omega) (by omega) g1 c1 hc W (hr.grows hW) hb
    rw [hs] at h1
    exact h1.mono fun e w' h => by rwa [if_neg (by simp)] at h
  have hz := zsup
  unfold supv at hz
  have HA0 := Lib.hid (At.new w 39 #[.int .i64 0, .int .i64 0, .int .i64 0, .int .i64 0, .int .i64 0, .int .i64 0, .int .i64 0, .int .i64 0, .int .i64 0, .int .i64 0, .int .i64 0, .int .i64 0, .int .i64 0])
  clear hop hs hb hl hr
  go_enter Try.func30, Try.ntmps30
  go_wp2_with fail
  refine (HOP.out _ ((Grows.refl _).alloc _)).mono ?_
  rintro e w2 ⟨rfl, hG2⟩
  have HA2 := Lib.hid (HA0.out.grows hG2)
  have HG2 := Lib.hid (((Grows.refl w).alloc _).trans hG2)
  clear hG2
  have HA3 := Lib.hid (HA2.out.alloc (.cells #[.slice none 0 0] 28))
  go_wp2_with (with_reducible refine wpList_store_mid (op := ⟨none, .store 39 (.tmp 4) (.tmp 19), _, _, _, none⟩) rfl 39 (.tmp 4) (.tmp 19) rfl (w.heap.size) (0) #[.int .i64 0, .int .i64 0, .int .i64 0, .int .i64 0, .int .i64 0, .int .i64 0, .int .i64 0, .int .i64 0, .int .i64 0, .int .i64 0, .int .i64 0, .int .i64 0, .int .i64 0] ?s1a ?s1b ?s1c ?s1d ?s1e ?_)
  case s1a => rfl
  case s1b => rfl
  case s1c => exact HA3.out.there 0 13 (by simp)
  case s1d => kernel_rfl
  case s1e => exact one13 _ _ _ _ _ _ _ _ _ _ _ _ _
  exact bodyPost_ret (results_row_tmp Try.results30 _ _ w.heap.size 39 _ _ rfl (At.all (vs := ints [0, 0, 0, 0, 0, 0, 0, 0, 0, 0, 0, 0, 0]) (cs := ints [0, 0, 0, 0, 0, 0, 0, 0, 0, 0, 0, 0, 0]) HA3.out rfl) Try.underlying39 rfl (by kernel_rfl)) rfl ⟨0, 0, 0, 0, 0, 0, 0, 0, 0, 0, 0, 0, 0, false, rfl, Grows.setCells (Nat.le_refl _) _ _ (HG2.out.alloc _), rfl, fun L h => by cases h⟩

/-- A byte alone in a sector. -/
def xsec : List Nat := pad [120]
theorem xsec_len : xsec.length = 64 := pad_length _ (by simp)
theorem xsec_lt : ∀ x ∈ xsec, x < 256 := by decide +kernel
theorem xsec_z : zerosB xsec = false := by decide +kernel
theorem xsec_s : sealedB xsec 31 = false := by decide +kernel
theorem rd_zer (k : Nat) (hk : k < 34) : rdS zer noC k = List.replicate 64 0 := by
  unfold rdS noC zer
  simp only [List.getLast?_nil]
  rw [List.drop_replicate, List.take_replicate, Nat.min_eq_left (by omega)]
theorem zerosB_rep (n : Nat) : zerosB (List.replicate n 0) = true := by
  unfold zerosB
  rw [List.all_eq_true]
  intro x hx
  rw [List.eq_of_mem_replicate hx]
  rfl
theorem rdS_up' (dur : List Nat) (C : Nat → List (List Nat)) (x y : Nat) (L : List (List Nat)) (h : y ≠ x) : rdS dur (upC C x L) y = rdS dur C y := by unfold rdS; rw [upC_other C h]
theorem rdS_upx (dur : List Nat) (C : Nat → List (List Nat)) (x : Nat) (L : List (List Nat)) (l : List Nat) : rdS dur (upC C x (L ++ [l])) x = l := by
  unfold rdS
  rw [upC_same, List.getLast?_concat]
theorem rd_one (w : World) (x : Nat) : Rd (w.alloc (.cells #[.int .u8 (x : Int)] 5 (1, 2))) (some ⟨w.heap.size, 0, none⟩) (bys [x]) := rd_new w #[.int .u8 (x : Int)] _ (1, 2)
/-- GetSuper of a new disk. -/
theorem gs_new {w : World} {B : Nat} {O : Nat → Prop} {g : Nat} (h : Dk w B O g zer noC false) : Calls Try.prog 13 #[.pointer (some ⟨g, 0, none⟩)] w fun e w' => e = .returned (.tuple #[supv 0 1 0 0 1 0 0 0 0 0 0 0 0, .int .i64 0]) ∧ Grows w w' := by
  have hz : ∀ k, k < 2 → zerosB (rdS zer noC k) = true := fun k hk => by rw [rd_zer k (by omega)]; exact zerosB_rep 64
  refine (gs_any h (fun x _ => by simp [noC]) (fun _ => none) (fun k hk hz' => by rw [hz k hk] at hz'; cases hz')).mono ?_
  rintro e w' ⟨n, t, u, i, b, o0, o1, o2, o3, o4, o5, o6, o7, er, rfl, hG, hq⟩
  have hb : bst (fun k => zerosB (rdS zer noC k)) (fun _ => none) 2 = none := by simp [bst, hz 0 (by omega), hz 1 (by omega)]
  have he : emptyN (fun k => zerosB (rdS zer noC k)) 2 = 2 := by simp [emptyN, hz 0 (by omega), hz 1 (by omega)]
  rcases hq with ⟨L, h1, _⟩ | ⟨_, _, h3, h4⟩ | ⟨_, h2, _⟩
  · rw [hb] at h1; cases h1
  · subst h3
    injection h4 with e0 h4
    injection h4 with e1 h4
    injection h4 with e2 h4
    injection h4 with e3 h4
    injection h4 with e4 h4
    injection h4 with e5 h4
    injection h4 with e6 h4
    injection h4 with e7 h4
    injection h4 with e8 h4
    injection h4 with e9 h4
    injection h4 with e10 h4
    injection h4 with e11 h4
    injection h4 with e12 h4
    subst e0 e1 e2 e3 e4 e5 e6 e7 e8 e9 e10 e11 e12
    exact ⟨rfl, hG⟩
  · exact absurd he h2
/-- GetSuper where both sectors are spoilt. -/
theorem gs_bad {w : World} {B : Nat} {O : Nat → Prop} {g : Nat} {dur : List Nat} {C : Nat → List (List Nat)} (h : Dk w B O g dur C false) (hC : ∀ x, x < 34 → (C x).length ≤ 1000000) (h0 : rdS dur C 0 = xsec) (h1 : rdS dur C 1 = xsec) : Calls Try.prog 13 #[.pointer (some ⟨g, 0, none⟩)] w fun e w' => ∃ n t u i b o0 o1 o2 o3 o4 o5 o6 o7 : Int, e = .returned (.tuple #[supv n t u i b o0 o1 o2 o3 o4 o5 o6 o7, .int .i64 40]) ∧ Grows w w' := by
  have hx : ∀ k, k < 2 → rdS dur C k = xsec := fun k hk => by
    have : k = 0 ∨ k = 1 := by omega
    rcases this with rfl | rfl
    · exact h0
    · exact h1
  refine (gs_any h hC (fun _ => none) (fun k hk _ g1 c1 W hc hr => by rw [hx k hk] at hr; exact read_no xsec xsec_len xsec_lt xsec_s k g1 c1 W hc hr)).mono ?_
  rintro e w' ⟨n, t, u, i, b, o0, o1, o2, o3, o4, o5, o6, o7, er, rfl, hG, hq⟩
  have hz : ∀ k, k < 2 → zerosB (rdS dur C k) = false := fun k hk => by rw [hx k hk]; exact xsec_z
  have hb : bst (fun k => zerosB (rdS dur C k)) (fun _ => none) 2 = none := by simp [bst]
  have he : emptyN (fun k => zerosB (rdS dur C k)) 2 = 0 := by simp [emptyN, hz 0 (by omega), hz 1 (by omega)]
  rcases hq with ⟨L, h1, _⟩ | ⟨_, h2, _⟩ | ⟨_, _, h3⟩
  · rw [hb] at h1; cases h1
  · rw [he] at h2; cases h2
  · subst h3
    exact ⟨n, t, u, i, b, o0, o1, o2, o3, o4, o5, o6, o7, rfl, hG⟩
end Go.Proofs.Ytmcofmidpedkiaa
