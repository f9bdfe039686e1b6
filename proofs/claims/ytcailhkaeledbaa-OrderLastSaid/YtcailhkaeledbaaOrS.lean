/-
  slices.SortFunc at names, by the places of their Commits.
-/
import Derived.Test.YtcailhkaeledbaaOrG
import Derived.Test.YtcailhkaeledbaaOrH
namespace Go.Proofs.Ytcailhkaeledbaa
open Go.RowKit Go.Maps Go.Shelf Go.Lib Go.Sort

abbrev Nk := { n : Nm // n.ok }
instance : Inhabited Nk := ⟨⟨Nm.zero, Nm.zero_ok⟩⟩
def encN (x : Nk) : List Value := x.1.cs
def cfN (l : List Sn) (x y : Nk) : Int := cmpI (tk l x.1).p (tk l y.1).p
theorem ltN (l : List Sn) (x y : Nk) : ltOf (cfN l) x y = decide ((tk l x.1).p < (tk l y.1).p) := by
  unfold ltOf cfN cmpI
  by_cases h1 : (tk l x.1).p < (tk l y.1).p
  · simp [h1]
  · by_cases h2 : (tk l y.1).p < (tk l x.1).p <;> simp [h1, h2]
theorem swoN (l : List Sn) : SWO (ltOf (cfN l)) where
  irrefl x := by rw [ltN]; simp
  trans x y z h1 h2 := by rw [ltN] at *; simp at *; omega
  ntrans x y z h1 h2 := by rw [ltN] at *; simp at *; omega
theorem aggN (w : World) : (isAgg 31).run Try.prog w = .ok true w := by kernel_rfl
theorem sizeN (w : World) : (Go.sizeOf 31).run Try.prog w = .ok 3 w := by kernel_rfl
/-- The blocks of a world that the sort passes through. -/
theorem heap_sort {α : Type} [Inhabited α] (enc : α → List Value) (k : Nat) (W : World) (blk off n : Nat) (dk : Array α) (os : Array Obj) (j : Nat) (h1 : j ≠ blk) (h2 : j < W.heap.size) : (sortWorldK enc k W blk off n dk os).heap[j]? = W.heap[j]? := by
  have e : (putRowK enc k (Sort.ahead W n) blk off dk).heap[j]? = W.heap[j]? := by
    simp [putRowK, putRow, mapBlock, Sort.ahead, Array.getElem?_modify, Ne.symm h1]
  unfold sortWorldK grow
  simp only
  rw [Array.getElem?_append_left (by rw [size_putRowK]; exact h2)]
  exact e
theorem names_sub : ∀ (ns : List Nm), (∀ n ∈ ns, n.ok) → ∃ ds : List Nk, ds.map Subtype.val = ns
  | [], _ => ⟨[], rfl⟩
  | n :: ns, h => by
    obtain ⟨ds, hd⟩ := names_sub ns (fun x hx => h x (by simp [hx]))
    exact ⟨⟨n, h n (by simp)⟩ :: ds, by simp [hd]⟩
theorem flat_rows (ds : List Nk) (j : Nat) (hj : j < ds.length * 3) : (flatK encN 3 ds.toArray)[j]! = ((rowsOf Nm.cs (ds.map Subtype.val))[j]?).getD default := by
  rw [get_flatK encN 3 ds.toArray j (by simpa using hj)]
  have h1 : j / 3 < ds.length := by omega
  have h2 := rows_get Nm.cs_len (ds.map Subtype.val) (j / 3) (j % 3) (by simpa using h1) (by omega)
  rw [show j / 3 * 3 + j % 3 = j by omega] at h2
  rw [h2]
  have h3 : ds.toArray[j / 3]! = ds[j / 3] := by simp [h1]
  rw [h3]
  simp only [List.getElem_map, encN]
  rw [List.getElem!_eq_getElem?_getD]
theorem rd_holds {w : World} {g : Nat} {ds : List Nk} (h : HoldsK encN 3 w g 0 ds.toArray) (hg : g < w.heap.size) : Rd w (some ⟨g, 0, none⟩) (rowsOf Nm.cs (ds.map Subtype.val)) := by
  refine .inr ⟨g, 0, rfl, hg, fun i v hv => ?_⟩
  have hl : i < ds.length * 3 := by
    rcases Nat.lt_or_ge i (ds.length * 3) with h | h
    · exact h
    · rw [List.getElem?_eq_none (by rw [rows_length Nm.cs_len, List.length_map]; exact h)] at hv; cases hv
  have := (h i (by simpa using hl)).1
  rw [this]
  simp only [id_eq]
  rw [flat_rows ds i hl, hv]
  rfl
theorem holds_own {w : World} {B g cap : Nat} {ds : List Nk} (h : w.ownsRow B 31 3 (.slice (some ⟨g, 0, none⟩) ds.length cap) ds.length (rowsOf Nm.cs (ds.map Subtype.val))) : HoldsK encN 3 w g 0 ds.toArray := by
  intro j hj
  have hj' : j < ds.length * 3 := by simpa using hj
  obtain ⟨cur, hcur, _⟩ := own_typed h (b := g) rfl
  constructor
  · have hx : j < (rowsOf Nm.cs (ds.map Subtype.val)).length := by rw [rows_length Nm.cs_len, List.length_map]; exact hj'
    obtain ⟨b, off, e, _, hc⟩ := (Rd.own h).at (by omega)
    cases e
    rw [hc j hx]
    simp only [id_eq]
    rw [flat_rows ds j hj', List.getElem?_eq_getElem hx]
    rfl
  · simp [World.frozen?, hcur]

set_option maxHeartbeats 2000000 in
theorem sort_any {wr : World} {B m bx g cap B0 : Nat} {l : List Sn} {V : Nm → Value} (hT : Tr wr B m l V) (hbx : At wr bx 44 #[.map (some m)]) (ns : List Nm) (hns : ∀ n ∈ ns, n.ok)
    (hown : wr.ownsRow B0 31 3 (.slice (some ⟨g, 0, none⟩) ns.length cap) ns.length (rowsOf Nm.cs ns)) (hlen : ns.length ≤ 1000000) :
    Calls Try.prog 20 #[.slice (some ⟨g, 0, none⟩) ns.length cap, .func (.func 21) #[] #[.pointer (some ⟨bx, 0, none⟩)]] wr fun e w' =>
      e = .returned (.tuple #[]) ∧ ∃ ns' : List Nm, ns'.Perm ns ∧ ns'.Pairwise (fun a b => (tk l a).p ≤ (tk l b).p) ∧ Rd w' (some ⟨g, 0, none⟩) (rowsOf Nm.cs ns') ∧ Turns (fun i => i = g) wr w' (fun i => i = g) := by
  obtain ⟨ds, rfl⟩ := names_sub ns hns
  rw [List.length_map] at hown hlen ⊢
  obtain ⟨cur, hcur, _, hgl⟩ := own_typed hown (b := g) rfl
  have hH := holds_own hown
  have hgb : g ≠ bx := fun e => own_apart hown hbx (by decide) (by rw [← e]; rfl)
  obtain ⟨es, cl, hmb⟩ := hT.map.block
  have hgm : m ≠ g := fun e => by rw [e, hcur] at hmb; cases hmb
  have hcmp : CmpLays Try.prog 21 #[.pointer (some ⟨bx, 0, none⟩)] encN 3 (cfN l) g 0 ds.toArray.size wr := by
    intro k os dk hs x y
    have hTW : Tr (sortWorldK encN 3 wr g 0 k dk os) B m l V := hT.same (heap_sort _ _ _ _ _ _ _ _ _ hgm hT.map.lt) (fun n b hb => by
      obtain ⟨cur', q, _, ql⟩ := own_typed (hT.row n) hb
      refine heap_sort _ _ _ _ _ _ _ _ _ (fun e => ?_) ql
      rw [e, hcur] at q
      injection q with q
      injection q with _ q
      exact absurd q (by decide))
    have hbW : At (sortWorldK encN 3 wr g 0 k dk os) bx 44 #[.map (some m)] := (heap_sort _ _ _ _ _ _ _ _ _ (Ne.symm hgb) hbx.lt).trans hbx
    obtain ⟨ax, px, hvx, _⟩ := own_slice (hT.row x.1)
    obtain ⟨ay, py, hvy, _⟩ := own_slice (hT.row y.1)
    exact cmpNm_any x.1 y.1 (tk l x.1) (tk l y.1) ax ay _ px _ py m bx _ (hbW.cell 0) (fun W' hW' => by have := (hTW.grows hW').look x.2; rwa [hvx] at this) (fun W' hW' => by have := (hTW.grows hW').look y.2; rwa [hvy] at this)
  have eg : ∀ args w, (callFunc 21 args).run Try.prog w = .ok (.enter 21 args) w := enters_of Try.func21 (by kernel_rfl) rfl
  have hcon := AnyQ.slices_SortFunc sortNm 3 aggN sizeN encN (fun _ => rfl) (fun x v hv => by simp [encN, Nm.cs] at hv; rcases hv with rfl | rfl | rfl <;> rfl) (cfN l) (swoN l) 21 #[.pointer (some ⟨bx, 0, none⟩)] g 0 cap ds.toArray wr eg hcmp hH hgl (by simp; omega)
  have hsz : ds.toArray.size = ds.length := by simp
  rw [hsz] at hcon
  refine Calls.mono hcon ?_
  rintro e w' ⟨rfl, d', n, os, hp, hs, rfl⟩
  obtain ⟨p1, p2, p3⟩ := hp
  refine ⟨rfl, d'.toList.map Subtype.val, ?_, ?_, ?_, ?_⟩
  · have e2 : d'.extract 0 ds.length = d' := by rw [← hsz, ← p1]; exact Array.extract_size
    rw [e2, ← hsz, Array.extract_size] at p3
    exact p3.map Subtype.val
  · rw [List.pairwise_map, List.pairwise_iff_getElem]
    intro i j hi hj hij
    have hi' : i < d'.size := by simpa using hi
    have hj' : j < d'.size := by simpa using hj
    have h9 := hs i j (Nat.zero_le _) hij (by omega)
    rw [getElem!_pos d' j hj', getElem!_pos d' i hi', ltN] at h9
    simp only [decide_eq_false_iff_not, Int.not_lt] at h9
    simpa using h9
  · have := holdsK_sortWorldK_c (enc := encN) (k := 3) (w := wr) (blk := g) (off := 0) ds.toArray d' n os hH hgl p1
    exact rd_holds (ds := d'.toList) (by simpa using this) (Nat.lt_of_lt_of_le hgl (size_sortWorldK_c encN 3 wr g 0 n d' os))
  · exact ⟨rfl, rfl, rfl, size_sortWorldK_c encN 3 wr g 0 n d' os, fun i hi hn => heap_sort _ _ _ _ _ _ _ _ _ hn hi, fun i hi => .inl hi⟩
end Go.Proofs.Ytcailhkaeledbaa
