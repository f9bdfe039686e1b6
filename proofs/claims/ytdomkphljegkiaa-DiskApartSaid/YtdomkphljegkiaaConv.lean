/-
  string(b) of bytes that read as a list.
-/
import Derived.Test.YtdomkphljegkiaaApp
import Derived.Laws.BytesArg
namespace Go.Proofs.Ytdomkphljegkiaa
open Go.RowKit

/-- The string of some bytes. -/
def strN (l : List Nat) : ByteArray := ⟨(l.map UInt8.ofNat).toArray⟩
theorem strN_toList (l : List Nat) : (strN l).toList = l.map UInt8.ofNat := by
  rw [ByteArray.toList_eq]
  simp [strN]
theorem strN_inj {l l' : List Nat} (h : ∀ x ∈ l, x < 256) (h' : ∀ x ∈ l', x < 256) (e : (strN l).toList = (strN l').toList) : l = l' := by
  rw [strN_toList, strN_toList] at e
  induction l generalizing l' with
  | nil => cases l' with
    | nil => rfl
    | cons y l' => simp at e
  | cons x l ih => cases l' with
    | nil => simp at e
    | cons y l' =>
      simp only [List.map_cons, List.cons.injEq] at e
      have hx := h x (by simp)
      have hy := h' y (by simp)
      have h1 := congrArg UInt8.toNat e.1
      simp at h1
      rw [ih (fun z hz => h z (by simp [hz])) (fun z hz => h' z (by simp [hz])) e.2]
      congr 1
      omega

theorem run_conv {P : Program} (w : World) (src dst e : TypeId) (hs : P.underlying src = some (.slice e)) (he : P.underlying e = some (.int .u8)) (hd : P.underlying dst = some .string)
    (a : Option Addr) (l : List Nat) (n cap : Nat) (hn : l.length = n) (hr : Rd w a (bys l)) : (convert src dst (.slice a n cap)).run P w = .ok (.string (strN l)) w := by
  subst hn
  cases a with
  | none =>
    have : l = [] := by
      rcases hr with h | ⟨b, off, h, _⟩
      · cases l with
        | nil => rfl
        | cons x l => simp [bys] at h
      · cases h
    subst this
    rw [run_convert_bytes_nil w src e hs he _ _ dst hd]
    rfl
  | some ad =>
    by_cases h0 : l.length = 0
    · have : l = [] := List.eq_nil_of_length_eq_zero h0
      subst this
      rw [run_convert_bytes_string w src dst e _ _ cap hs he hd, run_bytesToString w _ _ cap [] (by simp [loadCells, loadCellsFrom])]
      rfl
    · obtain ⟨b, off, hab, _, hc⟩ := hr.at (by rw [bys_length]; omega)
      injection hab with hab
      subst hab
      rw [run_convert_bytes_arg w src e hs he b off l.length cap (l.map Int.ofNat) (by simp) (fun i hi => by
        rw [hc i (by rw [bys_length]; exact hi), bys_at l i hi]
        simp [List.getElem?_eq_getElem hi]) dst hd]
      congr 2
      unfold strOfNums strN
      congr 2
      rw [List.map_map]
      rfl

end Go.Proofs.Ytdomkphljegkiaa
