/-
  Plain: graphs of names: who is reached, how long ways are.
-/
import Derived.Test.YtpllcjggjjapoaaNmH
namespace Go.Proofs.Ytpllcjggjjapoaa

abbrev Ed := Nm × Nm
def suc (E : List Ed) (n : Nm) : List Nm := (E.filter fun e => decide (e.1 = n)).map Prod.snd
theorem mem_suc {E : List Ed} {n x : Nm} : x ∈ suc E n ↔ (n, x) ∈ E := by
  unfold suc
  rw [List.mem_map]
  constructor
  · rintro ⟨e, he, rfl⟩
    have := List.mem_filter.1 he
    have h2 : e.1 = n := by simpa using this.2
    rw [← h2]; exact this.1
  · intro h
    exact ⟨(n, x), List.mem_filter.2 ⟨h, by simp⟩, rfl⟩
theorem suc_snoc (E : List Ed) (e : Ed) (n : Nm) : suc (E ++ [e]) n = suc E n ++ if e.1 = n then [e.2] else [] := by
  unfold suc
  rw [List.filter_append, List.map_append]
  congr 1
  by_cases h : e.1 = n <;> simp [h]
theorem suc_len (E : List Ed) (n : Nm) : (suc E n).length ≤ E.length := by
  unfold suc
  rw [List.length_map]
  exact List.length_filter_le _ _
inductive Reach (E : List Ed) : Nm → Nm → Prop
  | one {a b : Nm} : (a, b) ∈ E → Reach E a b
  | step {a b c : Nm} : (a, b) ∈ E → Reach E b c → Reach E a c
theorem Reach.mono {E F : List Ed} (h : ∀ e ∈ E, e ∈ F) {a b : Nm} (r : Reach E a b) : Reach F a b := by
  induction r with
  | one h1 => exact .one (h _ h1)
  | step h1 _ ih => exact .step (h _ h1) ih
theorem Reach.snoc {E : List Ed} {a b c : Nm} (r : Reach E a b) (h : (b, c) ∈ E) : Reach E a c := by
  induction r with
  | one h1 => exact .step h1 (.one h)
  | step h1 _ ih => exact .step h1 (ih h)
inductive Path (E : List Ed) : Nm → Nat → Prop
  | nil (a : Nm) : Path E a 0
  | cons {a b : Nm} {k : Nat} : (a, b) ∈ E → Path E b k → Path E a (k + 1)
theorem Path.mono {E F : List Ed} (h : ∀ e ∈ E, e ∈ F) {a : Nm} {k : Nat} (r : Path E a k) : Path F a k := by
  induction r with
  | nil a => exact .nil a
  | cons h1 _ ih => exact .cons (h _ h1) ih
theorem Path.less {E : List Ed} {a : Nm} {j k : Nat} (r : Path E a j) (h : k ≤ j) : Path E a k := by
  induction r generalizing k with
  | nil a => rw [Nat.le_zero.1 h]; exact .nil a
  | cons h1 _ ih =>
    cases k with
    | zero => exact .nil _
    | succ k => exact .cons h1 (ih (by omega))
theorem Reach.longer {E : List Ed} {a b : Nm} (r : Reach E a b) {k : Nat} (p : Path E b k) : Path E a (k + 1) := by
  induction r generalizing k with
  | one h1 => exact .cons h1 p
  | step h1 _ ih => exact (Path.cons h1 (ih p)).less (by omega)
theorem Reach.cyc {E : List Ed} {a : Nm} (r : Reach E a a) : ∀ k, Path E a k
  | 0 => .nil a
  | k + 1 => r.longer (Reach.cyc r k)
/-- What Deep tells. -/
def DeepS (E : List Ed) (v : Int) : Prop := (v = -1 ∧ ∃ x, Reach E x x) ∨ ∃ d : Nat, v = d ∧ (∃ n, Path E n d) ∧ ∀ n k, Path E n k → k ≤ d
theorem DeepS.cyc {E F : List Ed} (hs : ∀ e ∈ E, e ∈ F) {v u : Int} (h : DeepS E v) (k : DeepS F u) (hv : v < 0) : u < 0 := by
  rcases h with ⟨rfl, x, hx⟩ | ⟨d, rfl, _⟩
  · rcases k with ⟨rfl, _⟩ | ⟨d, rfl, _, h2⟩
    · omega
    · have := h2 x (d + 1) ((hx.mono hs).cyc _)
      omega
  · omega
theorem DeepS.le {E F : List Ed} (hs : ∀ e ∈ E, e ∈ F) {v u : Int} (h : DeepS E v) (k : DeepS F u) (hu : 0 ≤ u) : v ≤ u := by
  rcases k with ⟨rfl, _⟩ | ⟨d, rfl, _, h2⟩
  · omega
  · rcases h with ⟨rfl, _⟩ | ⟨d', rfl, ⟨n, hn⟩, _⟩
    · omega
    · have := h2 n d' (hn.mono hs)
      omega
theorem DeepS.eq {E F : List Ed} (hs : ∀ e, e ∈ E ↔ e ∈ F) {v u : Int} (h : DeepS E v) (k : DeepS F u) : v = u := by
  have h1 : ∀ e ∈ E, e ∈ F := fun e => (hs e).1
  have h2 : ∀ e ∈ F, e ∈ E := fun e => (hs e).2
  have hv : v < 0 → v = -1 := fun hv => by rcases h with ⟨rfl, _⟩ | ⟨d, rfl, _⟩ <;> omega
  have hu : u < 0 → u = -1 := fun hv => by rcases k with ⟨rfl, _⟩ | ⟨d, rfl, _⟩ <;> omega
  by_cases c : v < 0
  · have := h.cyc h1 k c
    omega
  · by_cases c2 : u < 0
    · have := k.cyc h2 h c2
      omega
    · have := h.le h1 k (by omega)
      have := k.le h2 h (by omega)
      omega
/-- d is the height of each of K. -/
structure Ht (E : List Ed) (K : List Nm) (d : Nm → Nat) : Prop where
  closed : ∀ x ∈ K, ∀ y, (x, y) ∈ E → y ∈ K ∧ d y + 1 ≤ d x
  tight : ∀ x ∈ K, d x = 0 ∨ ∃ y, (x, y) ∈ E ∧ d x = d y + 1
theorem Ht.path {E : List Ed} {K : List Nm} {d : Nm → Nat} (h : Ht E K d) : ∀ (k : Nat) (x : Nm), x ∈ K → d x = k → Path E x k
  | 0, x, _, _ => .nil x
  | k + 1, x, hx, hk => by
    rcases h.tight x hx with h0 | ⟨y, hy, hd⟩
    · omega
    · exact .cons hy (h.path k y (h.closed x hx y hy).1 (by omega))
theorem Ht.le {E : List Ed} {K : List Nm} {d : Nm → Nat} (h : Ht E K d) {x : Nm} {k : Nat} (p : Path E x k) : x ∈ K → k ≤ d x := by
  induction p with
  | nil a => intro _; exact Nat.zero_le _
  | cons h1 _ ih =>
    intro hx
    obtain ⟨h2, h3⟩ := h.closed _ hx _ h1
    have := ih h2
    omega
def nodes (E : List Ed) : List Nm := E.map Prod.fst ++ E.map Prod.snd
theorem nodes_len (E : List Ed) : (nodes E).length = 2 * E.length := by simp [nodes]; omega
theorem mem_nodes {E : List Ed} {a b : Nm} (h : (a, b) ∈ E) : a ∈ nodes E ∧ b ∈ nodes E := by
  unfold nodes
  rw [List.mem_append, List.mem_append]
  exact ⟨.inl (List.mem_map.2 ⟨_, h, rfl⟩), .inr (List.mem_map.2 ⟨_, h, rfl⟩)⟩
/-- The state of a walk: K known with heights d, U under. -/
structure Inv (E : List Ed) (K U : List Nm) (d : Nm → Nat) : Prop where
  ht : Ht E K d
  sub : ∀ x ∈ K, x ∈ U
  nd : U.Nodup
  kd : K.Nodup
  nod : ∀ x ∈ U, x ∈ nodes E
  bd : ∀ x ∈ K, d x ≤ K.length
theorem nodup_le : ∀ (a b : List Nm), a.Nodup → (∀ x ∈ a, x ∈ b) → a.length ≤ b.length
  | [], _, _, _ => Nat.zero_le _
  | x :: a, b, h, hs => by
    obtain ⟨h1, h2⟩ := List.nodup_cons.1 h
    obtain ⟨s, t, rfl⟩ := List.append_of_mem (hs x (by simp))
    have := nodup_le a (s ++ t) h2 fun y hy => by
      have h3 := hs y (by simp [hy])
      have h4 : y ≠ x := fun e => h1 (e ▸ hy)
      simp only [List.mem_append, List.mem_cons] at h3 ⊢
      rcases h3 with h3 | h3 | h3
      · exact .inl h3
      · exact absurd h3 h4
      · exact .inr h3
    simp only [List.length_append, List.length_cons] at this ⊢
    omega
theorem Inv.len {E : List Ed} {K U : List Nm} {d : Nm → Nat} (h : Inv E K U d) : U.length ≤ 2 * E.length ∧ K.length ≤ 2 * E.length := by
  have h1 := nodup_le U (nodes E) h.nd h.nod
  have h2 := nodup_le K (nodes E) h.kd (fun x hx => h.nod x (h.sub x hx))
  rw [nodes_len] at h1 h2
  exact ⟨h1, h2⟩
/-- What a walk from n leaves, where it found no circle. -/
structure Wlk (E : List Ed) (K U : List Nm) (d : Nm → Nat) (K' U' : List Nm) (d' : Nm → Nat) : Prop where
  inv : Inv E K' U' d'
  old : ∀ x ∈ K, x ∈ K' ∧ d' x = d x
  same : ∀ x, (x ∈ U' ∧ x ∉ K') ↔ (x ∈ U ∧ x ∉ K)
  under : ∀ x ∈ U, x ∈ U'
theorem Wlk.refl {E : List Ed} {K U : List Nm} {d : Nm → Nat} (h : Inv E K U d) : Wlk E K U d K U d := ⟨h, fun _ hx => ⟨hx, rfl⟩, fun _ => Iff.rfl, fun _ h => h⟩
theorem Wlk.trans {E : List Ed} {K U K' U' K2 U2 : List Nm} {d d' d2 : Nm → Nat} (h : Wlk E K U d K' U' d') (k : Wlk E K' U' d' K2 U2 d2) : Wlk E K U d K2 U2 d2 :=
  ⟨k.inv, fun x hx => ⟨(k.old x (h.old x hx).1).1, ((k.old x (h.old x hx).1).2).trans (h.old x hx).2⟩, fun x => (k.same x).trans (h.same x), fun x hx => k.under x (h.under x hx)⟩
/-- The longest of the first j ways. -/
structure Lng (ts : List Nm) (j : Nat) (d : Nm → Nat) (K : List Nm) (long : Nat) : Prop where
  all : ∀ y ∈ ts.take j, y ∈ K ∧ d y + 1 ≤ long
  one : long = 0 ∨ ∃ y ∈ ts.take j, long = d y + 1
theorem Lng.zero (ts : List Nm) (d : Nm → Nat) (K : List Nm) : Lng ts 0 d K 0 := ⟨fun y hy => by simp at hy, .inl rfl⟩
theorem Lng.old {ts : List Nm} {j : Nat} {d d' : Nm → Nat} {K K' : List Nm} {long : Nat} (h : Lng ts j d K long) (ho : ∀ x ∈ K, x ∈ K' ∧ d' x = d x) : Lng ts j d' K' long := by
  refine ⟨fun y hy => ?_, ?_⟩
  · obtain ⟨h1, h2⟩ := h.all y hy
    exact ⟨(ho y h1).1, by rw [(ho y h1).2]; exact h2⟩
  · rcases h.one with h1 | ⟨y, hy, h1⟩
    · exact .inl h1
    · exact .inr ⟨y, hy, by rw [(ho y (h.all y hy).1).2]; exact h1⟩
theorem Lng.next {ts : List Nm} {j : Nat} {d : Nm → Nat} {K : List Nm} {long : Nat} (h : Lng ts j d K long) {y : Nm} (hy : ts[j]? = some y) (hk : y ∈ K) : Lng ts (j + 1) d K (max long (d y + 1)) := by
  have e : ts.take (j + 1) = ts.take j ++ [y] := by rw [List.take_add_one, hy]; rfl
  refine ⟨fun z hz => ?_, ?_⟩
  · rw [e, List.mem_append, List.mem_singleton] at hz
    rcases hz with hz | rfl
    · obtain ⟨h1, h2⟩ := h.all z hz
      exact ⟨h1, by omega⟩
    · exact ⟨hk, by omega⟩
  · rw [e]
    by_cases c : long ≤ d y + 1
    · exact .inr ⟨y, by simp, by omega⟩
    · rcases h.one with h1 | ⟨z, hz, h1⟩
      · omega
      · exact .inr ⟨z, by simp [hz], by omega⟩
/-- n gets known. -/
theorem Wlk.close {E : List Ed} {K U : List Nm} {d : Nm → Nat} {n : Nm} {K' U' : List Nm} {d' : Nm → Nat} {long : Nat} (hU : n ∉ U) (h : Wlk E K (n :: U) d K' U' d') (hK : n ∉ K') (hl : Lng (suc E n) (suc E n).length d' K' long) :
    Wlk E K U d (n :: K') U' (fun x => if x = n then long else d' x) := by
  have hn' : n ∈ U' := h.under n (by simp)
  have hne : ∀ x ∈ K', x ≠ n := fun x hx e => hK (e ▸ hx)
  have hall : ∀ y, (n, y) ∈ E → y ∈ K' ∧ d' y + 1 ≤ long := fun y hy => hl.all y (by rw [List.take_length]; exact mem_suc.2 hy)
  refine ⟨⟨⟨fun x hx y hy => ?_, fun x hx => ?_⟩, fun x hx => ?_, h.inv.nd, List.nodup_cons.2 ⟨hK, h.inv.kd⟩, h.inv.nod, fun x hx => ?_⟩, fun x hx => ?_, fun x => ?_, fun x hx => h.under x (by simp [hx])⟩
  · rcases List.mem_cons.1 hx with rfl | hx
    · obtain ⟨h1, h2⟩ := hall y hy
      refine ⟨by simp [h1], ?_⟩
      rw [if_neg (hne y h1), if_pos rfl]
      exact h2
    · obtain ⟨h1, h2⟩ := h.inv.ht.closed x hx y hy
      refine ⟨by simp [h1], ?_⟩
      rw [if_neg (hne y h1), if_neg (hne x hx)]
      exact h2
  · rcases List.mem_cons.1 hx with rfl | hx
    · simp only [if_true]
      rcases hl.one with h1 | ⟨y, hy, h1⟩
      · exact .inl h1
      · rw [List.take_length] at hy
        have hy' := mem_suc.1 hy
        exact .inr ⟨y, hy', by rw [if_neg (hne y (hall y hy').1)]; exact h1⟩
    · rw [if_neg (hne x hx)]
      rcases h.inv.ht.tight x hx with h1 | ⟨y, hy, h1⟩
      · exact .inl h1
      · exact .inr ⟨y, hy, by rw [if_neg (hne y (h.inv.ht.closed x hx y hy).1)]; exact h1⟩
  · rcases List.mem_cons.1 hx with rfl | hx
    · exact hn'
    · exact h.inv.sub x hx
  · rw [List.length_cons]
    rcases List.mem_cons.1 hx with rfl | hx
    · rw [if_pos rfl]
      rcases hl.one with h1 | ⟨y, hy, h1⟩
      · omega
      · have := h.inv.bd y (hl.all y hy).1
        omega
    · rw [if_neg (hne x hx)]
      have := h.inv.bd x hx
      omega
  · obtain ⟨h1, h2⟩ := h.old x hx
    refine ⟨by simp [h1], ?_⟩
    rw [if_neg (hne x h1)]
    exact h2
  · constructor
    · rintro ⟨h1, h2⟩
      simp only [List.mem_cons, not_or] at h2
      obtain ⟨h3, h4⟩ := (h.same x).1 ⟨h1, h2.2⟩
      rcases List.mem_cons.1 h3 with h3 | h3
      · exact absurd h3 h2.1
      · exact ⟨h3, h4⟩
    · rintro ⟨h1, h2⟩
      obtain ⟨h3, h4⟩ := (h.same x).2 ⟨by simp [h1], h2⟩
      refine ⟨h3, ?_⟩
      simp only [List.mem_cons, not_or]
      exact ⟨fun e => hU (e ▸ h1), h4⟩
theorem Wlk.notK {E : List Ed} {K U : List Nm} {d : Nm → Nat} {n : Nm} {K' U' : List Nm} {d' : Nm → Nat} (hU : n ∉ U) (hsub : ∀ x ∈ K, x ∈ U) (h : Wlk E K (n :: U) d K' U' d') : n ∉ K' := fun e => ((h.same n).2 ⟨by simp, fun e => hU (hsub n e)⟩).2 e
theorem deep_end {E : List Ed} {K U : List Nm} {d : Nm → Nat} (h : Inv E K U d) {v : Nat} (hl : Lng (E.map Prod.fst) E.length (fun x => d x) K (v + 1) ∨ (v = 0 ∧ ∀ e ∈ E, e.1 ∈ K ∧ d e.1 = 0)) : DeepS E v := by
  right
  refine ⟨v, rfl, ?_, fun n k p => ?_⟩
  · rcases hl with hl | ⟨rfl, _⟩
    · rcases hl.one with h0 | ⟨y, hy, h1⟩
      · omega
      · exact ⟨y, h.ht.path v y (hl.all y hy).1 (by omega)⟩
    · exact ⟨⟨0, 0, 0⟩, .nil _⟩
  · cases p with
    | nil => exact Nat.zero_le _
    | cons h1 p =>
      have hp := Path.cons h1 p
      rcases hl with hl | ⟨rfl, h0⟩
      · have hm := hl.all n (by rw [show E.length = (E.map Prod.fst).length by simp, List.take_length]; exact List.mem_map.2 ⟨_, h1, rfl⟩)
        have := h.ht.le hp hm.1
        omega
      · obtain ⟨h2, h3⟩ := h0 _ h1
        have := h.ht.le hp h2
        simp only at h3
        omega
-- who is reached
structure FrJ (E : List Ed) (n : Nm) (ts : List Nm) (j : Nat) (out out' : List Nm) : Prop where
  new : ∃ new, out' = out ++ new ∧ (∀ x ∈ new, Reach E n x) ∧ ∀ y ∈ new, ∀ z, (y, z) ∈ E → z ∈ out'
  got : ∀ z ∈ ts.take j, z ∈ out'
  nd : out'.Nodup
theorem FrJ.start {E : List Ed} {n : Nm} {ts out : List Nm} (h : out.Nodup) : FrJ E n ts 0 out out := ⟨⟨[], by simp, by simp, by simp⟩, by simp, h⟩
theorem FrJ.skip {E : List Ed} {n m : Nm} {ts out out' : List Nm} {j : Nat} (h : FrJ E n ts j out out') (hm : ts[j]? = some m) (hi : m ∈ out') : FrJ E n ts (j + 1) out out' := by
  refine ⟨h.new, fun z hz => ?_, h.nd⟩
  rw [List.take_add_one, hm] at hz
  rcases List.mem_append.1 hz with hz | hz
  · exact h.got z hz
  · simp at hz; rw [hz]; exact hi
theorem FrJ.next {E : List Ed} {n m : Nm} {out out' out2 : List Nm} {j : Nat} (h : FrJ E n (suc E n) j out out') (hm : (suc E n)[j]? = some m) (k : FrJ E m (suc E m) (suc E m).length (out' ++ [m]) out2) : FrJ E n (suc E n) (j + 1) out out2 := by
  have hnm : (n, m) ∈ E := mem_suc.1 (List.mem_of_getElem? hm)
  obtain ⟨new, rfl, h1, h2⟩ := h.new
  obtain ⟨new2, rfl, k1, k2⟩ := k.new
  refine ⟨⟨new ++ ([m] ++ new2), by simp, fun x hx => ?_, fun y hy z hz => ?_⟩, fun z hz => ?_, k.nd⟩
  · simp only [List.mem_append, List.mem_singleton] at hx
    rcases hx with hx | rfl | hx
    · exact h1 x hx
    · exact .one hnm
    · exact .step hnm (k1 x hx)
  · simp only [List.mem_append, List.mem_singleton] at hy
    rcases hy with hy | rfl | hy
    · have := h2 y hy z hz
      simp only [List.mem_append] at this ⊢
      exact .inl (.inl this)
    · exact k.got z (by rw [List.take_length]; exact mem_suc.2 hz)
    · exact k2 y hy z hz
  · rw [List.take_add_one, hm] at hz
    rcases List.mem_append.1 hz with hz | hz
    · have := h.got z hz
      simp only [List.mem_append] at this ⊢
      exact .inl (.inl this)
    · simp at hz; subst hz; simp
theorem FrJ.reach {E : List Ed} {n : Nm} {out : List Nm} (h : FrJ E n (suc E n) (suc E n).length [] out) (x : Nm) : x ∈ out ↔ Reach E n x := by
  obtain ⟨new, e, h1, h2⟩ := h.new
  rw [List.nil_append] at e
  subst e
  refine ⟨h1 x, fun r => ?_⟩
  have aux : ∀ a b, Reach E a b → (a = n ∨ a ∈ out) → b ∈ out := by
    intro a b r
    induction r with
    | one h3 =>
      rintro (rfl | h4)
      · exact h.got _ (by rw [List.take_length]; exact mem_suc.2 h3)
      · exact h2 _ h4 _ h3
    | step h3 _ ih =>
      rintro (rfl | h4)
      · exact ih (.inr (h.got _ (by rw [List.take_length]; exact mem_suc.2 h3)))
      · exact ih (.inr (h2 _ h4 _ h3))
  exact aux n x r (.inl rfl)
theorem FrJ.len {E : List Ed} {n : Nm} {ts out out' : List Nm} {j : Nat} (h : FrJ E n ts j out out') (ho : ∀ x ∈ out, x ∈ E.map Prod.snd) : (∀ x ∈ out', x ∈ E.map Prod.snd) ∧ out'.length ≤ E.length := by
  have hx : ∀ x ∈ out', x ∈ E.map Prod.snd := fun x hx => by
    obtain ⟨new, rfl, h1, _⟩ := h.new
    rcases List.mem_append.1 hx with hx | hx
    · exact ho x hx
    · have : ∀ a b, Reach E a b → b ∈ E.map Prod.snd := by
        intro a b r
        induction r with
        | one h3 => exact List.mem_map.2 ⟨_, h3, rfl⟩
        | step _ _ ih => exact ih
      exact this _ _ (h1 x hx)
  have := nodup_le out' (E.map Prod.snd) h.nd hx
  rw [List.length_map] at this
  exact ⟨hx, this⟩
-- strict lists
theorem less_irr (a : Nm) : lessN a a = false := by rw [lessN_false]; omega
theorem less_trans {a b c : Nm} (h : lessN a b = true) (k : lessN b c = true) : lessN a c = true := by
  rw [lessN_iff] at *
  omega
theorem strict_sub : ∀ {a b : List Nm}, Strict a → Strict b → (∀ x ∈ a, x ∈ b) → a.Sublist b
  | [], _, _, _, _ => List.nil_sublist _
  | x :: a, [], _, _, h => by have := h x (by simp); cases this
  | x :: a, y :: b, ha, hb, h => by
    obtain ⟨ha1, ha2⟩ := List.pairwise_cons.1 ha
    obtain ⟨hb1, hb2⟩ := List.pairwise_cons.1 hb
    by_cases e : x = y
    · subst e
      refine List.Sublist.cons_cons _ (strict_sub ha2 hb2 fun z hz => ?_)
      rcases List.mem_cons.1 (h z (by simp [hz])) with e | h2
      · have := ha1 z hz
        rw [e, less_irr] at this
        cases this
      · exact h2
    · refine List.Sublist.cons _ (strict_sub ha hb2 fun z hz => ?_)
      have hxb : x ∈ b := by
        rcases List.mem_cons.1 (h x (by simp)) with e' | h2
        · exact absurd e' e
        · exact h2
      rcases List.mem_cons.1 (h z hz) with e2 | h2
      · subst e2
        rcases List.mem_cons.1 hz with e3 | hz
        · exact absurd e3.symm e
        · have h1 := ha1 z hz
          have h3 := hb1 x hxb
          have := less_trans h1 h3
          rw [less_irr] at this
          cases this
      · exact h2
theorem strict_eq {a b : List Nm} (ha : Strict a) (hb : Strict b) (h : ∀ x, x ∈ a ↔ x ∈ b) : a = b :=
  (strict_sub ha hb fun x => (h x).1).eq_of_length_le (strict_sub hb ha fun x => (h x).2).length_le
end Go.Proofs.Ytpllcjggjjapoaa
