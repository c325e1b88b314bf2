/- Layer 9 in plain Lean, fourth part: the document's tree, a row of slots with how deep each stands. No condition. -/
import Derived.Test.YtpoamckpdpkpoaaM09t
import Derived.Test.YtpoamckpdpkpoaaM07s
set_option linter.unusedVariables false
set_option linter.unusedSimpArgs false
namespace Go.Proofs.Ytpoamckpdpkpoaa
open Go.SL

abbrev KnM := SlotM × Int
def kmC (k : KnM) : List Value := [.int .i64 k.1.1, .int .i64 k.1.2, .int .i64 k.2]
instance : Enc kmC 3 := ⟨fun _ => rfl, fun _ => rfl⟩
/-- The block in which the row lies (in a seat that has donjonref10.Caps: behind its store uS). -/
abbrev dtBlk (uS : Value) (qb : Nat) (v : Value) : Nat × Obj := (qb, .cells [v].toArray 77)
def DtrH (uS : Value) (l : List KnM) (qb : Nat) (L : Hp) : Prop := ∃ v H, Slc 81 3 v l.length (cel kmC l) H ∧ L = dtBlk uS qb v :: H
/-- Where a slot stands first; -1: nowhere. -/
def idxK : List KnM → SlotM → Int
  | [], _ => -1
  | a :: l, s => if a.1 = s then 0 else if idxK l s < 0 then -1 else idxK l s + 1
theorem idxK_hit : ∀ {l : List KnM} {i : Nat} {k : KnM} {s : SlotM}, l[i]? = some k → k.1 = s → (∀ j k, j < i → l[j]? = some k → k.1 ≠ s) → idxK l s = i
  | [], i, k, s, h, _, _ => by simp at h
  | a :: l, 0, k, s, h, hs, _ => by simp at h; subst h; simp [idxK, hs]
  | a :: l, i + 1, k, s, h, hs, hn => by
    have h0 : a.1 ≠ s := hn 0 a (by omega) rfl
    have ih := idxK_hit (l := l) (i := i) (k := k) (s := s) (by simpa using h) hs (fun j k hj hk => hn (j + 1) k (by omega) (by simpa using hk))
    simp only [idxK, if_neg h0, ih]
    rw [if_neg (by omega)]; push_cast; rfl
theorem idxK_miss : ∀ {l : List KnM} {s : SlotM}, (∀ j k, j < l.length → l[j]? = some k → k.1 ≠ s) → idxK l s = -1
  | [], _, _ => rfl
  | a :: l, s, hn => by
    have h0 : a.1 ≠ s := hn 0 a (by simp) rfl
    have ih := idxK_miss (l := l) (s := s) (fun j k hj hk => hn (j + 1) k (by simpa using hj) (by simpa using hk))
    simp only [idxK, if_neg h0, ih]; rfl
/-- A row that is cut at a knot: what is ahead, the knot, its kin, what is behind. -/
structure DCut (l A : List KnM) (k : KnM) (C B : List KnM) : Prop where
  row : l = A ++ k :: (C ++ B)
  kin : ∀ c, c ∈ C → k.2 < c.2
  behind : ∀ b, B.head? = some b → b.2 ≤ k.2
theorem DCut.at {l A C B : List KnM} {k : KnM} (h : DCut l A k C B) : l[A.length]? = some k := by rw [h.row]; simp
theorem DCut.len {l A C B : List KnM} {k : KnM} (h : DCut l A k C B) : l.length = A.length + 1 + C.length + B.length := by rw [h.row]; simp; omega
theorem DCut.inC {l A C B : List KnM} {k : KnM} (h : DCut l A k C B) {i : Nat} {x : KnM} (h1 : A.length + 1 ≤ i) (h2 : i < A.length + 1 + C.length) (hx : l[i]? = some x) : k.2 < x.2 := by
  rw [h.row, List.getElem?_append_right (by omega), List.getElem?_cons, if_neg (by omega), List.getElem?_append_left (by omega)] at hx
  exact h.kin x (List.mem_of_getElem? hx)
theorem DCut.outC {l A C B : List KnM} {k : KnM} (h : DCut l A k C B) {x : KnM} (hx : l[A.length + 1 + C.length]? = some x) : x.2 ≤ k.2 := by
  rw [h.row, List.getElem?_append_right (by omega), List.getElem?_cons, if_neg (by omega), List.getElem?_append_right (by omega)] at hx
  rw [show A.length + 1 + C.length - A.length - 1 - C.length = 0 by omega] at hx
  exact h.behind x (by rw [List.head?_eq_getElem?]; exact hx)
theorem DCut.atC {l A C B : List KnM} {k : KnM} (h : DCut l A k C B) {j : Nat} (hj : j < C.length) : l[A.length + 1 + j]? = C[j]? := by
  rw [h.row, List.getElem?_append_right (by omega), List.getElem?_cons, if_neg (by omega), List.getElem?_append_left (by omega)]
  congr 1; omega
/-- The first i of the row without the one at p; those behind it and ahead of e stand higher by one. -/
def dropTo (l : List KnM) (p e : Nat) : Nat → List KnM
  | 0 => []
  | i + 1 => dropTo l p e i ++ (if i = p then [] else match l[i]? with | none => [] | some x => [if p < i ∧ i < e then (x.1, x.2 - 1) else x])
def dec1 (c : KnM) : KnM := (c.1, c.2 - 1)
theorem dropTo_len (l : List KnM) (p e : Nat) : ∀ i, (dropTo l p e i).length ≤ i
  | 0 => Nat.le_refl _
  | i + 1 => by
    have := dropTo_len l p e i
    simp only [dropTo, List.length_append]
    split
    · simp; omega
    · split <;> simp <;> omega
section
variable {l A C B : List KnM} {k : KnM} (h : DCut l A k C B)
include h
theorem dropTo_A : ∀ i, i ≤ A.length → dropTo l A.length (A.length + 1 + C.length) i = A.take i
  | 0, _ => by simp [dropTo]
  | i + 1, hi => by
    have e : l[i]? = some A[i] := by rw [h.row, List.getElem?_append_left (by omega), List.getElem?_eq_getElem (by omega)]
    simp only [dropTo, e]
    rw [dropTo_A i (by omega), if_neg (by omega), if_neg (by omega), List.take_add_one, List.getElem?_eq_getElem (by omega)]; rfl
theorem dropTo_C : ∀ j, j ≤ C.length → dropTo l A.length (A.length + 1 + C.length) (A.length + 1 + j) = A ++ (C.take j).map dec1
  | 0, _ => by
    show dropTo l A.length (A.length + 1 + C.length) (A.length + 1) = _
    simp only [dropTo]
    rw [dropTo_A h _ (Nat.le_refl _)]; simp
  | j + 1, hj => by
    have e : l[A.length + 1 + j]? = some C[j] := by rw [h.atC (by omega), List.getElem?_eq_getElem (by omega)]
    show dropTo l A.length (A.length + 1 + C.length) (A.length + 1 + j + 1) = _
    simp only [dropTo, e]
    rw [dropTo_C j (by omega), if_neg (by omega), if_pos ⟨by omega, by omega⟩, List.take_add_one, List.getElem?_eq_getElem (by omega)]
    rw [List.map_append, ← List.append_assoc]; rfl
theorem dropTo_B : ∀ j, j ≤ B.length → dropTo l A.length (A.length + 1 + C.length) (A.length + 1 + C.length + j) = A ++ C.map dec1 ++ B.take j
  | 0, _ => by
    have := dropTo_C h C.length (Nat.le_refl _)
    rw [List.take_length] at this
    simpa using this
  | j + 1, hj => by
    have e : l[A.length + 1 + C.length + j]? = some B[j] := by
      rw [h.row, List.getElem?_append_right (by omega), List.getElem?_cons, if_neg (by omega), List.getElem?_append_right (by omega), ← List.getElem?_eq_getElem (by omega)]
      congr 1; omega
    show dropTo l A.length (A.length + 1 + C.length) (A.length + 1 + C.length + j + 1) = _
    simp only [dropTo, e]
    rw [dropTo_B j (by omega), if_neg (by omega), if_neg (by omega), List.take_add_one, List.getElem?_eq_getElem (by omega)]
    simp
theorem dropTo_all : dropTo l A.length (A.length + 1 + C.length) l.length = A ++ (C.map dec1 ++ B) := by
  rw [h.len, dropTo_B h _ (Nat.le_refl _), List.take_length, List.append_assoc]
end
/-- The nearest one ahead that stands higher. -/
theorem near_eq {A A1 A2 : List KnM} {j k d : KnM} {n : Nat} (ha : A = A1 ++ j :: A2) (h2 : ∀ a, a ∈ A2 → ¬ a.2 < k.2) (hj : j.2 < k.2) (hd : A[n]? = some d) (hdk : d.2 < k.2) (hn : ∀ i x, n + 1 ≤ i → i < A.length → A[i]? = some x → ¬ x.2 < k.2) : d = j := by
  have hlt := (List.getElem?_eq_some_iff.1 hd).1
  rcases Nat.lt_trichotomy n A1.length with h | h | h
  · exact absurd hj (hn A1.length j (by omega) (by rw [ha]; simp) (by rw [ha]; simp))
  · rw [ha, h] at hd; simpa using hd.symm
  · rw [ha, List.getElem?_append_right (by omega), List.getElem?_cons, if_neg (by omega)] at hd
    exact absurd hdk (h2 d (List.mem_of_getElem? hd))
/-- A slice's own block, and one of its elements written. -/
theorem slc_set {α : Type} {f : α → List Value} {k : Nat} [he : Enc f k] {T : TypeId} {v : Value} {l : List α} {H : Hp} (hs : Slc T k v l.length (cel f l) H) {i : Nat} {a : α} (hi : l[i]? = some a) (a' : α) (X w0 w Y : List Value) (hX : f a = X ++ w0 ++ Y) (hX' : f a' = X ++ w ++ Y) (hw : w0.length = w.length) :
    ∃ b o cap, ∃ cs0 cs1 : List Value, v = .slice (some ⟨b, o, none⟩) l.length cap ∧ H = [(b, .cells cs0.toArray T)] ∧ Reads cs0 o (cel f l) ∧ SetL cs0 (o + i * k + X.length) w cs1 ∧ Slc T k v (l.set i a').length (cel f (l.set i a')) [(b, .cells cs1.toArray T)] := by
  have hlt := (List.getElem?_eq_some_iff.1 hi).1
  have e0 : l[i] = a := (List.getElem?_eq_some_iff.1 hi).2
  have ec : cel f l = cel f (l.take i) ++ f a ++ cel f (l.drop (i + 1)) := by
    conv => lhs; rw [← List.take_append_drop i l, List.drop_eq_getElem_cons hlt, e0, cel_app, cel_cons]
    rw [List.append_assoc]
  have ec' : cel f (l.set i a') = cel f (l.take i) ++ f a' ++ cel f (l.drop (i + 1)) := by
    rw [List.set_eq_take_append_cons_drop, if_pos hlt, cel_app, cel_cons, List.append_assoc]
  obtain ⟨hl, ⟨_, h0, _⟩ | ⟨b, pre, spare, cap, rfl, hc, hsp, rfl⟩⟩ := hs
  · omega
  refine ⟨b, pre.length, cap, pre ++ cel f l ++ spare, pre ++ cel f (l.set i a') ++ spare, rfl, rfl, reads_split, ?_, ?_⟩
  · refine setL_of (pre ++ cel f (l.take i) ++ X) (Y ++ cel f (l.drop (i + 1)) ++ spare) w0 ?_ ?_ ?_ hw
    · rw [ec, hX]; simp
    · rw [ec', hX']; simp
    · rw [List.length_append, List.length_append, cel_len, List.length_take, Nat.min_eq_left (Nat.le_of_lt hlt)]
  · refine ⟨by rw [cel_len], .inr ⟨b, pre, spare, cap, by rw [List.length_set], by rw [List.length_set]; exact hc, by rw [List.length_set]; exact hsp, rfl⟩⟩
end Go.Proofs.Ytpoamckpdpkpoaa
