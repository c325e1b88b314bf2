/- Slices of integers in plain Lean: where one lies, and slices of slices joined. No condition. -/
import Derived.Test.YtdodfnjmkpgdbaaSY
import Derived.Test.YtdodfnjmkpgdbaaSLT
set_option linter.unusedVariables false
set_option linter.unusedSimpArgs false
namespace Go.Proofs.Ytdodfnjmkpgdbaa
open Go.SL

def intsC (l : List Int) : List Value := l.map (.int .i64 ·)
theorem intsC_len (l : List Int) : (intsC l).length = l.length := by simp [intsC]
theorem intsC_app (l m : List Int) : intsC (l ++ m) = intsC l ++ intsC m := by simp [intsC]
theorem intsC_one (l : List Int) : (intsC l).all Value.oneCell' = true := by simp [intsC, Value.oneCell']
theorem intsC_slice (l : List Int) (i j : Nat) : ((intsC l).drop (i * 1)).take (j * 1) = intsC ((l.drop i).take j) := by simp [intsC, List.map_take, List.map_drop]
theorem ints_nth {cc : List Value} {o i : Nat} {l : List Int} {x : Int} (hr : Reads cc o (intsC l)) (h : l[i]? = some x) : nth cc (o + i * 1) = some (.int .i64 x) := by
  rw [nth_eq, Nat.mul_one]
  exact hr.at_ i _ (by simp [intsC, h])
/-- Where x lies first; -1: nowhere. -/
def idxM : List Int → Int → Int
  | [], _ => -1
  | a :: l, x => if a = x then 0 else if idxM l x < 0 then -1 else idxM l x + 1
theorem idx_hit : ∀ {l : List Int} {i : Nat} {x : Int}, l[i]? = some x → (∀ j, j < i → l[j]? ≠ some x) → idxM l x = i
  | [], i, x, h, _ => by simp at h
  | a :: l, 0, x, h, _ => by simp at h; simp [idxM, h]
  | a :: l, i + 1, x, h, hn => by
    have h0 : a ≠ x := fun e => hn 0 (by omega) (by simp [e])
    have ih := idx_hit (l := l) (i := i) (x := x) (by simpa using h) (fun j hj => by have := hn (j + 1) (by omega); simpa using this)
    simp only [idxM, if_neg h0, ih]
    rw [if_neg (by omega)]; push_cast; rfl
theorem idx_miss : ∀ {l : List Int} {x : Int}, (∀ j, j < l.length → l[j]? ≠ some x) → idxM l x = -1
  | [], _, _ => rfl
  | a :: l, x, hn => by
    have h0 : a ≠ x := fun e => hn 0 (by simp) (by simp [e])
    have ih := idx_miss (l := l) (x := x) (fun j hj => by have := hn (j + 1) (by simpa using hj); simpa using this)
    simp only [idxM, if_neg h0, ih]; rfl
theorem idx_lt : ∀ (l : List Int) (x : Int), idxM l x < l.length ∧ -1 ≤ idxM l x
  | [], _ => by simp [idxM]
  | a :: l, x => by
    have := idx_lt l x
    simp only [idxM, List.length_cons]
    split
    · omega
    · split <;> omega
theorem idx_mem : ∀ (l : List Int) (x : Int), 0 ≤ idxM l x ↔ x ∈ l
  | [], _ => by simp [idxM]
  | a :: l, x => by
    have ih := idx_mem l x
    simp only [idxM, List.mem_cons]
    split
    · rename_i h; simp [h]
    · rename_i h
      split
      · rename_i h2
        have : ¬ x ∈ l := fun e => by have := ih.2 e; omega
        simp [this, Ne.symm h]
      · rename_i h2
        have : x ∈ l := ih.1 (by omega)
        simp [this]; omega

/-- A slice, as a value: where it points, its capacity, its elements. -/
structure SV where
  a : Option Addr
  c : Nat
  l : List Int
abbrev SV.v (s : SV) : Value := .slice s.a s.l.length s.c
def catM (ss : List SV) : List Int := ss.flatMap SV.l
def catUpto (ss : List SV) (i : Nat) : List Int := catM (ss.take i)
theorem catUpto_succ {ss : List SV} {i : Nat} {s : SV} (h : ss[i]? = some s) : catUpto ss (i + 1) = catUpto ss i ++ s.l := by
  unfold catUpto catM
  rw [List.take_add_one, h, List.flatMap_append]; simp
theorem catUpto_all (ss : List SV) : catUpto ss ss.length = catM ss := by unfold catUpto; rw [List.take_length]
theorem catUpto_len (ss : List SV) : ∀ i, (catUpto ss i).length ≤ (catM ss).length := fun i => by
  unfold catUpto catM
  have : ss.flatMap SV.l = (ss.take i).flatMap SV.l ++ (ss.drop i).flatMap SV.l := by rw [← List.flatMap_append, List.take_append_drop]
  rw [this, List.length_append]; omega
theorem sv_nth {ss : List SV} {i : Nat} {s : SV} (h : ss[i]? = some s) : nth (ss.map SV.v) (0 + i * 1) = some s.v := by
  rw [nth_eq, Nat.zero_add, Nat.mul_one, List.getElem?_map, h]; rfl
theorem view_nil {G : Hp} {n c : Nat} {cs : List Value} (h : View G 1 (.slice none n c) n cs) : n = 0 ∧ cs = [] := by
  obtain ⟨hl, a, c', e, _, h4⟩ := h
  cases e
  rcases h4 with rfl | ⟨b, o, cc, T, f, e, _⟩
  · exact ⟨rfl, List.eq_nil_of_length_eq_zero (by omega)⟩
  · cases e
theorem slc_empty (T b : Nat) : Slc T 1 (.slice (some ⟨b, 0, none⟩) 0 0) 0 [] [(b, .cells ([] : List Value).toArray T)] := ⟨rfl, .inr ⟨b, [], [], 0, rfl, Nat.le_refl _, Nat.zero_le _, rfl⟩⟩

/-- A view of a part. -/
theorem view_part {G : Hp} {a : Option Addr} {c : Nat} {l : List Int} (hv : View G 1 (.slice a l.length c) l.length (intsC l)) {i j : Nat} (h1 : i ≤ j) (h2 : j ≤ l.length) :
    View G 1 (.slice (if c = i then a else a.map (·.add (i * 1))) ((l.drop i).take (j - i)).length (c - i)) ((l.drop i).take (j - i)).length (intsC ((l.drop i).take (j - i))) := by
  have h := hv.slice h1 h2
  rw [intsC_slice] at h
  have e : ((l.drop i).take (j - i)).length = j - i := by rw [List.length_take, List.length_drop]; omega
  rw [e]; exact h
theorem part_len {l : List Int} {i j : Nat} (h1 : i ≤ j) (h2 : j ≤ l.length) : ((l.drop i).take (j - i)).length = j - i := by rw [List.length_take, List.length_drop]; omega

theorem forall_two {p : SV → Prop} {s1 s2 : SV} (h1 : p s1) (h2 : p s2) : ∀ s, s ∈ [s1, s2] → p s := by
  intro s hs
  rcases List.mem_cons.1 hs with rfl | hs
  · exact h1
  · rw [List.mem_singleton.1 hs]; exact h2

end Go.Proofs.Ytdodfnjmkpgdbaa
