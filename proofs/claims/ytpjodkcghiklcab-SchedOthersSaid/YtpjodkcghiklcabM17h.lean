/- Layer 17: where the ready ones lie (the program's eight lines, the document's one list). No condition. -/
import Derived.Test.YtpjodkcghiklcabM17r
import Derived.Test.YtpjodkcghiklcabW17
set_option linter.unusedVariables false
set_option linter.unusedSimpArgs false
namespace Go.Proofs.Ytpjodkcghiklcab
open Go.SL

def rdyC (vs : Nat → Value) (w : Nat) : List Value := (List.range 8).map vs ++ [.int .u64 (w : Int)]
theorem rdy_line {vs : Nat → Value} {w k : Nat} (hk : k < 8) : nth (rdyC vs w) (0 + k * 1) = some (vs k) := by
  rw [nth_eq, Nat.zero_add, Nat.mul_one]
  unfold rdyC
  rw [List.getElem?_append_left (by simp [hk]), List.getElem?_map, List.getElem?_range hk]; rfl
theorem rdy_set {vs : Nat → Value} {w k : Nat} {v : Value} (hk : k < 8) : (rdyC vs w).set (0 + k * 1) v = rdyC (fset vs k v) w := by
  rw [Nat.zero_add, Nat.mul_one]
  unfold rdyC
  rw [List.set_append_left _ _ (by simp [hk])]
  congr 1
  apply List.ext_getElem?
  intro j
  rw [List.getElem?_set, List.getElem?_map, List.getElem?_map, List.length_map, List.length_range]
  by_cases e : k = j
  · subst e; rw [if_pos rfl, if_pos hk, List.getElem?_range hk, Option.map_some, fset_same]
  · rw [if_neg e]
    by_cases h : j < 8
    · rw [List.getElem?_range h, Option.map_some, Option.map_some, fset_ne (Ne.symm e)]
    · rw [List.getElem?_eq_none (by simpa using h)]; rfl
theorem rdy_lev {vs : Nat → Value} {w : Nat} : nth (rdyC vs w) 8 = some (.int .u64 (w : Int)) := rfl
instance rdy_setL {vs : Nat → Value} {w w' : Nat} : SetL (rdyC vs w) 8 [.int .u64 (w' : Int)] (rdyC vs w') := by
  have h := SetL.set1 (l := rdyC vs w) (i := 8) (v := .int .u64 (w' : Int)) (by simp [rdyC])
  have e : (rdyC vs w).set 8 (.int .u64 (w' : Int)) = rdyC vs w' := by
    unfold rdyC; rw [List.set_append_right _ _ (by simp)]; rfl
  rw [e] at h; exact h

/-- The eight lines of a Ready. -/
def RdyS (ls : Nat → List Int) (vs : Nat → Value) (h : Nat → Hp) : Prop := ∀ k, k < 8 → Slc 3 1 (vs k) (ls k).length (intsC (ls k)) (h k)
/-- H is a Ready at block rb, of the ones L. -/
def RdyH (L : Ones) (rb : Nat) (H : Hp) : Prop := ∃ vs h, RdyS (fun k => lvl L k) vs h ∧ H = (rb, .cells (rdyC vs (levN L)).toArray 73) :: segs h 8
theorem RdyS.set {ls ls' : Nat → List Int} {vs : Nat → Value} {h : Nat → Hp} {k : Nat} {v : Value} {H : Hp} {l : List Int} (hs : RdyS ls vs h) (hv : Slc 3 1 v l.length (intsC l) H) (h1 : l = ls' k) (h2 : ∀ j, j ≠ k → ls' j = ls j) :
    RdyS ls' (fset vs k v) (fset h k H) := fun j hj => by
  by_cases e : j = k
  · subst e; rw [fset_same, fset_same, ← h1]; exact hv
  · rw [fset_ne e, fset_ne e, h2 j e]; exact hs j hj
theorem RdyS.view {ls : Nat → List Int} {vs : Nat → Value} {h : Nat → Hp} (hs : RdyS ls vs h) {k : Nat} (hk : k < 8) (w : Nat) : ∃ a c, vs k = .slice a (ls k).length c ∧ View (segs h 8) 1 (.slice a (ls k).length c) (ls k).length (intsC (ls k)) ∧ nth (rdyC vs w) (0 + k * 1) = some (.slice a (ls k).length c) := by
  obtain ⟨a, c, e⟩ := (hs k hk).form
  have h1 := (hs k hk).view
  have h2 := rdy_line (vs := vs) (w := w) hk
  rw [e] at h1 h2
  exact ⟨a, c, e, h1.mono (fun p hp => segs_mem hk hp), h2⟩
theorem put_all {L : Ones} (hW : RdyW L) {x : Int} {k : Nat} (h1 : rightM x = true) (hk : k < 8) (hn : ∀ j : Nat, j < 8 → ¬ 0 ≤ idxM (lvl L j) x) :
    pushE (lvl L k) x = putE L x k ∧ pushL (lvl L k) x = lvl (putR L x k) k ∧ (∀ j : Nat, j ≠ k → lvl (putR L x k) j = lvl L j) ∧
    bitsN (fset (has L) k (decide (0 < (pushL (lvl L k) x).length))) 8 = levN (putR L x k) := by
  obtain ⟨e1, e2⟩ := pushL_ok h1 (hn k hk)
  have hf := inR_false hW hn
  have e3 : putE L x k = 0 := by
    unfold putE; rw [if_neg (by simp [h1]; omega), hf]; rfl
  rw [e1, e2, e3, putR_ok e3]
  refine ⟨rfl, by rw [lvl_put, if_pos rfl], fun j hj => by rw [lvl_put, if_neg (by omega)], ?_⟩
  apply bitsN_congr
  intro j hj
  rw [has_put]; simp
theorem put_out {L : Ones} {x k : Int} (h : rightM x = false ∨ k < 0 ∨ 8 ≤ k) : putE L x k = 1 ∧ putR L x k = L := by
  have e : putE L x k = 1 := by
    unfold putE; rw [if_pos]; rcases h with h | h | h
    · simp [h]
    · simp; intro _ _; omega
    · simp; intro _ _; omega
  exact ⟨e, by unfold putR; rw [if_neg (by omega)]⟩
theorem put_twice {L : Ones} {x k : Int} (h1 : rightM x = true) (h2 : 0 ≤ k) (h3 : k < 8) (h4 : inR L x = true) : putE L x k = 4 ∧ putR L x k = L := by
  have e : putE L x k = 4 := by unfold putE; rw [if_neg (by simp [h1, h2, h3]), if_pos h4]
  exact ⟨e, by unfold putR; rw [if_neg (by omega)]⟩
theorem put_new {L : Ones} {x k : Int} (h1 : rightM x = true) (h2 : 0 ≤ k) (h3 : k < 8) (h4 : inR L x = false) : putE L x k = 0 ∧ putR L x k = L ++ [(x, k)] := by
  have e : putE L x k = 0 := by unfold putE; rw [if_neg (by simp [h1, h2, h3]), h4]; rfl
  exact ⟨e, putR_ok e⟩
theorem lvl_out {L : Ones} (hW : RdyW L) {k : Int} (h : k < 0 ∨ 8 ≤ k) : lvl L k = [] := by
  apply List.eq_nil_iff_forall_not_mem.2
  intro x hx
  have := hW.lev _ (lvl_mem.1 hx)
  simp only at this; omega
theorem next_some {L : Ones} {k : Nat} (h : nextI L = k) : k < 8 ∧ ∃ y t, lvl L k = y :: t := by
  obtain ⟨h1, h2, _⟩ := hiM_some h
  refine ⟨h1, ?_⟩
  unfold has at h2
  cases e : lvl L k with
  | nil => rw [e] at h2; simp at h2
  | cons y t => exact ⟨y, t, rfl⟩
theorem drop_all {L : Ones} (hW : RdyW L) {x : Int} {k : Nat} (hk : k < 8) (h : 0 ≤ idxM (lvl L k) x) :
    inR L x = true ∧ remL (lvl L k) x = lvl (dropR L x) k ∧ (∀ j : Nat, j ≠ k → lvl (dropR L x) j = lvl L j) ∧ bitsN (fset (has L) k (decide (0 < (remL (lvl L k) x).length))) 8 = levN (dropR L x) :=
  ⟨inR_true hW hk h, rem_lvl hW x k, lvl_drop_ne hW h, bitsN_congr fun j _ => (has_drop hW h j).symm⟩
theorem rem_same {l : List Int} {x : Int} (h : remB l x = false) : remL l x = l := by
  have : ¬ 0 ≤ idxM l x := by simpa [remB] using h
  exact if_neg this
theorem levN_nil : levN [] = 0 := by decide
/-- H is the document's Ready at block qb, of the ones L. -/
def DRdyH (L : Ones) (qb : Nat) (H : Hp) : Prop := ∃ v K, Slc 80 2 v L.length (cel oneC L) K ∧ H = (qb, .cells [v].toArray 68) :: K
theorem lvl_take {L : Ones} {i : Nat} {e : Int × Int} (h : L[i]? = some e) (k : Int) : lvl (L.take (i + 1)) k = lvl (L.take i) k ++ if e.2 = k then [e.1] else [] := by
  rw [List.take_add_one, h]
  obtain ⟨a, b⟩ := e
  simp only [Option.toList_some]
  rw [lvl_put]
  by_cases h : k = b
  · subst h; simp
  · simp [h, Ne.symm h]
theorem one_read {cc : List Value} {o i : Nat} {L : Ones} {e : Int × Int} (hr : Reads cc o (cel oneC L)) (h : L[i]? = some e) : nth cc (o + i * 2 + 0) = some (.int .i64 e.1) ∧ nth cc (o + i * 2 + 1) = some (.int .i64 e.2) := by
  obtain ⟨h1, h2, _⟩ := cel_reads hr h
  exact ⟨h1, h2⟩
theorem bitsN_add {p : Nat → Bool} {i : Nat} (hi : i < 8) : IntKind.u64.wrap (((bitsN p i : Nat) : Int) + ((2 ^ i : Nat) : Int)) = ((bitsN p i + 2 ^ i : Nat) : Int) := by
  have h1 := bitsN_lt p i
  have h3 : 2 ^ i < 2 ^ 8 := Nat.pow_lt_pow_right (by omega) hi
  exact u64n (by push_cast; rfl) (by omega)

end Go.Proofs.Ytpjodkcghiklcab
