/- Layer 7 in plain Lean, fifth part: a store whose nodes are 0 to 3, and the map that is kept beside it. No condition. -/
import Derived.Test.YtdodfnjmkpgdbaaM07e
set_option linter.unusedVariables false
set_option linter.unusedSimpArgs false
namespace Go.Proofs.Ytdodfnjmkpgdbaa
open Go.SL

section maps
variable {κ : Type} [DecidableEq κ]
theorem mget_mput (k : κ) (v : Value) (t : Nat) : ∀ (l : List (κ × Value × Nat)) (o : κ), mget o (mput k v t l) = if o = k then some v else mget o l
  | [], o => by simp [mput, mget]
  | e :: l, o => by
    simp only [mput]
    by_cases hk : k = e.1
    · subst hk
      simp only [if_true, mget]
      by_cases ho : o = e.1
      · simp [ho]
      · simp [ho]
    · simp only [if_neg hk, mget]
      by_cases ho : o = e.1
      · have : o ≠ k := fun h => hk (h ▸ ho)
        simp [ho, Ne.symm hk]
      · simp only [if_neg ho, mget_mput k v t l o]
theorem mput_keys (k : κ) (v : Value) (t : Nat) : ∀ (l : List (κ × Value × Nat)), (l.map Prod.fst).Nodup → ((mput k v t l).map Prod.fst).Nodup ∧ ∀ x, x ∈ (mput k v t l).map Prod.fst ↔ x = k ∨ x ∈ l.map Prod.fst
  | [], _ => by simp [mput]
  | e :: l, h => by
    simp only [List.map_cons, List.nodup_cons] at h
    simp only [mput]
    by_cases hk : k = e.1
    · subst hk
      simp [h]
    · obtain ⟨h1, h2⟩ := mput_keys k v t l h.2
      simp only [if_neg hk, List.map_cons, List.nodup_cons, List.mem_cons]
      refine ⟨⟨fun hm => ?_, h1⟩, fun x => ?_⟩
      · rcases (h2 _).1 hm with hm | hm
        · exact hk hm.symm
        · exact h.1 hm
      · rw [h2]; constructor
        · rintro (h | h | h) <;> simp [h]
        · rintro (h | h | h) <;> simp [h]
theorem mget_notin {o : κ} : ∀ {l : List (κ × Value × Nat)}, o ∉ l.map Prod.fst → mget o l = none
  | [], _ => rfl
  | e :: l, h => by
    simp only [List.map_cons, List.mem_cons, not_or] at h
    simp only [mget]
    rw [if_neg h.1]; exact mget_notin h.2
theorem mget_mdel (k : κ) : ∀ (l : List (κ × Value × Nat)), (l.map Prod.fst).Nodup → ∀ o, mget o (mdel k l) = if o = k then none else mget o l
  | [], _, o => by simp [mdel, mget]
  | e :: l, h, o => by
    simp only [List.map_cons, List.nodup_cons] at h
    simp only [mdel]
    by_cases hk : k = e.1
    · rw [if_pos hk]
      by_cases ho : o = k
      · rw [if_pos ho, ho, hk]; exact mget_notin h.1
      · rw [if_neg ho]; simp only [mget]; rw [if_neg (by rw [← hk]; exact ho)]
    · rw [if_neg hk]
      simp only [mget]
      rw [mget_mdel k l h.2 o]
      by_cases ho : o = k
      · subst ho; simp [hk]
      · simp [ho]
theorem mdel_keys (k : κ) : ∀ (l : List (κ × Value × Nat)), (mdel k l).Sublist l
  | [] => List.Sublist.refl _
  | e :: l => by
    simp only [mdel]
    split
    · exact List.sublist_cons_self _ _
    · exact (mdel_keys k l).cons_cons _
end maps

/-! ### The four nodes' slots, in order -/
def rowM (k : Nat) (j : Nat) : List SlotM := (List.range j).map fun i : Nat => ((k : Int), (i : Int))
theorem rowM_succ (k j : Nat) : rowM k (j + 1) = rowM k j ++ [((k : Int), (j : Int))] := by simp [rowM, List.range_succ]
theorem rowM_len (k j : Nat) : (rowM k j).length = j := by simp [rowM]
def allUpto : Nat → List SlotM
  | 0 => []
  | k + 1 => allUpto k ++ rowM k (2 ^ (k + 1))
def allM : List SlotM := allUpto 4

/-- Nodes 0 to 3 are there, of radix one more than their number, and no other. -/
structure Four (S : StoreM) : Prop where
  wf : S.Wf
  tidy : S.Tidy
  rad : ∀ id : Int, S.radix id = if 0 ≤ id ∧ id < 4 then id + 1 else 0

def isFull (S : StoreM) (s : SlotM) : Bool := decide ((S.get s).1.kind ≠ 0)
theorem radix_none {S : StoreM} (hw : S.Wf) {id : Int} (h : S.radix id = 0) : nget id S.nodes = none := by
  unfold StoreM.radix at h
  cases hn : nget id S.nodes with
  | none => rfl
  | some n =>
    rw [hn] at h
    have := (hw _ _ hn).1.lo
    dsimp only at h; omega
theorem radix_some {S : StoreM} {id : Int} {r : Nat} (h : S.radix id = (r : Int)) (hr : r ≠ 0) : ∃ n, nget id S.nodes = some n ∧ n.radix = r := by
  unfold StoreM.radix at h
  cases hn : nget id S.nodes with
  | none => rw [hn] at h; dsimp only at h; omega
  | some n => rw [hn] at h; dsimp only at h; exact ⟨n, rfl, by omega⟩
theorem nodeFull_filter {S : StoreM} (h : S.Wf) (ht : S.Tidy) {id : Nat} {n : NodeM} (hn : nget (id : Int) S.nodes = some n) :
    ∀ j, j ≤ 16 → nodeFull id n.caps j = (rowM id (min j (2 ^ n.radix))).filter (isFull S)
  | 0, _ => by simp [nodeFull, rowM]
  | j + 1, hj => by
    have ih := nodeFull_filter h ht hn j (by omega)
    have hl := (h _ _ hn).1.len
    have hc : n.caps[j]? = some (n.caps[j]'(by omega)) := List.getElem?_eq_getElem (by omega)
    unfold nodeFull
    rw [ih, hc, Option.getD_some]
    by_cases hlt : j < 2 ^ n.radix
    · rw [show min (j + 1) (2 ^ n.radix) = j + 1 by omega, show min j (2 ^ n.radix) = j by omega, rowM_succ, List.filter_append]
      congr 1
      have hg : (S.get ((id : Int), (j : Int))).1 = n.caps[j]'(by omega) := by
        have hh : n.has (j : Int) := ⟨by omega, by omega⟩
        unfold StoreM.get StoreM.cap?
        rw [hn]; dsimp only; rw [if_pos hh]; simp only [Int.toNat_natCast, hc]
      by_cases hk : (n.caps[j]'(by omega)).kind ≠ 0
      · rw [if_pos hk, List.filter_cons_of_pos (by unfold isFull; rw [hg]; exact decide_eq_true hk)]; rfl
      · rw [if_neg hk, List.filter_cons_of_neg (by unfold isFull; rw [hg]; simpa using hk)]; rfl
    · rw [show min (j + 1) (2 ^ n.radix) = min j (2 ^ n.radix) by omega]
      by_cases hk : (n.caps[j]'(by omega)).kind ≠ 0
      · exact absurd (ht _ n j _ hn hc hk).1 hlt
      · rw [if_neg hk, List.append_nil]
theorem full_filter {S : StoreM} (h : Four S) : fullM S = allM.filter (isFull S) := by
  have h1 : ∀ k, k ≤ 4 → fullUpto S k = (allUpto k).filter (isFull S) := by
    intro k
    induction k with
    | zero => intro _; rfl
    | succ k ih =>
      intro hk
      have hr := h.rad (k : Int)
      rw [if_pos (by omega), show ((k : Int) + 1) = ((k + 1 : Nat) : Int) by omega] at hr
      obtain ⟨n, hn, hnr⟩ := radix_some hr (by omega)
      have hle : 2 ^ n.radix ≤ 2 ^ 4 := Nat.pow_le_pow_right (by omega) (h.wf _ _ hn).1.hi
      unfold fullUpto allUpto full1
      rw [ih (by omega), hn, List.filter_append]
      dsimp only
      rw [nodeFull_filter h.wf h.tidy hn 16 (Nat.le_refl _), show min 16 (2 ^ n.radix) = 2 ^ (k + 1) by rw [← hnr]; omega]
  have h2 : ∀ m, fullUpto S (4 + m) = fullUpto S 4 := by
    intro m
    induction m with
    | zero => rfl
    | succ m ih =>
      have hstep : fullUpto S (4 + m + 1) = fullUpto S (4 + m) ++ full1 S (4 + m) := rfl
      rw [← Nat.add_assoc, hstep]
      unfold full1
      have hn : nget ((4 + m : Nat) : Int) S.nodes = none := radix_none h.wf (by rw [h.rad, if_neg (by omega)])
      rw [hn, ih, List.append_nil]
  unfold fullM allM
  rw [show (64 : Nat) = 4 + 60 from rfl, h2, h1 4 (Nat.le_refl _)]

end Go.Proofs.Ytdodfnjmkpgdbaa
