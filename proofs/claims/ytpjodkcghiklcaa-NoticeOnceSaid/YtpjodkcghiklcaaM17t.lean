/- Layer 17's laws in plain Lean: who came first of the highest level; who leaves and comes again. No condition. -/
import Derived.Test.YtpjodkcghiklcaaW17s
set_option linter.unusedVariables false
set_option linter.unusedSimpArgs false
namespace Go.Proofs.Ytpjodkcghiklcaa
open Go.SL

theorem lvl_app (L M : Ones) (k : Int) : lvl (L ++ M) k = lvl L k ++ lvl M k := by unfold lvl; rw [List.filter_append, List.map_append]
theorem bitsN_cut {p : Nat → Bool} {n : Nat} : ∀ {m}, n ≤ m → (∀ k, n ≤ k → k < m → p k = false) → bitsN p m = bitsN p n
  | 0, h, _ => by
    have : n = 0 := by omega
    rw [this]
  | m + 1, h, hp => by
    by_cases e : n = m + 1
    · rw [e]
    · simp only [bitsN]; rw [hp m (by omega) (by omega)]; simp only [Bool.false_eq_true, if_false, Nat.add_zero]
      exact bitsN_cut (by omega) (fun k h1 h2 => hp k h1 (by omega))
theorem bitsN_top {p : Nat → Bool} {q : Nat} (h : hiM p 8 = q) : bitsN p 8 / 2 ^ q = 1 := by
  obtain ⟨h1, h2, h3⟩ := hiM_some h
  rw [bitsN_cut (n := q + 1) (by omega) (fun k hk hk2 => h3 k (by omega) hk2)]
  simp only [bitsN]; rw [if_pos h2]
  have := bitsN_lt p q
  rw [Nat.add_div_right _ (by exact Nat.two_pow_pos q), Nat.div_eq_of_lt this]
def lv (L : Ones) (j : Nat) : Int := (L[j]?.getD (0, 0)).2
theorem lv_some {L : Ones} {j : Nat} {e : Int × Int} (h : L[j]? = some e) : lv L j = e.2 := by unfold lv; rw [h]; rfl
theorem first_max {L : Ones} (hW : RdyW L) {k : Nat} {x : Int} {q : Nat} (hk : L[k]? = some (x, (q : Int))) (h1 : ∀ j, j < L.length → lv L j ≤ lv L k) (h2 : ∀ j, j < k → lv L j < lv L k) :
    nextI L = q ∧ nextV L = x ∧ nextB L = true ∧ levN L / 2 ^ q = 1 ∧ q < 8 ∧ inR L x = true ∧ L.take k ++ L.drop (k + 1) = dropR L x := by
  have hlk := lv_some hk
  simp only at hlk
  have hm := List.mem_of_getElem? hk
  have hq := hW.lev _ hm
  simp only at hq
  have hq8 : q < 8 := by omega
  have hkl := (List.getElem?_eq_some_iff.1 hk).1
  have hhas : has L q = true := by
    unfold has
    have : x ∈ lvl L q := lvl_mem.2 hm
    cases e : lvl L q with
    | nil => rw [e] at this; simp at this
    | cons a t => rfl
  have hno : ∀ j, q < j → j < 8 → has L j = false := by
    intro j hj hj8
    unfold has
    cases e : lvl L j with
    | nil => rfl
    | cons a t =>
      have : a ∈ lvl L j := by rw [e]; simp
      obtain ⟨i, hi, he⟩ := List.mem_iff_getElem.1 (lvl_mem.1 this)
      have := h1 i hi
      rw [lv_some (List.getElem?_eq_getElem hi), he, hlk] at this
      simp only at this; omega
  have hn : nextI L = q := hiM_is hq8 hhas hno
  have hsp : L = L.take k ++ (x, (q : Int)) :: L.drop (k + 1) := by
    have := (List.getElem?_eq_some_iff.1 hk).2
    rw [← this, ← List.drop_eq_getElem_cons hkl, List.take_append_drop]
  have h0 : lvl (L.take k) q = [] := by
    apply List.eq_nil_iff_forall_not_mem.2
    intro y hy
    obtain ⟨i, hi, he⟩ := List.mem_iff_getElem.1 (lvl_mem.1 hy)
    have hik : i < k := by simp at hi; omega
    have := h2 i hik
    rw [List.getElem_take] at he
    rw [lv_some (List.getElem?_eq_getElem (by omega)), he, hlk] at this
    simp only at this; omega
  have hl : lvl L q = x :: lvl (L.drop (k + 1)) q := by
    conv => lhs; rw [hsp]
    rw [lvl_app, h0, List.nil_append]
    unfold lvl
    rw [List.filter_cons_of_pos (by simp)]; rfl
  refine ⟨hn, ?_, ?_, bitsN_top hn, hq8, inR_hit hk, take_drop_filter hW.nd hk⟩
  · unfold nextV; rw [hn, if_neg (by omega), hl]; rfl
  · unfold nextB; rw [hn]; exact decide_eq_true (by omega)
theorem next_nil : nextV [] = 0 ∧ nextB [] = false ∧ levN [] = 0 := by decide
theorem levN_bit (L : Ones) {i : Nat} (hi : i < 8) : (levN L / 2 ^ i % 2 = 1) ↔ 0 < (lvl L i).length := by
  have h := bitsN_test (has L) 8 i
  rw [Nat.testBit_eq_decide_div_mod_eq] at h
  have e : decide (bitsN (has L) 8 / 2 ^ i % 2 = 1) = has L i := by rw [h]; simp [hi]
  have e2 : has L i = decide (0 < (lvl L i).length) := by unfold has; cases lvl L i <;> simp
  rw [e2] at e
  exact decide_eq_decide.1 e
theorem come_again {L : Ones} (hW : RdyW L) {x : Int} {q : Int} (hr : rightM x = true) (hm : (x, q) ∈ L) :
    inR L x = true ∧ putE (dropR L x) x q = 0 ∧ putR (dropR L x) x q = dropR L x ++ [(x, q)] ∧ levN (dropR L x ++ [(x, q)]) = levN L ∧ lvl (dropR L x ++ [(x, q)]) q = lvl (dropR L x) q ++ [x] := by
  have hq := hW.lev _ hm
  simp only at hq
  have h1 : inR L x = true := by unfold inR; exact decide_eq_true (List.mem_map.2 ⟨_, hm, rfl⟩)
  have h2 : inR (dropR L x) x = false := by
    unfold inR dropR
    rw [decide_eq_false_iff_not, List.mem_map]
    rintro ⟨e, he, h⟩
    have := (List.mem_filter.1 he).2
    simp at this; exact this h
  obtain ⟨h3, h4⟩ := put_new (L := dropR L x) hr hq.1 hq.2 h2
  refine ⟨h1, h3, h4, ?_, by rw [lvl_put, if_pos rfl]⟩
  obtain ⟨n, rfl⟩ : ∃ n : Nat, q = n := ⟨q.toNat, by omega⟩
  apply bitsN_congr
  intro j hj
  rw [has_put]
  unfold fset
  by_cases e : j = n
  · subst e
    rw [if_pos rfl]
    unfold has
    have : x ∈ lvl L j := lvl_mem.2 hm
    cases e : lvl L j with
    | nil => rw [e] at this; simp at this
    | cons a t => rfl
  · rw [if_neg e]
    unfold has
    rw [lvl_drop_ne hW (k := n) ((idx_mem _ _).2 (lvl_mem.2 hm)) j e]
theorem rem_mem (l : List Int) (x : Int) : remB l x = decide (x ∈ l) := by unfold remB; exact decide_eq_decide.2 (idx_mem l x)
theorem push_cases (l : List Int) (x : Int) : (pushE l x = 0 ∧ pushL l x = l ++ [x] ∧ x ∉ l) ∨ (pushE l x ≠ 0 ∧ pushL l x = l) := by
  unfold pushL
  by_cases h : pushE l x = 0
  · left
    refine ⟨h, if_pos h, ?_⟩
    intro hm
    unfold pushE at h
    split at h
    · omega
    · rw [if_pos ((idx_mem _ _).2 hm)] at h; omega
  · right; exact ⟨h, if_neg h⟩
theorem push_ok0 {l : List Int} {x : Int} (h : pushE l x = 0) : pushL l x = l ++ [x] ∧ x ∉ l := by
  rcases push_cases l x with h1 | h1
  · exact h1.2
  · exact absurd h h1.1
theorem push_no {l : List Int} {x : Int} (h : ¬ pushE l x = 0) : pushL l x = l := by
  rcases push_cases l x with h1 | h1
  · exact absurd h1.1 h
  · exact h1.2
theorem pop_none {M : List Int} {i : Nat} (h : popB (M.drop i) = false) : M.length ≤ i ∧ M.drop i = [] := by
  have : M.drop i = [] := by simpa [popB] using h
  exact ⟨by simpa using this, this⟩
abbrev wantM (L : List Int) (y : Int) (i : Nat) : List Int := (L.take i).filter (fun z => decide (z ≠ y))
theorem want_len (L : List Int) (y : Int) (i : Nat) : (wantM L y i).length ≤ L.length := Nat.le_trans (List.length_filter_le _ _) (by simp; omega)
theorem lev_same (L : Ones) {i : Nat} (hi : i < 8) : (decide ((0 : Int) < ((lvl L i).length : Nat)) == decide (((levN L / 2 ^ i % 2 : Nat) : Int) = 1)) = true := by
  have h := levN_bit L hi
  rw [beq_iff_eq]
  apply decide_eq_decide.2
  constructor
  · intro h1; have := h.2 (by omega); omega
  · intro h1; have := h.1 (by omega); omega
theorem last_get (l : List Int) (x : Int) : (l ++ [x])[l.length]? = some x := by simp
theorem nodup_snoc {L : List Int} {x : Int} (h : L.Nodup) (hx : x ∉ L) : (L ++ [x]).Nodup := by
  rw [List.nodup_append]
  refine ⟨h, by simp, ?_⟩
  intro a ha b hb
  rw [List.mem_singleton] at hb; subst hb
  rintro rfl; exact hx ha
theorem filter_take {l : List Int} {i : Nat} {y : Int} (h : l[i]? = some y) (x : Int) : (l.take (i + 1)).filter (fun z => decide (z ≠ x)) = (l.take i).filter (fun z => decide (z ≠ x)) ++ if y = x then [] else [y] := by
  rw [List.take_add_one, h, List.filter_append]
  by_cases e : y = x
  · subst e; simp
  · simp [e]
theorem mem_take {l : List Int} {i : Nat} {y : Int} (h : l[i]? = some y) (x : Int) : decide (x ∈ l.take (i + 1)) = (decide (x ∈ l.take i) || decide (y = x)) := by
  have e : x ∈ l.take (i + 1) ↔ x ∈ l.take i ∨ y = x := by
    rw [List.take_add_one, h, List.mem_append]; simp [eq_comm]
  rw [decide_eq_decide.2 e, Bool.decide_or]
theorem as_ints {els : List (List Value)} (h : ∀ x, x ∈ els → FlatV [some .i64] x) : ∃ l : List Int, els = l.map (fun x => [.int .i64 x]) ∧ ∀ o, o ∈ l → (fun _ => True) o :=
  map_of fun x hx => by
    obtain ⟨a, l, rfl, _, h⟩ := (h x hx).int
    obtain rfl := h.nil
    exact ⟨a, rfl, trivial⟩
instance : Enc OpL.cells 3 := ⟨fun _ => rfl, fun _ => rfl⟩
def keyO (o : OpL) : Int × Int := (o.id, o.level)
theorem pop_drop {M : List Int} {i : Nat} (hi : i < M.length) : ∃ y, M[i]? = some y ∧ popV (M.drop i) = y ∧ popB (M.drop i) = true ∧ (M.drop i).tail = M.drop (i + 1) ∧ M.take (i + 1) = M.take i ++ [y] := by
  refine ⟨M[i], List.getElem?_eq_getElem hi, ?_, ?_, by simp, ?_⟩
  · rw [List.drop_eq_getElem_cons hi]; rfl
  · rw [List.drop_eq_getElem_cons hi]; rfl
  · rw [List.take_add_one, List.getElem?_eq_getElem hi]; rfl

end Go.Proofs.Ytpjodkcghiklcaa
