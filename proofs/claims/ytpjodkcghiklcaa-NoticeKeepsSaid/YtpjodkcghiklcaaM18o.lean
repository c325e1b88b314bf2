/- Layer 18's laws in plain Lean. No condition. -/
import Derived.Test.YtpjodkcghiklcaaM18h
set_option linter.unusedVariables false
set_option linter.unusedSimpArgs false
namespace Go.Proofs.Ytpjodkcghiklcaa
open Go.SL

structure OpE where
  kind : Int
  id : Int
  wait : Bool
abbrev OpE.cells (o : OpE) : List Value := [.int .i64 o.kind, .int .i64 o.id, .bool o.wait]
instance : Enc OpE.cells 3 := ⟨fun _ => rfl, fun _ => rfl⟩
theorem as_opes {els : List (List Value)} (h : ∀ x, x ∈ els → FlatV [some .i64, some .i64, none] x) : ∃ l : List OpE, els = l.map OpE.cells ∧ ∀ o, o ∈ l → (fun _ => True) o :=
  map_of fun x hx => by
    obtain ⟨a, l, rfl, _, h⟩ := (h x hx).int
    obtain ⟨b, l, rfl, _, h1⟩ := h.int
    obtain ⟨c, l, rfl, h2⟩ := h1.bool
    obtain rfl := h2.nil
    exact ⟨⟨a, b, c⟩, rfl, trivial⟩
theorem rem_ne {l : List Int} {x : Int} (h : remL l x ≠ []) : l ≠ [] := by rintro rfl; exact h rfl
theorem rel_rem {S : Ep} {r : Bool} (h : EpRel S r) (x : Int) : EpRel ⟨S.w, remL S.l x⟩ r := fun e => h (rem_ne e)
theorem rel_nil {w : Int} {r : Bool} : EpRel ⟨w, []⟩ r := fun e => absurd rfl e
theorem stW_rel {S : Ep} {r : Bool} (h : EpRel S r) : stW S = stW ⟨wOf r, S.l⟩ := by
  unfold stW
  by_cases e : S.l = []
  · rw [if_pos e]; dsimp only; rw [if_pos e]
  · rw [if_neg e]; dsimp only; rw [if_neg e, h e]
theorem ite_view {T : Nat} {v : Value} {l : List Int} {K : Hp} (hs : Slc T 1 v l.length (intsC l) K) : ∃ a c, (if l = [] then (.slice none 0 0 : Value) else v) = .slice a l.length c ∧ View K 1 (.slice a l.length c) l.length (intsC l) := by
  by_cases e : l = []
  · subst e; exact ⟨none, 0, rfl, View.nil _ _⟩
  · obtain ⟨a, c, rfl⟩ := hs.form
    exact ⟨a, c, if_neg e, hs.view⟩

/-- Those that wait, as the law keeps them. -/
structure MRel (S : Ep) (A : List OpE) : Prop where
  ids : S.l = A.map OpE.id
  nd : S.l.Nodup
  kind : ∀ o, o ∈ A → S.w = o.kind + 1
theorem MRel.nil {w : Int} : MRel ⟨w, []⟩ [] := ⟨rfl, List.nodup_nil, fun o h => (List.not_mem_nil h).elim⟩
theorem filter_ids (A : List OpE) (x : Int) : (A.map OpE.id).filter (fun y => decide (y ≠ x)) = (A.filter (fun o => decide (o.id ≠ x))).map OpE.id := by
  rw [List.filter_map]; rfl
theorem MRel.cancel {S : Ep} {A : List OpE} (h : MRel S A) (x : Int) : MRel ⟨S.w, remL S.l x⟩ (A.filter (fun o => decide (o.id ≠ x))) := by
  refine ⟨?_, ?_, fun o ho => h.kind o (List.mem_filter.1 ho).1⟩
  · dsimp only; rw [rem_filter h.nd, h.ids, filter_ids]
  · dsimp only; rw [rem_filter h.nd]; exact h.nd.sublist List.filter_sublist
theorem filterT {A : List OpE} {i : Nat} {o : OpE} (h : A[i]? = some o) (x : Int) : (A.take (i + 1)).filter (fun o => decide (o.id ≠ x)) = (A.take i).filter (fun o => decide (o.id ≠ x)) ++ if o.id ≠ x then [o] else [] := by
  rw [List.take_add_one, h, List.filter_append]
  by_cases e : o.id = x
  · subst e; simp
  · simp [e]
theorem filterT_len (A : List OpE) (i : Nat) (x : Int) : ((A.take i).filter (fun o => decide (o.id ≠ x))).length ≤ A.length := Nat.le_trans (List.length_filter_le _ _) (by simp; omega)
theorem MRel.yes {S : Ep} {a : OpE} {t : List OpE} (h : MRel S (a :: t)) {x : OpE} {wait : Bool} {way : Int} (hw : way = x.kind + 1) (he : pushE S.l x.id = 0) (hk : a.kind ≠ x.kind) :
    meetV S x.id way = a.id ∧ meetB S x.id way = true ∧ MRel (meetS S x.id way wait) t := by
  have h1 : S.l ≠ [] := by rw [h.ids]; simp
  have h2 : S.w ≠ way := by have := h.kind a (List.mem_cons_self ..); omega
  obtain ⟨m1, m2, m3⟩ := meet_yes (wait := wait) he h1 h2
  refine ⟨by rw [m1, h.ids]; rfl, m2, ?_⟩
  rw [m3]
  refine ⟨by dsimp only; rw [h.ids]; rfl, h.nd.sublist (List.tail_sublist _), fun o ho => h.kind o (List.mem_cons_of_mem _ ho)⟩
theorem MRel.no {S : Ep} {A : List OpE} (h : MRel S A) {x : OpE} {wait : Bool} {way : Int} (hw : way = x.kind + 1) (he : pushE S.l x.id = 0) (hk : ∀ o, o ∈ A → o.kind = x.kind) :
    meetV S x.id way = 0 ∧ meetB S x.id way = false ∧ MRel (meetS S x.id way wait) (if wait then A ++ [x] else A) := by
  have h1 : ¬ (S.l ≠ [] ∧ S.w ≠ way) := by
    rintro ⟨e1, e2⟩
    cases A with
    | nil => rw [h.ids] at e1; exact e1 rfl
    | cons a t => have := h.kind a (List.mem_cons_self ..); have := hk a (List.mem_cons_self ..); omega
  obtain ⟨m1, m2, m3⟩ := meet_no (wait := wait) he h1
  refine ⟨m1, m2, ?_⟩
  rw [m3]
  cases wait
  · exact h
  · refine ⟨?_, ?_, ?_⟩
    · show S.l ++ [x.id] = (A ++ [x]).map OpE.id
      rw [h.ids, List.map_append]; rfl
    · exact nodup_snoc h.nd (push_ok0 he).2
    · intro o ho
      show way = o.kind + 1
      rcases List.mem_append.1 ho with ho | ho
      · rw [hk o ho]; exact hw
      · rw [List.mem_singleton.1 ho]; exact hw
theorem MRel.err {S : Ep} {A : List OpE} (h : MRel S A) {id way : Int} {wait : Bool} (he : ¬ pushE S.l id = 0) : MRel (meetS S id way wait) A := by rw [(meet_err he).2.2]; exact h
theorem MRel.same {S : Ep} {A : List OpE} (h : MRel S A) {a b : OpE} (ha : a ∈ A) (hb : b ∈ A) : a.kind = b.kind := by have := h.kind a ha; have := h.kind b hb; omega
theorem MRel.len {S : Ep} {A : List OpE} (h : MRel S A) : S.l.length = A.length := by rw [h.ids, List.length_map]

theorem three_cases (A : List OpE) (k : Int) : A = [] ∨ (∃ a t, A = a :: t ∧ a.kind ≠ k) ∨ (∃ a t, A = a :: t ∧ a.kind = k) := by
  cases A with
  | nil => exact .inl rfl
  | cons a t => by_cases h : a.kind = k
                · exact .inr (.inr ⟨a, t, rfl, h⟩)
                · exact .inr (.inl ⟨a, t, rfl, h⟩)
/-! A row -/
def seg (i n : Nat) : List Int := (List.range' i (n - i)).map (fun k : Nat => (k : Int))
theorem seg_len (i n : Nat) : (seg i n).length = n - i := by simp [seg]
theorem seg_nil {i n : Nat} (h : n ≤ i) : seg i n = [] := by unfold seg; rw [show n - i = 0 by omega]; rfl
theorem seg_cons {i n : Nat} (h : i < n) : seg i n = (i : Int) :: seg (i + 1) n := by
  unfold seg; rw [show n - i = (n - (i + 1)) + 1 by omega, List.range'_succ]; rfl
theorem seg_snoc {i n : Nat} (h : i ≤ n) : seg i (n + 1) = seg i n ++ [(n : Int)] := by
  unfold seg; rw [show n + 1 - i = (n - i) + 1 by omega, List.range'_concat]; simp; omega
theorem seg_mem {i n : Nat} {x : Int} : x ∈ seg i n ↔ ∃ k : Nat, x = k ∧ i ≤ k ∧ k < n := by
  unfold seg
  rw [List.mem_map]
  constructor
  · rintro ⟨k, hk, rfl⟩; rw [List.mem_range'_1] at hk; exact ⟨k, rfl, by omega, by omega⟩
  · rintro ⟨k, rfl, h1, h2⟩; exact ⟨k, by rw [List.mem_range'_1]; omega, rfl⟩
def rowW (b : Bool) (n : Nat) : Int := if n = 0 then 0 else wOf b
theorem row_put (b : Bool) {i : Nat} (hi : i < 30) : pushE (seg 0 i) i = 0 ∧ meetB ⟨rowW b i, seg 0 i⟩ i (wOf b) = false ∧ meetS ⟨rowW b i, seg 0 i⟩ i (wOf b) true = ⟨rowW b (i + 1), seg 0 (i + 1)⟩ := by
  have he : pushE (seg 0 i) i = 0 := push_zero (by simp [rightM]; omega) (fun h => by obtain ⟨k, e, _, h2⟩ := seg_mem.1 h; omega)
  have hn : ¬ ((⟨rowW b i, seg 0 i⟩ : Ep).l ≠ [] ∧ (⟨rowW b i, seg 0 i⟩ : Ep).w ≠ wOf b) := by
    rintro ⟨h1, h2⟩
    by_cases e : i = 0
    · subst e; exact h1 rfl
    · dsimp only at h2; unfold rowW at h2; rw [if_neg e] at h2; exact h2 rfl
  obtain ⟨m1, m2, m3⟩ := meet_no (wait := true) he hn
  refine ⟨he, m2, ?_⟩
  rw [m3]; dsimp only; rw [if_pos rfl, seg_snoc (Nat.zero_le _)]
  unfold rowW; rw [if_neg (show ¬ i + 1 = 0 by omega)]
theorem row_take (b c : Bool) (hb : c ≠ b) {i n : Nat} (hi : i < 30) (hn : n < 30) : meetB ⟨rowW b n, seg i n⟩ (32 + i) (wOf c) = decide (i < n) ∧ meetV ⟨rowW b n, seg i n⟩ (32 + i) (wOf c) = (if i < n then (i : Int) else 0) ∧ meetS ⟨rowW b n, seg i n⟩ (32 + i) (wOf c) false = ⟨rowW b n, seg (i + 1) n⟩ := by
  have he : pushE (seg i n) (32 + i) = 0 := push_zero (by simp [rightM]; omega) (fun h => by obtain ⟨k, e, _, h2⟩ := seg_mem.1 h; omega)
  by_cases h : i < n
  · have h1 : (⟨rowW b n, seg i n⟩ : Ep).l ≠ [] := by dsimp only; rw [seg_cons h]; simp
    have h2 : (⟨rowW b n, seg i n⟩ : Ep).w ≠ wOf c := by dsimp only; unfold rowW; rw [if_neg (by omega)]; exact wOf_inj.2 (Ne.symm hb)
    obtain ⟨m1, m2, m3⟩ := meet_yes (wait := false) he h1 h2
    refine ⟨by rw [m2, decide_eq_true h], by rw [m1, if_pos h]; dsimp only; rw [seg_cons h]; rfl, ?_⟩
    rw [m3]; dsimp only; rw [seg_cons h]; rfl
  · have hz : seg i n = [] := seg_nil (by omega)
    have hz2 : seg (i + 1) n = [] := seg_nil (by omega)
    obtain ⟨m1, m2, m3⟩ := meet_no (S := ⟨rowW b n, seg i n⟩) (id := 32 + i) (way := wOf c) (wait := false) he (fun e => e.1 hz)
    refine ⟨by rw [m2, decide_eq_false h], by rw [m1, if_neg h], ?_⟩
    rw [m3]; simp [hz, hz2]

end Go.Proofs.Ytpjodkcghiklcaa
