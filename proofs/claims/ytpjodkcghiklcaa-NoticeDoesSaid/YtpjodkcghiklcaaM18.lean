/- Layers 18 and 19 in plain Lean: who meets whom at an endpoint; what a notice tells. No condition. -/
import Derived.Test.YtpjodkcghiklcaaM17t
set_option linter.unusedVariables false
set_option linter.unusedSimpArgs false
namespace Go.Proofs.Ytpjodkcghiklcaa
open Go.SL

theorem push_right {l : List Int} {x : Int} (h : pushE l x = 0) : rightM x = true ∧ x ∉ l := by
  refine ⟨?_, (push_ok0 h).2⟩
  unfold pushE at h
  split at h
  · omega
  · rename_i h1; simpa using h1
theorem push_zero {l : List Int} {x : Int} (h1 : rightM x = true) (h2 : x ∉ l) : pushE l x = 0 := (pushL_ok h1 (fun h => h2 ((idx_mem _ _).1 h))).1
theorem rem_none {l : List Int} {x : Int} (h : x ∉ l) : remL l x = l := by
  unfold remL; rw [if_neg (fun h' => h ((idx_mem _ _).1 h'))]
theorem idx_snoc : ∀ {l : List Int} {x : Int}, x ∉ l → idxM (l ++ [x]) x = l.length
  | [], x, _ => by simp [idxM]
  | a :: l, x, h => by
    rw [List.mem_cons, not_or] at h
    have ih := idx_snoc h.2
    simp only [List.cons_append, idxM, if_neg (Ne.symm h.1), ih, List.length_cons]
    rw [if_neg (by omega)]; push_cast; rfl
theorem rem_snoc {l : List Int} {x : Int} (h : x ∉ l) : remL (l ++ [x]) x = l := by
  unfold remL; rw [idx_snoc h, if_pos (by omega)]; simp
theorem head_snoc {l : List Int} {x : Int} (h : x ∉ l) : ∃ f, (l ++ [x])[0]? = some f ∧ (f ≠ x ↔ l ≠ []) ∧ (l ≠ [] → f = l.headD 0) := by
  cases l with
  | nil => exact ⟨x, rfl, by simp, fun h => absurd rfl h⟩
  | cons a t =>
    refine ⟨a, rfl, ?_, fun _ => rfl⟩
    rw [List.mem_cons, not_or] at h
    simp [Ne.symm h.1]

/-! ### 18: an endpoint -/
structure Ep where
  w : Int
  l : List Int
def meets (S : Ep) (way : Int) : Bool := !S.l.isEmpty && decide (S.w ≠ way)
def meetB (S : Ep) (id way : Int) : Bool := decide (pushE S.l id = 0) && meets S way
def meetV (S : Ep) (id way : Int) : Int := if meetB S id way then S.l.headD 0 else 0
def meetS (S : Ep) (id way : Int) (wait : Bool) : Ep := if pushE S.l id = 0 then (if meets S way then ⟨S.w, S.l.tail⟩ else if wait then ⟨way, S.l ++ [id]⟩ else S) else S
def stW (S : Ep) : Int := if S.l = [] then 0 else S.w
theorem meet_err {S : Ep} {id way : Int} {wait : Bool} (h : ¬ pushE S.l id = 0) : meetV S id way = 0 ∧ meetB S id way = false ∧ meetS S id way wait = S := by
  have h2 : meetB S id way = false := by unfold meetB; rw [decide_eq_false h]; rfl
  exact ⟨by unfold meetV; rw [h2]; rfl, h2, if_neg h⟩
theorem meet_yes {S : Ep} {id way : Int} {wait : Bool} (h : pushE S.l id = 0) (h1 : S.l ≠ []) (h2 : S.w ≠ way) : meetV S id way = S.l.headD 0 ∧ meetB S id way = true ∧ meetS S id way wait = ⟨S.w, S.l.tail⟩ := by
  have h3 : meets S way = true := by unfold meets; simp [h1, h2]
  have h4 : meetB S id way = true := by unfold meetB; rw [decide_eq_true h, h3]; rfl
  exact ⟨by unfold meetV; rw [if_pos h4], h4, by unfold meetS; rw [if_pos h, if_pos h3]⟩
theorem meet_no {S : Ep} {id way : Int} {wait : Bool} (h : pushE S.l id = 0) (h1 : ¬ (S.l ≠ [] ∧ S.w ≠ way)) : meetV S id way = 0 ∧ meetB S id way = false ∧ meetS S id way wait = if wait then ⟨way, S.l ++ [id]⟩ else S := by
  have h3 : meets S way = false := by
    unfold meets
    by_cases e : S.l = []
    · simp [e]
    · have : S.w = way := Decidable.byContradiction fun h => h1 ⟨e, h⟩
      simp [this]
  have h4 : meetB S id way = false := by unfold meetB; rw [h3, Bool.and_false]
  exact ⟨by unfold meetV; rw [h4]; rfl, h4, by unfold meetS; rw [if_pos h, h3]; rfl⟩
theorem meetS_len (S : Ep) (id way : Int) (wait : Bool) : (meetS S id way wait).l.length ≤ S.l.length + 1 := by
  unfold meetS
  split
  · split
    · simp; omega
    · split <;> simp
  · omega
def wOf (r : Bool) : Int := if r then 2 else 1
theorem wOf_inj {a b : Bool} : (wOf a ≠ wOf b) ↔ a ≠ b := by cases a <;> cases b <;> decide
/-- What the program's endpoint is at is what the document's is. -/
def EpRel (S : Ep) (r : Bool) : Prop := S.l ≠ [] → S.w = wOf r
theorem meet_rel {S : Ep} {r : Bool} (h : EpRel S r) (id : Int) (r2 wait : Bool) : meetV S id (wOf r2) = meetV ⟨wOf r, S.l⟩ id (wOf r2) ∧ meetB S id (wOf r2) = meetB ⟨wOf r, S.l⟩ id (wOf r2) ∧
    (meetS S id (wOf r2) wait).l = (meetS ⟨wOf r, S.l⟩ id (wOf r2) wait).l := by
  by_cases e : S.l = []
  · have e1 : meets S (wOf r2) = false := by unfold meets; simp [e]
    have e2 : meets ⟨wOf r, S.l⟩ (wOf r2) = false := by unfold meets; simp [e]
    have e3 : meetB S id (wOf r2) = meetB ⟨wOf r, S.l⟩ id (wOf r2) := by unfold meetB; rw [e1, e2]
    refine ⟨by unfold meetV; rw [e3], e3, ?_⟩
    unfold meetS; rw [e1, e2]; simp only [Bool.false_eq_true, if_false]
    split
    · cases wait <;> rfl
    · rfl
  · have : S = ⟨wOf r, S.l⟩ := by obtain ⟨w, l⟩ := S; have := h e; dsimp only at this ⊢; rw [this]
    rw [← this]; exact ⟨rfl, rfl, rfl⟩
/-- Whether the document's endpoint receives, behind a meeting. -/
def meetR (r : Bool) (l : List Int) (id : Int) (r2 wait : Bool) : Bool := if pushE l id = 0 ∧ meets ⟨wOf r, l⟩ (wOf r2) = false ∧ wait = true then r2 else r
theorem dmeet_err {l : List Int} {r rc wait : Bool} {id : Int} (h : ¬ pushE l id = 0) : meetV ⟨wOf r, l⟩ id (wOf rc) = 0 ∧ meetB ⟨wOf r, l⟩ id (wOf rc) = false ∧ (meetS ⟨wOf r, l⟩ id (wOf rc) wait).l = l ∧ meetR r l id rc wait = r := by
  obtain ⟨h1, h2, h3⟩ := meet_err (S := ⟨wOf r, l⟩) (way := wOf rc) (wait := wait) h
  exact ⟨h1, h2, by rw [h3], by unfold meetR; rw [if_neg (fun e => h e.1)]⟩
theorem dmeet_yes {l : List Int} {r rc wait : Bool} {id : Int} (h : pushE l id = 0) (h1 : l ≠ []) (h2 : r ≠ rc) : meetV ⟨wOf r, l⟩ id (wOf rc) = l.headD 0 ∧ meetB ⟨wOf r, l⟩ id (wOf rc) = true ∧ (meetS ⟨wOf r, l⟩ id (wOf rc) wait).l = l.tail ∧ meetR r l id rc wait = r := by
  have hw := wOf_inj.2 h2
  obtain ⟨g1, g2, g3⟩ := meet_yes (S := ⟨wOf r, l⟩) (way := wOf rc) (wait := wait) h h1 hw
  refine ⟨g1, g2, by rw [g3], ?_⟩
  unfold meetR; rw [if_neg]
  rintro ⟨_, h3, _⟩
  unfold meets at h3; simp [h1, hw] at h3
theorem dmeet_no {l : List Int} {r rc wait : Bool} {id : Int} (h : pushE l id = 0) (h1 : ¬ (l ≠ [] ∧ r ≠ rc)) : meetV ⟨wOf r, l⟩ id (wOf rc) = 0 ∧ meetB ⟨wOf r, l⟩ id (wOf rc) = false ∧ (meetS ⟨wOf r, l⟩ id (wOf rc) wait).l = (if wait then l ++ [id] else l) ∧ meetR r l id rc wait = if wait then rc else r := by
  have hw : ¬ ((⟨wOf r, l⟩ : Ep).l ≠ [] ∧ (⟨wOf r, l⟩ : Ep).w ≠ wOf rc) := fun e => h1 ⟨e.1, wOf_inj.1 e.2⟩
  obtain ⟨g1, g2, g3⟩ := meet_no (S := ⟨wOf r, l⟩) (way := wOf rc) (wait := wait) h hw
  refine ⟨g1, g2, by rw [g3]; cases wait <;> rfl, ?_⟩
  have h3 : meets ⟨wOf r, l⟩ (wOf rc) = false := by
    unfold meets
    by_cases e : l = []
    · simp [e]
    · have : r = rc := Decidable.byContradiction fun h => h1 ⟨e, h⟩
      simp [this]
  unfold meetR
  cases wait
  · rw [if_neg (by simp)]; rfl
  · rw [if_pos ⟨h, h3, rfl⟩]; rfl
theorem meet_rel2 {S : Ep} {r : Bool} (h : EpRel S r) (id : Int) (r2 wait : Bool) : EpRel (meetS S id (wOf r2) wait) (meetR r S.l id r2 wait) := by
  have hm : meets S (wOf r2) = meets ⟨wOf r, S.l⟩ (wOf r2) := by
    by_cases e : S.l = []
    · unfold meets; simp [e]
    · unfold meets; rw [h e]
  unfold EpRel meetS meetR
  by_cases h1 : pushE S.l id = 0
  · rw [if_pos h1]
    by_cases h2 : meets S (wOf r2) = true
    · rw [if_pos h2, if_neg (by rw [← hm, h2]; simp)]
      intro h3; exact h (fun e => by rw [e] at h3; exact h3 rfl)
    · rw [if_neg h2]
      have h2' : meets S (wOf r2) = false := by simpa using h2
      cases wait
      · simp only [Bool.false_eq_true, if_false, and_false]; exact h
      · rw [if_pos rfl, if_pos ⟨h1, by rw [← hm]; exact h2', rfl⟩]; intro _; rfl
  · rw [if_neg h1, if_neg (fun e => h1 e.1)]; exact h

/-! ### 19: a notice -/
structure Nt where
  w : Int
  l : List Int
  b : List Int
abbrev orI (a b : Int) : Int := bitsI .or .u64 a b
def sgV (S : Nt) (bound : Bool) : Int := if S.l ≠ [] then S.l.headD 0 else if bound = true ∧ S.b ≠ [] then S.b.headD 0 else 0
def sgW (S : Nt) (x : Int) (bound : Bool) : Int := if S.l ≠ [] then x else if bound = true ∧ S.b ≠ [] then orI S.w x else 0
def sgB (S : Nt) (bound : Bool) : Bool := if S.l ≠ [] then true else if bound = true ∧ S.b ≠ [] then true else false
def sgS (S : Nt) (x : Int) (bound : Bool) : Nt := if S.l ≠ [] then ⟨S.w, S.l.tail, S.b⟩ else if bound = true ∧ S.b ≠ [] then ⟨0, S.l, S.b⟩ else ⟨orI S.w x, S.l, S.b⟩
def wtE (S : Nt) (id : Int) : Int := pushE S.l id
def wtW (S : Nt) (id : Int) : Int := if pushE S.l id = 0 then S.w else 0
def wtB (S : Nt) (id : Int) : Bool := decide (pushE S.l id = 0 ∧ S.w ≠ 0)
def wtS (S : Nt) (id : Int) (wait : Bool) : Nt := if pushE S.l id = 0 then (if S.w = 0 ∧ wait = true then ⟨S.w, S.l ++ [id], S.b⟩ else ⟨0, S.l, S.b⟩) else S
def bdE (S : Nt) (id : Int) : Int := if pushE [] id = 0 then (if S.b = [] then 0 else 4) else pushE [] id
def bdS (S : Nt) (id : Int) : Nt := if pushE [] id = 0 ∧ S.b = [] then ⟨S.w, S.l, [id]⟩ else S
theorem sgS_len (S : Nt) (x : Int) (b : Bool) : (sgS S x b).l.length ≤ S.l.length ∧ (sgS S x b).b = S.b := by
  unfold sgS
  split
  · simp
  · split <;> simp
theorem wtS_len (S : Nt) (id : Int) (b : Bool) : (wtS S id b).l.length ≤ S.l.length + 1 ∧ (wtS S id b).b = S.b := by
  unfold wtS
  split
  · split <;> simp
  · simp
theorem bdS_len (S : Nt) (id : Int) : (bdS S id).l = S.l ∧ (S.b.length ≤ 1 → (bdS S id).b.length ≤ 1) := by
  unfold bdS
  split <;> simp
theorem bdS_eq (S : Nt) (id : Int) : bdS S id = ⟨S.w, S.l, (bdS S id).b⟩ := by
  unfold bdS; split <;> rfl

end Go.Proofs.Ytpjodkcghiklcaa
