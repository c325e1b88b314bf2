/- Layer 21: where a schedule lies (the program's and the document's). No condition. -/
import Derived.Test.YtpjodkcghiklcabM21
set_option linter.unusedVariables false
set_option linter.unusedSimpArgs false
namespace Go.Proofs.Ytpjodkcghiklcab
open Go.SL

abbrev ptrV (b : Nat) : Value := .pointer (some ⟨b, 0, none⟩)
def schC (v : Value) (e l : Int) (p : Nat → Value) : List Value := v :: .int .i64 e :: .int .i64 l :: (List.range 4).map p
theorem sch_p {v : Value} {e l : Int} {p : Nat → Value} {d : Nat} (hd : d < 4) : nth (schC v e l p) (3 + d * 1) = some (p d) := by
  rw [nth_eq, Nat.mul_one, Nat.add_comm]
  unfold schC
  simp only [List.getElem?_cons_succ]
  rw [List.getElem?_map, List.getElem?_range hd]; rfl
theorem arr_p {p : Nat → Value} {d : Nat} (hd : d < 4) : nth ((List.range 4).map p) (d * 1) = some (p d) := by
  rw [nth_eq, Nat.mul_one, List.getElem?_map, List.getElem?_range hd]; rfl
theorem sch_reads {v : Value} {e l : Int} {p : Nat → Value} : Reads (schC v e l p) 3 ((List.range 4).map p) := ⟨rfl, rfl, rfl, rfl, trivial⟩
theorem map_set4 {p : Nat → Value} {d : Nat} {x : Value} (hd : d < 4) : ((List.range 4).map p).set d x = (List.range 4).map (fset p d x) := by
  apply List.ext_getElem?
  intro j
  rw [List.getElem?_set, List.getElem?_map, List.getElem?_map, List.length_map, List.length_range]
  by_cases e : d = j
  · subst e; rw [if_pos rfl, if_pos hd, List.getElem?_range hd, Option.map_some, fset_same]
  · rw [if_neg e]
    by_cases h : j < 4
    · rw [List.getElem?_range h, Option.map_some, Option.map_some, fset_ne (Ne.symm e)]
    · rw [List.getElem?_eq_none (by simpa using h)]; rfl
theorem sch_setL {v : Value} {e l : Int} {p : Nat → Value} {d : Nat} {x : Value} (hd : d < 4) : SetL (schC v e l p) (3 + d * 1) [x] (schC v e l (fset p d x)) := by
  have h := SetL.set1 (l := schC v e l p) (i := 3 + d * 1) (v := x) (by simp [schC]; omega)
  have e2 : (schC v e l p).set (3 + d * 1) x = schC v e l (fset p d x) := by
    unfold schC
    rw [show 3 + d * 1 = d + 1 + 1 + 1 by omega, List.set_cons_succ, List.set_cons_succ, List.set_cons_succ, map_set4 hd]
  rw [e2] at h; exact h
instance sch_setE {v : Value} {e e' l : Int} {p : Nat → Value} : SetL (schC v e l p) 1 [.int .i64 e'] (schC v e' l p) := by unfold schC; exact inferInstance
instance sch_setF {v : Value} {e l l' : Int} {p : Nat → Value} : SetL (schC v e l p) 2 [.int .i64 l'] (schC v e l' p) := by unfold schC; exact inferInstance
theorem sch_0 {v : Value} {e l : Int} {p : Nat → Value} : nth (schC v e l p) 0 = some v := rfl
theorem sch_1 {v : Value} {e l : Int} {p : Nat → Value} : nth (schC v e l p) 1 = some (.int .i64 e) := rfl
theorem sch_2 {v : Value} {e l : Int} {p : Nat → Value} : nth (schC v e l p) 2 = some (.int .i64 l) := rfl
def Rdys (L : Nat → Ones) (rb : Nat → Nat) (h : Nat → Hp) : Prop := ∀ d, d < 4 → RdyH (L d) (rb d) (h d)
def DRdys (L : Nat → Ones) (rb : Nat → Nat) (h : Nat → Hp) : Prop := ∀ d, d < 4 → DRdyH (L d) (rb d) (h d)
theorem Rdys.set {L : Nat → Ones} {rb : Nat → Nat} {h : Nat → Hp} (hR : Rdys L rb h) {d : Nat} {M : Ones} {H : Hp} (hM : RdyH M (rb d) H) : Rdys (fset L d M) rb (fset h d H) := fun j hj => by
  by_cases e : j = d
  · subst e; rw [fset_same, fset_same]; exact hM
  · rw [fset_ne e, fset_ne e]; exact hR j hj
theorem DRdys.set {L : Nat → Ones} {rb : Nat → Nat} {h : Nat → Hp} (hR : DRdys L rb h) {d : Nat} {M : Ones} {H : Hp} (hM : DRdyH M (rb d) H) : DRdys (fset L d M) rb (fset h d H) := fun j hj => by
  by_cases e : j = d
  · subst e; rw [fset_same, fset_same]; exact hM
  · rw [fset_ne e, fset_ne e]; exact hR j hj
def SchH (T : Ones) (e : Nat) (l : Int) (L : Nat → Ones) (sb : Nat) (H : Hp) : Prop := ∃ v K rb h, Slc 39 2 v T.length (cel oneC T) K ∧ Rdys L rb h ∧ H = (sb, .cells (schC v (e : Int) l (fun d => ptrV (rb d))).toArray 57) :: (K ++ segs h 4)
def DSchH (T : Ones) (n : Int) (L : Nat → Ones) (qb : Nat) (H : Hp) : Prop := ∃ v K w J rb h, Slc 32 2 v T.length (cel oneC T) K ∧ Slc 65 1 w 4 ((List.range 4).map (fun d => ptrV (rb d))) J ∧ DRdys L rb h ∧
  H = (qb, .cells [v, .int .i64 n, w].toArray 64) :: (K ++ (J ++ segs h 4))

theorem sch_congr {v : Value} {e l : Int} {p q : Nat → Value} (h : ∀ d, d < 4 → p d = q d) : schC v e l p = schC v e l q := by
  unfold schC
  rw [List.map_congr_left (fun d hd => h d (List.mem_range.1 hd))]
def domN (T : Ones) (e : Nat) : Nat := (tkd T e).1.toNat
theorem At.domN {T : Ones} {e : Nat} {l : Int} (h : At T e l) : (tkd T e).1 = (domN T e : Nat) ∧ domN T e < 4 := by
  have := h.dom.1
  unfold Proofs.Ytpjodkcghiklcab.domN
  exact ⟨by omega, by omega⟩
def okB (T : Ones) : Nat → Bool
  | 0 => decide (1 ≤ T.length ∧ T.length ≤ 16)
  | i + 1 => okB T i && decide (tmOk (tkd T i))
theorem okB_iff {T : Ones} : ∀ {i}, i ≤ T.length → (okB T i = true ↔ (1 ≤ T.length ∧ T.length ≤ 16) ∧ ∀ j, j < i → tmOk (tkd T j))
  | 0, _ => by simp [okB]
  | i + 1, h => by
    have ih := okB_iff (T := T) (i := i) (by omega)
    simp only [okB, Bool.and_eq_true, decide_eq_true_eq, ih]
    constructor
    · rintro ⟨⟨h1, h2⟩, h3⟩
      refine ⟨h1, fun j hj => ?_⟩
      by_cases e : j = i
      · rw [e]; exact h3
      · exact h2 j (by omega)
    · rintro ⟨h1, h2⟩
      exact ⟨⟨h1, fun j hj => h2 j (by omega)⟩, h2 i (by omega)⟩
theorem tms_iff {T : Ones} : tmsOk T ↔ (1 ≤ T.length ∧ T.length ≤ 16) ∧ ∀ j, j < T.length → tmOk (tkd T j) := by
  constructor
  · rintro ⟨h1, h2⟩; exact ⟨h1, fun j hj => h2 _ (List.mem_of_getElem? (tkd_get hj))⟩
  · rintro ⟨h1, h2⟩
    refine ⟨h1, fun t ht => ?_⟩
    obtain ⟨j, hj, e⟩ := List.mem_iff_getElem.1 ht
    have := h2 j hj
    have e2 := tkd_get hj
    rw [List.getElem?_eq_getElem hj, e] at e2
    rw [Option.some.inj e2]; exact this
theorem okB_all {T : Ones} {i : Nat} (h : i = T.length) : okB T i = decide (tmsOk T) := by
  subst h
  rw [Bool.eq_iff_iff, okB_iff (Nat.le_refl _), decide_eq_true_eq, tms_iff]
theorem okB_no {T : Ones} {i : Nat} (hi : i ≤ T.length) (h : okB T i = false) : okB T i = decide (tmsOk T) := by
  rw [h, eq_comm, decide_eq_false_iff_not]
  intro h2
  have h3 := tms_iff.1 h2
  have : okB T i = true := (okB_iff hi).2 ⟨h3.1, fun j hj => h3.2 j (by omega)⟩
  rw [h] at this; cases this
theorem okB_step {T : Ones} {i : Nat} (h : okB T i = true) : decide (((0 ≤ (tkd T i).1 ∧ (tkd T i).1 ≤ 3) ∧ 1 ≤ (tkd T i).2) ∧ (tkd T i).2 ≤ 1000) = okB T (i + 1) := by
  simp only [okB, h, Bool.true_and]
  apply decide_eq_decide.2
  unfold tmOk
  constructor
  · rintro ⟨⟨h1, h2⟩, h3⟩; exact ⟨⟨h1.1, by omega⟩, h2, h3⟩
  · rintro ⟨h1, h2⟩; exact ⟨⟨⟨h1.1, by omega⟩, h2.1⟩, h2.2⟩
theorem tms_bad {T : Ones} {i : Nat} (hi : i < T.length) (h : ¬ tmOk (tkd T i)) : ¬ tmsOk T := fun e => h (e.2 _ (List.mem_of_getElem? (tkd_get hi)))
theorem range4_snoc (rb : Nat → Nat) (d : Nat) : (List.range (d + 1)).map (fun j => ptrV (rb j)) = (List.range d).map (fun j => ptrV (rb j)) ++ [ptrV (rb d)] := by rw [List.range_succ, List.map_append]; rfl
theorem ptrs_congr {rb rb' : Nat → Nat} {d : Nat} (h : ∀ j, j < d → rb j = rb' j) : (List.range d).map (fun j => ptrV (rb j)) = (List.range d).map (fun j => ptrV (rb' j)) :=
  List.map_congr_left (fun j hj => by rw [h j (List.mem_range.1 hj)])
theorem ptr_nth {cc : List Value} {o d n : Nat} {rb : Nat → Nat} (hr : Reads cc o ((List.range n).map (fun j => ptrV (rb j)))) (hd : d < n) : nth cc (o + d * 1) = some (.pointer (some ⟨rb d, 0, none⟩)) := by
  rw [nth_eq, Nat.mul_one]
  exact hr.at_ d _ (by rw [List.getElem?_map, List.getElem?_range hd]; rfl)
theorem spE_doc {L : Nat → Ones} {x d k : Int} : True := trivial

theorem reads_app {cc : List Value} : ∀ {A B : List Value} {o : Nat}, Reads cc o A → Reads cc (o + A.length) B → Reads cc o (A ++ B)
  | [], B, o, _, h => by simpa using h
  | a :: A, B, o, h, k => ⟨h.1, reads_app h.2 (by rw [show o + 1 + A.length = o + (a :: A).length by simp; omega]; exact k)⟩
theorem reads_cel {α : Type} {f : α → List Value} {k : Nat} [hf : Enc f k] {cc : List Value} : ∀ {l : List α} {o : Nat}, (∀ i a, l[i]? = some a → Reads cc (o + i * k) (f a)) → Reads cc o (cel f l)
  | [], _, _ => trivial
  | a :: l, o, h => by
    rw [cel_cons]
    refine reads_app (by simpa using h 0 a rfl) ?_
    rw [hf.len]
    exact reads_cel (fun i b hi => by
      have := h (i + 1) b (by simpa using hi)
      rwa [show o + (i + 1) * k = o + k + i * k by rw [Nat.add_mul]; omega] at this)
/-- What came in can be read as a whole. -/
theorem argS_view {α : Type} {f : α → List Value} {k : Nat} [hf : Enc f k] {G : Hp} (hnd : (G.map Prod.fst).Nodup) {a : Option Addr} {c : Nat} {l : List α} (ha : ArgS G k a (l.map f)) (hc : l.length ≤ c) : View G k (.slice a l.length c) l.length (cel f l) := by
  refine ⟨cel_len l, a, c, rfl, hc, ?_⟩
  by_cases h0 : l.length = 0
  · exact .inl h0
  · right
    obtain ⟨x, hx⟩ : ∃ x, l[0]? = some x := ⟨_, List.getElem?_eq_getElem (by omega)⟩
    obtain ⟨_, b, o, cc, T, g, rfl, hm, _⟩ := ha 0 (f x) (by rw [List.getElem?_map, hx]; rfl)
    refine ⟨b, o, cc, T, g, rfl, hm, reads_cel fun i y hy => ?_⟩
    obtain ⟨_, b', o', cc', T', g', e, hm', hr⟩ := ha i (f y) (by rw [List.getElem?_map, hy]; rfl)
    cases e
    have := nodup_key hnd hm hm'
    injection this with e1 e2 e3
    have e4 : cc = cc' := List.toArray_inj e1
    rw [e4]; exact hr

end Go.Proofs.Ytpjodkcghiklcab
