/- Layer 9 in plain Lean, third part: the knots stay a forest. No condition. -/
import Derived.Test.YtdodfnjmkpgdbaaM09
set_option linter.unusedVariables false
set_option linter.unusedSimpArgs false
set_option linter.unusedSectionVars false
namespace Go.Proofs.Ytdodfnjmkpgdbaa
open Go.SL

theorem tok_new : TOk ⟨0, fun _ => (0, 0), fun _ => none, fun _ => [], []⟩ .nil where
  nd := List.nodup_nil
  lt := fun i h => by cases h
  par := trivial
  kids := trivial
  map := fun s i => by simp [tget, Fo.all]
  uniq := List.nodup_nil
  len := rfl
  ix := ⟨fun i j h => absurd h (Nat.not_lt_zero i), fun i j h => absurd h (Nat.not_lt_zero i), (fun e h => by cases h), fun i h => absurd h (Nat.not_lt_zero i)⟩
section
variable {T : TreeM} {F : (Fo Nat)} (h : TOk T F)
include h
theorem TOk.fresh : T.n ∉ F.all := fun e => absurd (h.lt _ e) (Nat.lt_irrefl _)
theorem TOk.kidsR {x : Nat} (hx : x ∈ F.all) : T.kids x = (Fo.sub x F).roots := (Fo.OkK.sub h.kids hx).1
theorem TOk.parO {x : Nat} (hx : x ∈ F.all) : T.par x = Fo.parO x F none := Fo.OkP.at h.par hx
theorem TOk.xk {s : SlotM} {x : Nat} (hx : tget s T.M = some x) : x ∉ T.kids x := by
  rw [h.kidsR (h.mem hx)]
  exact fun e => Fo.sub_self h.nd (Fo.roots_sub_all _ _ e)
theorem TOk.xj {s : SlotM} {x j : Nat} (hx : tget s T.M = some x) (hp : T.par x = some j) : x ∈ T.kids j ∧ j ∈ F.all := by
  rw [h.parO (h.mem hx)] at hp
  rcases Fo.parO_kid h.nd (h.mem hx) hp with ⟨e, _⟩ | ⟨e1, e2⟩
  · cases e
  · exact ⟨by rw [h.kidsR e1]; exact e2, e1⟩
theorem more_tget {s : SlotM} {p : Option Nat} {t : Nat} (hs : tget s T.M = none) (o : SlotM) : tget o (T.more s p t).M = if o = s then some T.n else tget o T.M := by
  show tget o (T.M ++ [(s, T.n, t)]) = _
  rw [tget_app]
  by_cases e : o = s
  · rw [if_pos e, e, hs]; simp [tget]
  · rw [if_neg e]
    have : tget o [(s, T.n, t)] = none := by simp [tget, e]
    rw [this]; cases tget o T.M <;> rfl
theorem more_map {s : SlotM} {p : Option Nat} {t : Nat} {F' : (Fo Nat)} (hs : tget s T.M = none) (hF : ∀ z, z ∈ F'.all ↔ z ∈ F.all ∨ z = T.n) (o : SlotM) (i : Nat) : tget o (T.more s p t).M = some i ↔ i ∈ F'.all ∧ (T.more s p t).sl i = o := by
  rw [more_tget h hs, hF]
  show _ ↔ _ ∧ fset T.sl T.n s i = o
  by_cases hi : i = T.n
  · subst hi
    rw [fset_same]
    constructor
    · intro e
      by_cases eo : o = s
      · exact ⟨.inr rfl, eo.symm⟩
      · rw [if_neg eo] at e; exact absurd (h.mem e) h.fresh
    · rintro ⟨_, rfl⟩; rw [if_pos rfl]
  · rw [fset_ne hi]
    constructor
    · intro e
      by_cases eo : o = s
      · rw [if_pos eo] at e; exact absurd (Option.some.inj e).symm hi
      · rw [if_neg eo] at e; exact ⟨.inl (h.mem e), h.sl e⟩
    · rintro ⟨hm, e⟩
      have hm' := hm.resolve_right hi
      have h1 := h.get hm'
      rw [e] at h1
      have : o ≠ s := fun eo => by rw [eo, hs] at h1; cases h1
      rw [if_neg this, h1]
theorem more_uniq {s : SlotM} {p : Option Nat} {t : Nat} (hs : tget s T.M = none) : ((T.more s p t).M.map Prod.fst).Nodup := by
  show ((T.M ++ [(s, T.n, t)]).map Prod.fst).Nodup
  rw [List.map_append]
  exact List.nodup_append.2 ⟨h.uniq, by simp, fun a ha b hb e => by simp at hb; subst hb; exact tget_none hs (e ▸ ha)⟩
theorem tok_root {s : SlotM} {t : Nat} (hs : tget s T.M = none) : TOk (T.more s none t) (F.app (.one T.n)) where
  nd := Fo.nd_app h.nd (Fo.nd_one _) fun z hz e => by simp [Fo.one, Fo.all] at e; exact h.fresh (e ▸ hz)
  lt := fun i hi => by
    rw [Fo.all_app] at hi; simp [Fo.one, Fo.all] at hi
    show i < T.n + 1
    rcases hi with hi | hi
    · have := h.lt i hi; omega
    · omega
  par := Fo.OkP.app (Fo.OkP.congr (fun z hz => (fset_ne (f := T.par) (i := T.n) (j := z) (a := none) (fun e => h.fresh (e ▸ hz))).symm) h.par) ⟨fset_same .., trivial, trivial⟩
  kids := Fo.OkK.app (Fo.OkK.congr (fun z hz => (fset_ne (f := T.kids) (i := T.n) (j := z) (a := []) (fun e => h.fresh (e ▸ hz))).symm) h.kids) ⟨fset_same .., trivial, trivial⟩
  map := more_map h hs (fun z => by rw [Fo.all_app]; simp [Fo.one, Fo.all])
  uniq := more_uniq h hs
  len := by
    show (T.M ++ [(s, T.n, t)]).length = _
    rw [Fo.all_app, List.length_append, List.length_append, h.len]; rfl
  ix := by
    refine ⟨fun i j hi hj => ?_, fun i j hi hj => ?_, fun e he => ?_, fun i hi => ?_⟩
    · change i < T.n + 1 at hi; change fset T.par T.n none i = some j at hj; show j < T.n + 1
      by_cases e : i = T.n
      · subst e; rw [fset_same] at hj; cases hj
      · rw [fset_ne e] at hj; have := h.ix.par i j (by omega) hj; omega
    · change i < T.n + 1 at hi; change j ∈ fset T.kids T.n [] i at hj; show j < T.n + 1
      by_cases e : i = T.n
      · subst e; rw [fset_same] at hj; cases hj
      · rw [fset_ne e] at hj; have := h.ix.kids i j (by omega) hj; omega
    · show e.2.1 < T.n + 1
      rcases List.mem_append.1 he with he | he
      · have := h.ix.map e he; omega
      · rw [List.mem_singleton] at he; subst he; exact Nat.lt_succ_self _
    · change i < T.n + 1 at hi; show (fset T.kids T.n [] i).length ≤ T.n + 1
      by_cases e : i = T.n
      · subst e; rw [fset_same]; exact Nat.zero_le _
      · rw [fset_ne e]; have := h.ix.small i (by omega); omega
theorem tok_child {s : SlotM} {t j : Nat} (hs : tget s T.M = none) (hj : j ∈ F.all) : TOk (T.more s (some j) t) (F.addc j T.n) where
  nd := Fo.nd_addc h.nd h.fresh
  lt := fun i hi => by
    rw [Fo.all_addc] at hi
    show i < T.n + 1
    rcases hi with hi | hi
    · have := h.lt i hi; omega
    · omega
  par := Fo.OkP.addc (fset_same ..) (Fo.OkP.congr (fun z hz => (fset_ne (f := T.par) (i := T.n) (j := z) (a := some j) (fun e => h.fresh (e ▸ hz))).symm) h.par)
  kids := by
    have hjn : j ≠ T.n := fun e => h.fresh (e ▸ hj)
    refine Fo.OkK.addc (k := T.kids) ?_ ?_ h.nd h.fresh (fun z hz hzj => ?_) h.kids
    · show fset (fset T.kids T.n []) j (T.kids j ++ [T.n]) j = _
      rw [fset_same]
    · show fset (fset T.kids T.n []) j (T.kids j ++ [T.n]) T.n = _
      rw [fset_ne (Ne.symm hjn), fset_same]
    · show fset (fset T.kids T.n []) j (T.kids j ++ [T.n]) z = _
      rw [fset_ne hzj, fset_ne (i := T.n) (j := z) (fun e => h.fresh (e ▸ hz))]
  map := more_map h hs (fun z => by rw [Fo.all_addc]; simp [hj])
  uniq := more_uniq h hs
  len := by
    show (T.M ++ [(s, T.n, t)]).length = _
    rw [Fo.addc_len h.nd hj, List.length_append, h.len]; rfl
  ix := by
    have hjn := h.lt j hj
    have hjne : j ≠ T.n := by omega
    refine ⟨fun i k hi hk => ?_, fun i k hi hk => ?_, fun e he => ?_, fun i hi => ?_⟩
    · change i < T.n + 1 at hi; change fset T.par T.n (some j) i = some k at hk; show k < T.n + 1
      by_cases e : i = T.n
      · subst e; rw [fset_same] at hk; cases hk; omega
      · rw [fset_ne e] at hk; have := h.ix.par i k (by omega) hk; omega
    · change i < T.n + 1 at hi; change k ∈ fset (fset T.kids T.n []) j (T.kids j ++ [T.n]) i at hk; show k < T.n + 1
      by_cases e2 : i = j
      · subst e2; rw [fset_same] at hk
        rcases List.mem_append.1 hk with hk | hk
        · have := h.ix.kids i k hjn hk; omega
        · rw [List.mem_singleton] at hk; omega
      · rw [fset_ne e2] at hk
        by_cases e : i = T.n
        · subst e; rw [fset_same] at hk; cases hk
        · rw [fset_ne e] at hk; have := h.ix.kids i k (by omega) hk; omega
    · show e.2.1 < T.n + 1
      rcases List.mem_append.1 he with he | he
      · have := h.ix.map e he; omega
      · rw [List.mem_singleton] at he; subst he; exact Nat.lt_succ_self _
    · change i < T.n + 1 at hi; show (fset (fset T.kids T.n []) j (T.kids j ++ [T.n]) i).length ≤ T.n + 1
      by_cases e2 : i = j
      · subst e2; rw [fset_same, List.length_append]; have := h.ix.small i hjn; simp; omega
      · rw [fset_ne e2]
        by_cases e : i = T.n
        · subst e; rw [fset_same]; exact Nat.zero_le _
        · rw [fset_ne e]; have := h.ix.small i (by omega); omega
theorem gone_parF {s : SlotM} {x : Nat} (hx : tget s T.M = some x) : Fo.OkP (T.gone s x).par (Fo.drop x F) none := by
  refine Fo.OkP.drop (k := T.par) h.nd (h.mem hx) (fun z hz hzx => ?_) h.par
  show (if z ∈ T.kids x then T.par x else T.par z) = _
  rw [h.kidsR (h.mem hx), h.parO (h.mem hx)]
theorem gone_kidsF {s : SlotM} {x : Nat} (hx : tget s T.M = some x) : Fo.OkK (T.gone s x).kids (Fo.drop x F) := by
  have hm := h.mem hx
  refine Fo.OkK.drop (k := T.kids) (p := none) h.nd (fun j hj => by cases hj) hm (fun z hz hzx => ?_) h.kids
  rw [← h.parO hm, ← h.kidsR hm]
  show (match T.par x with | none => T.kids | some j => fset T.kids j (Fo.repl x (T.kids x) (T.kids j))) z = _
  cases hp : T.par x with
  | none => simp
  | some j =>
    dsimp only
    by_cases e : z = j
    · subst e; rw [fset_same, if_pos rfl]
    · rw [fset_ne e, if_neg (fun e2 => e (Option.some.inj e2).symm)]
theorem tok_drop {s : SlotM} {x : Nat} (hx : tget s T.M = some x) : TOk (T.gone s x) (F.drop x) where
  nd := Fo.nd_drop h.nd
  lt := fun i hi => h.lt i ((Fo.all_drop h.nd).1 hi).1
  par := gone_parF h hx
  kids := gone_kidsF h hx
  map := fun o i => by
    show tget o (tdel s T.M) = some i ↔ i ∈ (F.drop x).all ∧ T.sl i = o
    rw [tget_del h.uniq, Fo.all_drop h.nd]
    by_cases e : o = s
    · rw [if_pos e]
      constructor
      · intro h2; cases h2
      · rintro ⟨⟨h1, h2⟩, h3⟩
        have := h.get h1
        rw [h3, e, hx] at this; exact absurd (Option.some.inj this).symm h2
    · rw [if_neg e, h.map]
      constructor
      · rintro ⟨h1, h2⟩
        refine ⟨⟨h1, fun e2 => e ?_⟩, h2⟩
        rw [← h2, e2, h.sl hx]
      · rintro ⟨⟨h1, _⟩, h2⟩; exact ⟨h1, h2⟩
  uniq := (tdel_sub.map Prod.fst).nodup h.uniq
  len := by
    have h1 := tdel_len hx
    have h2 := Fo.drop_len h.nd (h.mem hx)
    have h3 := h.len
    show (tdel s T.M).length = _
    omega
  ix := by
    have hxn := h.ix.get hx
    refine ⟨fun i j hi hj => ?_, fun i k hi hk => ?_, fun e he => h.ix.map e (tdel_sub.subset he), fun i hi => ?_⟩
    · change (if i ∈ T.kids x then T.par x else T.par i) = some j at hj
      split at hj
      · exact h.ix.par x j hxn hj
      · exact h.ix.par i j hi hj
    · change k ∈ (match T.par x with | none => T.kids | some j => fset T.kids j (Fo.repl x (T.kids x) (T.kids j))) i at hk
      cases hp : T.par x with
      | none => rw [hp] at hk; exact h.ix.kids i k hi hk
      | some j =>
        rw [hp] at hk
        dsimp only at hk
        by_cases e : i = j
        · subst e
          rw [fset_same] at hk
          obtain ⟨p, _, _, hr⟩ := repl_at (l := T.kids x) (h.xj hx hp).1
          rw [hr] at hk
          rcases List.mem_append.1 hk with hk | hk
          · rcases List.mem_append.1 hk with hk | hk
            · exact h.ix.kids i k hi (List.mem_of_mem_take hk)
            · exact h.ix.kids x k hxn hk
          · exact h.ix.kids i k hi (List.mem_of_mem_drop hk)
        · rw [fset_ne e] at hk; exact h.ix.kids i k hi hk
    · cases hp : T.par x with
      | none => simp only [TreeM.gone, hp]; exact h.ix.small i hi
      | some j =>
        by_cases e : i = j
        · subst e
          have hj := (h.xj hx hp).2
          have hne : i ≠ x := fun e => h.xk hx (e ▸ (h.xj hx hp).1)
          have hj2 : i ∈ (F.drop x).all := (Fo.all_drop h.nd).2 ⟨hj, hne⟩
          have := (Fo.OkK.sub (gone_kidsF h hx) hj2).1
          rw [this]
          have h1 := roots_len (Fo.sub i (F.drop x))
          have h2 := sub_len (F.drop x) i
          have h3 := (Fo.drop_sublist (x := x) F).length_le
          have h4 := h.all_len
          show _ ≤ T.n
          omega
        · simp only [TreeM.gone, hp]; rw [fset_ne e]; exact h.ix.small i hi
theorem moved_tget {o s : SlotM} {i t : Nat} (hs : tget s T.M = none) (q : SlotM) : tget q (T.moved o s i t).M = if q = s then some i else if q = o then none else tget q T.M := by
  show tget q (tdel o T.M ++ [(s, i, t)]) = _
  rw [tget_app, tget_del h.uniq]
  by_cases e : q = s
  · rw [if_pos e, e, hs, ite_self]; simp [tget]
  · rw [if_neg e]
    have : tget q [(s, i, t)] = none := by simp [tget, e]
    rw [this]
    split
    · rfl
    · cases tget q T.M <;> rfl
theorem tok_move {o s : SlotM} {i t : Nat} (ho : tget o T.M = some i) (hs : tget s T.M = none) : TOk (T.moved o s i t) F where
  nd := h.nd
  lt := h.lt
  par := h.par
  kids := h.kids
  map := fun q k => by
    rw [moved_tget h hs]
    show _ ↔ k ∈ F.all ∧ fset T.sl i s k = q
    by_cases e : k = i
    · subst e
      rw [fset_same]
      constructor
      · intro h2
        refine ⟨h.mem ho, ?_⟩
        by_cases eq : q = s
        · exact eq.symm
        · rw [if_neg eq] at h2
          split at h2
          · cases h2
          · rename_i hq
            exact absurd ((h.sl h2).symm.trans (h.sl ho)) hq
      · rintro ⟨_, rfl⟩; rw [if_pos rfl]
    · rw [fset_ne e]
      constructor
      · intro h2
        by_cases eq : q = s
        · rw [if_pos eq] at h2; exact absurd (Option.some.inj h2).symm e
        · rw [if_neg eq] at h2
          split at h2
          · cases h2
          · exact ⟨h.mem h2, h.sl h2⟩
      · rintro ⟨h1, h2⟩
        have h3 := h.get h1
        rw [h2] at h3
        have e1 : q ≠ s := fun eq => by rw [eq, hs] at h3; cases h3
        have e2 : q ≠ o := fun eq => by rw [eq, ho] at h3; exact e (Option.some.inj h3).symm
        rw [if_neg e1, if_neg e2, h3]
  uniq := by
    show ((tdel o T.M ++ [(s, i, t)]).map Prod.fst).Nodup
    rw [List.map_append]
    refine List.nodup_append.2 ⟨(tdel_sub.map Prod.fst).nodup h.uniq, by simp, fun a ha b hb e => ?_⟩
    simp at hb; subst hb
    exact tget_none hs (e ▸ (tdel_sub.map Prod.fst).subset ha)
  len := by
    have h1 := tdel_len ho
    have h3 := h.len
    show (tdel o T.M ++ [(s, i, t)]).length = _
    rw [List.length_append]; simp; omega
  ix := ⟨h.ix.par, h.ix.kids, fun e he => by
    rcases List.mem_append.1 he with he | he
    · exact h.ix.map e (tdel_sub.subset he)
    · rw [List.mem_singleton] at he; subst he; exact h.ix.get ho, h.ix.small⟩
end
end Go.Proofs.Ytdodfnjmkpgdbaa
