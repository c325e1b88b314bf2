/- Layer 9 in plain Lean, fifth part: a tree as a forest of slots; what its acts answer and leave. No condition. -/
import Derived.Test.YtdodfnjmkpgdbaaM09t
set_option linter.unusedVariables false
set_option linter.unusedSimpArgs false
set_option linter.unusedSectionVars false
namespace Go.Proofs.Ytdodfnjmkpgdbaa
open Go.SL
namespace Fo
section
variable {α β : Type}
def map (g : α → β) : Fo α → Fo β
  | .nil => .nil
  | .cons i c r => .cons (g i) (map g c) (map g r)
theorem all_map (g : α → β) : ∀ f : Fo α, all (map g f) = (all f).map g
  | .nil => rfl
  | .cons i c r => by simp [map, all, all_map g c, all_map g r]
theorem roots_map (g : α → β) : ∀ f : Fo α, roots (map g f) = (roots f).map g
  | .nil => rfl
  | .cons i c r => by simp [map, roots, roots_map g r]
theorem map_app (g : α → β) : ∀ a b : Fo α, map g (app a b) = app (map g a) (map g b)
  | .nil, _ => rfl
  | .cons i c r, b => by simp [map, app, map_app g r b]
theorem map_congr {g h : α → β} : ∀ {f : Fo α}, (∀ z, z ∈ all f → g z = h z) → map g f = map h f
  | .nil, _ => rfl
  | .cons i c r, e => by
    simp only [map]
    rw [e i (by simp [all]), map_congr (f := c) (fun z hz => e z (by simp [all, hz])), map_congr (f := r) (fun z hz => e z (by simp [all, hz]))]
theorem map_map {γ : Type} (g : α → β) (h : β → γ) : ∀ f : Fo α, map h (map g f) = map (fun x => h (g x)) f
  | .nil => rfl
  | .cons i c r => by simp [map, map_map g h c, map_map g h r]
theorem flat_mapG (g : α → β) : ∀ (f : Fo α) (d : Nat), flat (map g f) d = (flat f d).map (fun e => (g e.1, e.2))
  | .nil, _ => rfl
  | .cons i c r, d => by simp [map, flat, flat_mapG g c, flat_mapG g r]
end
section
variable {α β : Type} [DecidableEq α] [DecidableEq β]
/-- g tells x from all others of f. -/
def Inj1 (g : α → β) (x : α) (f : Fo α) : Prop := ∀ z, z ∈ all f → g z = g x → z = x
theorem inj_c {g : α → β} {x i : α} {c r : Fo α} (h : Inj1 g x (.cons i c r)) : Inj1 g x c := fun z hz => h z (by simp [all, hz])
theorem inj_r {g : α → β} {x i : α} {c r : Fo α} (h : Inj1 g x (.cons i c r)) : Inj1 g x r := fun z hz => h z (by simp [all, hz])
theorem inj_i {g : α → β} {x i : α} {c r : Fo α} (h : Inj1 g x (.cons i c r)) : g i = g x ↔ i = x := ⟨h i (by simp [all]), fun e => by rw [e]⟩
theorem inj_mem {g : α → β} {x : α} {f : Fo α} (h : Inj1 g x f) : g x ∈ all (map g f) ↔ x ∈ all f := by
  rw [all_map, List.mem_map]
  exact ⟨fun ⟨z, hz, e⟩ => h z hz e ▸ hz, fun hx => ⟨x, hx, rfl⟩⟩
theorem sub_map {g : α → β} {x : α} : ∀ {f : Fo α}, Inj1 g x f → sub (g x) (map g f) = map g (sub x f)
  | .nil, _ => rfl
  | .cons i c r, h => by
    simp only [map, sub, inj_i h, inj_mem (inj_c h), sub_map (inj_c h), sub_map (inj_r h)]
    split
    · rfl
    · split <;> rfl
theorem parO_map {g : α → β} {x : α} : ∀ {f : Fo α} {p : Option α}, Inj1 g x f → parO (g x) (map g f) (p.map g) = (parO x f p).map g
  | .nil, _, _ => rfl
  | .cons i c r, p, h => by
    have h1 := parO_map (p := some i) (inj_c h)
    have h2 := parO_map (p := p) (inj_r h)
    simp only [Option.map_some] at h1
    simp only [map, parO, inj_i h, inj_mem (inj_c h), h1, h2]
    split
    · rfl
    · split <;> rfl
theorem drop_map {g : α → β} {x : α} : ∀ {f : Fo α}, Inj1 g x f → drop (g x) (map g f) = map g (drop x f)
  | .nil, _ => rfl
  | .cons i c r, h => by
    simp only [map, drop, inj_i h, drop_map (inj_c h), drop_map (inj_r h)]
    split
    · rw [map_app]
    · rfl
theorem addc_map {g : α → β} {x y : α} : ∀ {f : Fo α}, Inj1 g x f → addc (g x) (g y) (map g f) = map g (addc x y f)
  | .nil, _ => rfl
  | .cons i c r, h => by
    simp only [map, addc, inj_i h, addc_map (inj_c h), addc_map (inj_r h)]
    split
    · simp [map, map_app]
    · rfl
omit [DecidableEq α] [DecidableEq β] in
theorem nodup_map_on {g : α → β} : ∀ {l : List α}, l.Nodup → (∀ a b, a ∈ l → b ∈ l → g a = g b → a = b) → (l.map g).Nodup
  | [], _, _ => List.nodup_nil
  | a :: l, h, hi => by
    rw [List.nodup_cons] at h
    rw [List.map_cons, List.nodup_cons]
    refine ⟨fun hm => ?_, nodup_map_on h.2 fun x y hx hy => hi x y (List.mem_cons_of_mem _ hx) (List.mem_cons_of_mem _ hy)⟩
    obtain ⟨z, hz, e⟩ := List.mem_map.1 hm
    exact h.1 (hi z a (List.mem_cons_of_mem _ hz) (List.mem_cons_self ..) e ▸ hz)
theorem nd_map {g : α → β} {f : Fo α} (h : Nd f) (hi : ∀ a b, a ∈ all f → b ∈ all f → g a = g b → a = b) : Nd (map g f) := by
  unfold Nd at *
  rw [all_map]
  exact nodup_map_on h hi
end
end Fo

/-! ### The tree of slots: what is answered, and left -/
abbrev FoS := Fo SlotM
def ftRoot (F : FoS) (s : SlotM) : Int × FoS := if s ∈ F.all then (4, F) else (0, F.app (.one s))
def ftChild (F : FoS) (o s : SlotM) : Int × FoS := if o ∈ F.all then (if s ∈ F.all then (4, F) else (0, F.addc o s)) else (3, F)
def ftDrop (F : FoS) (s : SlotM) : Int × FoS := if s ∈ F.all then (0, F.drop s) else (3, F)
def ren (o s : SlotM) (z : SlotM) : SlotM := if z = o then s else z
def ftMove (F : FoS) (o s : SlotM) : Int × FoS := if o ∈ F.all then (if s ∈ F.all then (4, F) else (0, F.map (ren o s))) else (3, F)
def ftPar (F : FoS) (s : SlotM) : SlotM := (F.parO s none).getD (0, 0)
def ftParB (F : FoS) (s : SlotM) : Bool := (F.parO s none).isSome
def ftKids (F : FoS) (s : SlotM) : List SlotM := (F.sub s).roots
def ftKin (F : FoS) (s : SlotM) : List SlotM := (F.sub s).all

/-- The program's tree at tb is the forest F; at most n knots were ever made. -/
def TrF (n : Nat) (F : FoS) (tb : Nat) (L : Hp) : Prop := ∃ T G, TOk T G ∧ TrH T tb L ∧ T.n ≤ n ∧ F = G.map T.sl
section
variable {T : TreeM} {G : Fo Nat} (h : TOk T G)
include h
theorem TOk.inj1 {x : Nat} (hx : x ∈ G.all) : Fo.Inj1 T.sl x G := fun z hz e => h.inj hz hx e
theorem TOk.in_all {s : SlotM} : s ∈ (G.map T.sl).all ↔ ∃ i, tget s T.M = some i := by
  rw [Fo.all_map, List.mem_map]
  constructor
  · rintro ⟨i, hi, rfl⟩; exact ⟨i, h.get hi⟩
  · rintro ⟨i, hi⟩; exact ⟨i, h.mem hi, h.sl hi⟩
theorem TOk.out_all {s : SlotM} : tget s T.M = none ↔ s ∉ (G.map T.sl).all := by
  rw [h.in_all]; cases tget s T.M <;> simp
theorem TOk.ndS : Fo.Nd (G.map T.sl) := Fo.nd_map h.nd fun a b ha hb e => h.inj ha hb e
theorem TOk.isS (s : SlotM) : (tget s T.M).isSome = decide (s ∈ (G.map T.sl).all) := by
  cases e : tget s T.M with
  | none => simp [h.out_all.1 e]
  | some i => simp [h.in_all.2 ⟨i, e⟩]
theorem TOk.lenS : T.M.length = (G.map T.sl).all.length := by rw [Fo.all_map, List.length_map, h.len]
theorem TOk.parE {s : SlotM} : ((tget s T.M).bind T.par).map T.sl = (G.map T.sl).parO s none := by
  cases e : tget s T.M with
  | none => rw [Fo.parO_no _ _ _ (h.out_all.1 e)]; rfl
  | some i =>
    have := Fo.parO_map (g := T.sl) (p := none) (h.inj1 (h.mem e))
    rw [h.sl e] at this
    show (T.par i).map T.sl = _
    rw [h.parO (h.mem e), ← this]; rfl
theorem TOk.parS (s : SlotM) : tparS T s = ftPar (G.map T.sl) s := by
  unfold tparS ftPar
  rw [← h.parE]
  cases (tget s T.M).bind T.par <;> rfl
theorem TOk.parB (s : SlotM) : tparB T s = ftParB (G.map T.sl) s := by
  unfold tparB ftParB
  rw [← h.parE, Option.isSome_map]
theorem TOk.kidsS (s : SlotM) : tkids T s = ftKids (G.map T.sl) s := by
  unfold tkids ftKids
  cases e : tget s T.M with
  | none => rw [Fo.sub_no _ _ (h.out_all.1 e)]; rfl
  | some i =>
    have := Fo.sub_map (g := T.sl) (h.inj1 (h.mem e))
    rw [h.sl e] at this
    rw [this, Fo.roots_map]
    show List.map T.sl (T.kids i) = _
    rw [h.kidsR (h.mem e)]
theorem TOk.kinS (s : SlotM) : tkin T G s = ftKin (G.map T.sl) s := by
  unfold tkin ftKin
  cases e : tget s T.M with
  | none => rw [Fo.sub_no _ _ (h.out_all.1 e)]; rfl
  | some i =>
    have := Fo.sub_map (g := T.sl) (h.inj1 (h.mem e))
    rw [h.sl e] at this
    rw [this, Fo.all_map]
theorem more_mapS {s : SlotM} {p : Option Nat} {t : Nat} : G.map (T.more s p t).sl = G.map T.sl := Fo.map_congr fun z hz => fset_ne fun e => h.fresh (e ▸ hz)
theorem more_rootS {s : SlotM} {t : Nat} : (G.app (.one T.n)).map (T.more s none t).sl = (G.map T.sl).app (.one s) := by
  rw [Fo.map_app, more_mapS h]
  have : (T.more s none t).sl T.n = s := fset_same ..
  simp [Fo.one, Fo.map, this]
theorem more_childS {o s : SlotM} {j t : Nat} (hj : tget o T.M = some j) : (G.addc j T.n).map (T.more s (some j) t).sl = (G.map T.sl).addc o s := by
  have e1 : (T.more s (some j) t).sl T.n = s := fset_same ..
  have hjn : j ≠ T.n := fun e => h.fresh (e ▸ h.mem hj)
  have e2 : (T.more s (some j) t).sl j = o := (fset_ne (f := T.sl) (a := s) hjn).trans (h.sl hj)
  have hi : Fo.Inj1 (T.more s (some j) t).sl j G := fun z hz e => by
    have h1 : (T.more s (some j) t).sl z = T.sl z := fset_ne fun e => h.fresh (e ▸ hz)
    rw [h1, e2, ← h.sl hj] at e
    exact h.inj hz (h.mem hj) e
  have := Fo.addc_map (g := (T.more s (some j) t).sl) (y := T.n) hi
  rw [← this, e1, e2, more_mapS h]
theorem gone_S {s : SlotM} {i : Nat} (hi : tget s T.M = some i) : (G.drop i).map (T.gone s i).sl = (G.map T.sl).drop s := by
  have := Fo.drop_map (g := T.sl) (h.inj1 (h.mem hi))
  rw [h.sl hi] at this
  exact this.symm
theorem moved_S {o s : SlotM} {i t : Nat} (hi : tget o T.M = some i) : G.map (T.moved o s i t).sl = (G.map T.sl).map (ren o s) := by
  rw [Fo.map_map]
  refine Fo.map_congr fun z hz => ?_
  show fset T.sl i s z = _
  unfold ren
  by_cases e : z = i
  · subst e; rw [fset_same, if_pos (h.sl hi)]
  · rw [fset_ne e, if_neg]
    intro e2; exact e (h.inj hz (h.mem hi) (e2.trans (h.sl hi).symm))
end
theorem ft_child {F : FoS} {o s : SlotM} : ftChild F o s = if o ∈ F.all then (if s ∈ F.all then (4, F) else (0, F.addc o s)) else (3, F) := rfl
/-- What is kept: the slots are different ones. -/
theorem ftRoot_nd {F : FoS} {s : SlotM} (h : Fo.Nd F) : Fo.Nd (ftRoot F s).2 := by
  unfold ftRoot; split
  · exact h
  · rename_i hs; exact Fo.nd_app h (Fo.nd_one _) fun z hz e => by simp [Fo.one, Fo.all] at e; exact hs (e ▸ hz)
theorem ftChild_nd {F : FoS} {o s : SlotM} (h : Fo.Nd F) : Fo.Nd (ftChild F o s).2 := by
  unfold ftChild; split
  · split
    · exact h
    · exact Fo.nd_addc h (by assumption)
  · exact h
theorem ftDrop_nd {F : FoS} {s : SlotM} (h : Fo.Nd F) : Fo.Nd (ftDrop F s).2 := by
  unfold ftDrop; split
  · exact Fo.nd_drop h
  · exact h
theorem ren_inj {o s : SlotM} {F : FoS} (hs : s ∉ F.all) : ∀ a b, a ∈ F.all → b ∈ F.all → ren o s a = ren o s b → a = b := by
  intro a b ha hb e
  unfold ren at e
  by_cases h1 : a = o <;> by_cases h2 : b = o
  · rw [h1, h2]
  · rw [if_pos h1, if_neg h2] at e; exact absurd (e ▸ hb) hs
  · rw [if_neg h1, if_pos h2] at e; exact absurd (e ▸ ha) hs
  · rw [if_neg h1, if_neg h2] at e; exact e
theorem ftMove_nd {F : FoS} {o s : SlotM} (h : Fo.Nd F) : Fo.Nd (ftMove F o s).2 := by
  unfold ftMove; split
  · split
    · exact h
    · exact Fo.nd_map h (ren_inj (by assumption))
  · exact h
theorem ftRoot_len {F : FoS} {s : SlotM} : (ftRoot F s).2.all.length ≤ F.all.length + 1 := by
  unfold ftRoot; split
  · exact Nat.le_succ _
  · simp [Fo.all_app, Fo.one, Fo.all]
theorem ftChild_len {F : FoS} {o s : SlotM} (h : Fo.Nd F) : (ftChild F o s).2.all.length ≤ F.all.length + 1 := by
  unfold ftChild; split
  · split
    · exact Nat.le_succ _
    · exact Nat.le_of_eq (Fo.addc_len h (by assumption))
  · exact Nat.le_succ _
theorem ftDrop_len {F : FoS} {s : SlotM} : (ftDrop F s).2.all.length ≤ F.all.length := by
  unfold ftDrop; split
  · exact (Fo.drop_sublist F).length_le
  · exact Nat.le_refl _
theorem ftMove_len {F : FoS} {o s : SlotM} : (ftMove F o s).2.all.length = F.all.length := by
  unfold ftMove; split
  · split
    · rfl
    · simp [Fo.all_map]
  · rfl
end Go.Proofs.Ytdodfnjmkpgdbaa
