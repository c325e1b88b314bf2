/- Forests in plain Lean: knots, what comes of what, and the row in which each knot stands ahead of its kin. No condition. -/
import Derived.Test.YtdodfnjmkpgdbaaSY
set_option linter.unusedVariables false
set_option linter.unusedSimpArgs false
set_option linter.unusedSectionVars false
namespace Go.Proofs.Ytdodfnjmkpgdbaa
/-- A forest: a knot, what comes of it, and the others. -/
inductive Fo (α : Type) where
  | nil : Fo α
  | cons (i : α) (c r : Fo α) : Fo α
namespace Fo
section
variable {α : Type}
def app : (Fo α) → (Fo α) → (Fo α)
  | .nil, g => g
  | .cons i c r, g => .cons i c (app r g)
/-- All knots with how deep they stand, each ahead of its kin. -/
def flat : (Fo α) → Nat → List (α × Nat)
  | .nil, _ => []
  | .cons i c r, d => (i, d) :: (flat c (d + 1) ++ flat r d)
def all : (Fo α) → List α
  | .nil => []
  | .cons i c r => i :: (all c ++ all r)
def roots : (Fo α) → List α
  | .nil => []
  | .cons i _ r => i :: roots r
def OkK (kids : α → List α) : (Fo α) → Prop
  | .nil => True
  | .cons i c r => kids i = roots c ∧ OkK kids c ∧ OkK kids r
def OkP (par : α → Option α) : (Fo α) → Option α → Prop
  | .nil, _ => True
  | .cons i c r, p => par i = p ∧ OkP par c (some i) ∧ OkP par r p
def one (y : α) : (Fo α) := .cons y .nil .nil
end
variable {α : Type} [DecidableEq α]
/-- What comes of x. -/
def sub (x : α) : (Fo α) → (Fo α)
  | .nil => .nil
  | .cons i c r => if i = x then c else if x ∈ all c then sub x c else sub x r
/-- What x comes of. -/
def parO (x : α) : (Fo α) → Option α → Option α
  | .nil, _ => none
  | .cons i c r, p => if i = x then p else if x ∈ all c then parO x c (some i) else parO x r p
def drop (x : α) : (Fo α) → (Fo α)
  | .nil => .nil
  | .cons i c r => if i = x then app c r else .cons i (drop x c) (drop x r)
def addc (x y : α) : (Fo α) → (Fo α)
  | .nil => .nil
  | .cons i c r => if i = x then .cons i (app c (.cons y .nil .nil)) r else .cons i (addc x y c) (addc x y r)
/-- How deep x stands. -/
def dep (x : α) : (Fo α) → Nat
  | .nil => 0
  | .cons i c r => if i = x then 0 else if x ∈ all c then dep x c + 1 else dep x r
theorem all_app : ∀ f g : (Fo α), all (app f g) = all f ++ all g
  | .nil, g => rfl
  | .cons i c r, g => by simp [app, all, all_app r g]
theorem roots_app : ∀ f g : (Fo α), roots (app f g) = roots f ++ roots g
  | .nil, g => rfl
  | .cons i c r, g => by simp [app, roots, roots_app r g]
theorem flat_app (d : Nat) : ∀ f g : (Fo α), flat (app f g) d = flat f d ++ flat g d
  | .nil, g => rfl
  | .cons i c r, g => by simp [app, flat, flat_app d r g]
theorem flat_fst : ∀ (f : (Fo α)) (d : Nat), (flat f d).map Prod.fst = all f
  | .nil, _ => rfl
  | .cons i c r, d => by simp [flat, all, flat_fst c, flat_fst r]
theorem flat_len (f : (Fo α)) (d : Nat) : (flat f d).length = (all f).length := by rw [← flat_fst f d, List.length_map]
theorem flat_ge : ∀ (f : (Fo α)) (d : Nat) (e : α × Nat), e ∈ flat f d → d ≤ e.2
  | .nil, _, _, h => by cases h
  | .cons i c r, d, e, h => by
    simp only [flat, List.mem_cons, List.mem_append] at h
    rcases h with rfl | h | h
    · exact Nat.le_refl _
    · have := flat_ge c (d + 1) e h; omega
    · exact flat_ge r d e h
theorem flat_eq : ∀ (f : (Fo α)) (d : Nat), ((flat f d).filter fun e => decide (e.2 = d)).map Prod.fst = roots f
  | .nil, _ => rfl
  | .cons i c r, d => by
    have h1 : (flat c (d + 1)).filter (fun e => decide (e.2 = d)) = [] := by
      rw [List.filter_eq_nil_iff]
      intro e he
      have := flat_ge c (d + 1) e he
      simp; omega
    simp [flat, roots, h1, flat_eq r d]
theorem flat_shift : ∀ (f : (Fo α)) (d : Nat), (flat f (d + 1)).map (fun e => (e.1, e.2 - 1)) = flat f d
  | .nil, _ => rfl
  | .cons i c r, d => by simp [flat, flat_shift c (d + 1), flat_shift r d]
theorem roots_sub_all : ∀ (f : (Fo α)) (x : α), x ∈ roots f → x ∈ all f
  | .nil, _, h => by cases h
  | .cons i c r, x, h => by
    simp only [roots, List.mem_cons, all, List.mem_append] at h ⊢
    rcases h with h | h
    · exact .inl h
    · exact .inr (.inr (roots_sub_all r x h))
theorem sub_all : ∀ (f : (Fo α)) (x z : α), z ∈ all (sub x f) → z ∈ all f
  | .nil, _, _, h => h
  | .cons i c r, x, z, h => by
    simp only [sub] at h
    simp only [all, List.mem_cons, List.mem_append]
    split at h
    · exact .inr (.inl h)
    · split at h
      · exact .inr (.inl (sub_all c x z h))
      · exact .inr (.inr (sub_all r x z h))
theorem sub_no : ∀ (f : (Fo α)) (x : α), x ∉ all f → sub x f = .nil
  | .nil, _, _ => rfl
  | .cons i c r, x, h => by
    simp only [all, List.mem_cons, List.mem_append, not_or] at h
    simp only [sub]
    rw [if_neg (Ne.symm h.1), if_neg h.2.1, sub_no r x h.2.2]
theorem parO_no : ∀ (f : (Fo α)) (x : α) (p : Option α), x ∉ all f → parO x f p = none
  | .nil, _, _, _ => rfl
  | .cons i c r, x, p, h => by
    simp only [all, List.mem_cons, List.mem_append, not_or] at h
    simp only [parO]
    rw [if_neg (Ne.symm h.1), if_neg h.2.1, parO_no r x p h.2.2]
theorem drop_no : ∀ (f : (Fo α)) (x : α), x ∉ all f → drop x f = f
  | .nil, _, _ => rfl
  | .cons i c r, x, h => by
    simp only [all, List.mem_cons, List.mem_append, not_or] at h
    simp only [drop]
    rw [if_neg (Ne.symm h.1), drop_no c x h.2.1, drop_no r x h.2.2]
theorem addc_no (y : α) : ∀ (f : (Fo α)) (x : α), x ∉ all f → addc x y f = f
  | .nil, _, _ => rfl
  | .cons i c r, x, h => by
    simp only [all, List.mem_cons, List.mem_append, not_or] at h
    simp only [addc]
    rw [if_neg (Ne.symm h.1), addc_no y c x h.2.1, addc_no y r x h.2.2]

/-- The knots are different ones. -/
def Nd {α : Type} (f : (Fo α)) : Prop := (all f).Nodup
theorem nd_cons {i : α} {c r : (Fo α)} (h : Nd (.cons i c r)) : i ∉ all c ∧ i ∉ all r ∧ Nd c ∧ Nd r ∧ ∀ z, z ∈ all c → z ∉ all r := by
  unfold Nd at h
  simp only [all, List.nodup_cons, List.mem_append, not_or, List.nodup_append] at h
  exact ⟨h.1.1, h.1.2, h.2.1, h.2.2.1, fun z h1 h2 => h.2.2.2 z h1 z h2 rfl⟩

/-! ### What is told of a knot -/
theorem OkK.sub {kids : α → List α} : ∀ {f : (Fo α)} {x : α}, OkK kids f → x ∈ all f → kids x = roots (sub x f) ∧ OkK kids (sub x f)
  | .nil, _, _, h => by cases h
  | .cons i c r, x, ⟨h1, h2, h3⟩, h => by
    simp only [all, List.mem_cons, List.mem_append] at h
    simp only [Fo.sub]
    by_cases e : i = x
    · rw [if_pos e]; exact ⟨e ▸ h1, h2⟩
    · rw [if_neg e]
      by_cases e2 : x ∈ all c
      · rw [if_pos e2]; exact OkK.sub h2 e2
      · rw [if_neg e2]
        exact OkK.sub h3 (by rcases h with h | h | h; exact absurd h.symm e; exact absurd h e2; exact h)
theorem OkP.at {par : α → Option α} : ∀ {f : (Fo α)} {p : Option α} {x : α}, OkP par f p → x ∈ all f → par x = parO x f p
  | .nil, _, _, _, h => by cases h
  | .cons i c r, p, x, ⟨h1, h2, h3⟩, h => by
    simp only [all, List.mem_cons, List.mem_append] at h
    simp only [parO]
    by_cases e : i = x
    · rw [if_pos e]; exact e ▸ h1
    · rw [if_neg e]
      by_cases e2 : x ∈ all c
      · rw [if_pos e2]; exact OkP.at h2 e2
      · rw [if_neg e2]
        exact OkP.at h3 (by rcases h with h | h | h; exact absurd h.symm e; exact absurd h e2; exact h)
theorem OkK.congr {k k' : α → List α} : ∀ {f : (Fo α)}, (∀ z, z ∈ all f → k z = k' z) → OkK k f → OkK k' f
  | .nil, _, _ => trivial
  | .cons i c r, h, ⟨h1, h2, h3⟩ => ⟨by rw [← h i (by simp [all])]; exact h1, OkK.congr (fun z hz => h z (by simp [all, hz])) h2, OkK.congr (fun z hz => h z (by simp [all, hz])) h3⟩
theorem OkP.congr {k k' : α → Option α} : ∀ {f : (Fo α)} {p : Option α}, (∀ z, z ∈ all f → k z = k' z) → OkP k f p → OkP k' f p
  | .nil, _, _, _ => trivial
  | .cons i c r, p, h, ⟨h1, h2, h3⟩ => ⟨by rw [← h i (by simp [all])]; exact h1, OkP.congr (fun z hz => h z (by simp [all, hz])) h2, OkP.congr (fun z hz => h z (by simp [all, hz])) h3⟩
theorem OkK.app {k : α → List α} : ∀ {f g : (Fo α)}, OkK k f → OkK k g → OkK k (Fo.app f g)
  | .nil, _, _, h => h
  | .cons i c r, g, ⟨h1, h2, h3⟩, h => ⟨h1, h2, OkK.app h3 h⟩
theorem OkP.app {k : α → Option α} : ∀ {f g : (Fo α)} {p : Option α}, OkP k f p → OkP k g p → OkP k (Fo.app f g) p
  | .nil, _, _, _, h => h
  | .cons i c r, g, p, ⟨h1, h2, h3⟩, h => ⟨h1, h2, OkP.app h3 h⟩

/-! ### A knot that comes -/
theorem roots_addc {x y : α} : ∀ f : (Fo α), roots (addc x y f) = roots f
  | .nil => rfl
  | .cons i c r => by
    simp only [addc]
    split
    · rfl
    · simp [roots, roots_addc r]
theorem OkK.addc {k k' : α → List α} {x y : α} (hx : k' x = k x ++ [y]) (hy : k' y = []) : ∀ {f : (Fo α)}, Nd f → y ∉ all f → (∀ z, z ∈ all f → z ≠ x → k' z = k z) → OkK k f → OkK k' (Fo.addc x y f)
  | .nil, _, _, _, _ => trivial
  | .cons i c r, hn, hyf, h, ⟨h1, h2, h3⟩ => by
    obtain ⟨n1, n2, n3, n4, n5⟩ := nd_cons hn
    simp only [all, List.mem_cons, List.mem_append, not_or] at hyf
    simp only [Fo.addc]
    by_cases e : i = x
    · rw [if_pos e]
      subst e
      refine ⟨by rw [hx, h1, roots_app]; rfl, OkK.app (OkK.congr (fun z hz => (h z (by simp [all, hz]) (fun e => n1 (e ▸ hz))).symm) h2) ⟨hy, trivial, trivial⟩, OkK.congr (fun z hz => (h z (by simp [all, hz]) (fun e => n2 (e ▸ hz))).symm) h3⟩
    · rw [if_neg e]
      refine ⟨by rw [roots_addc, h i (by simp [all]) e, h1], OkK.addc hx hy n3 hyf.2.1 (fun z hz => h z (by simp [all, hz])) h2, OkK.addc hx hy n4 hyf.2.2 (fun z hz => h z (by simp [all, hz])) h3⟩
theorem OkP.addc {k : α → Option α} {x y : α} (hy : k y = some x) : ∀ {f : (Fo α)} {p : Option α}, OkP k f p → OkP k (Fo.addc x y f) p
  | .nil, _, _ => trivial
  | .cons i c r, p, ⟨h1, h2, h3⟩ => by
    simp only [Fo.addc]
    by_cases e : i = x
    · rw [if_pos e]
      exact ⟨h1, OkP.app h2 ⟨by rw [hy, e], trivial, trivial⟩, h3⟩
    · rw [if_neg e]
      exact ⟨h1, OkP.addc hy h2, OkP.addc hy h3⟩

/-! ### A knot that goes -/
/-- The list with l in x's place. -/
def repl (x : α) (l : List α) : List α → List α
  | [] => []
  | a :: m => if a = x then l ++ m else a :: repl x l m
theorem repl_no {x : α} {l : List α} : ∀ {m : List α}, x ∉ m → repl x l m = m
  | [], _ => rfl
  | a :: m, h => by
    simp only [List.mem_cons, not_or] at h
    simp only [repl]; rw [if_neg (Ne.symm h.1), repl_no h.2]
theorem roots_drop {x : α} : ∀ {f : (Fo α)}, Nd f → roots (drop x f) = repl x (roots (sub x f)) (roots f)
  | .nil, _ => rfl
  | .cons i c r, hn => by
    obtain ⟨n1, n2, n3, n4, n5⟩ := nd_cons hn
    simp only [drop, sub, roots, repl]
    by_cases e : i = x
    · rw [if_pos e, if_pos e, if_pos e, roots_app]
    · rw [if_neg e, if_neg e, if_neg e]
      by_cases e2 : x ∈ all c
      · have h3 := n5 x e2
        rw [roots, drop_no r x h3, repl_no (fun hx => h3 (roots_sub_all r x hx))]
      · rw [if_neg e2, roots, roots_drop n4]
theorem parO_root : ∀ {f : (Fo α)} {x : α} {p : Option α}, Nd f → x ∈ roots f → parO x f p = p
  | .nil, _, _, _, h => by cases h
  | .cons i c r, x, p, hn, h => by
    obtain ⟨n1, n2, n3, n4, n5⟩ := nd_cons hn
    simp only [parO]
    by_cases e : i = x
    · rw [if_pos e]
    · rw [if_neg e]
      have hr : x ∈ roots r := by
        simp only [roots, List.mem_cons] at h
        rcases h with h | h
        · exact absurd h.symm e
        · exact h
      rw [if_neg (fun h2 => n5 x h2 (roots_sub_all r x hr)), parO_root n4 hr]
theorem parO_in : ∀ {f : (Fo α)} {x : α} {p : Option α}, Nd f → x ∈ all f → x ∉ roots f → ∃ j, parO x f p = some j ∧ j ∈ all f
  | .nil, _, _, _, h, _ => by cases h
  | .cons i c r, x, p, hn, h, hr => by
    obtain ⟨n1, n2, n3, n4, n5⟩ := nd_cons hn
    simp only [all, List.mem_cons, List.mem_append] at h
    simp only [roots, List.mem_cons, not_or] at hr
    simp only [parO]
    rw [if_neg (Ne.symm hr.1)]
    by_cases e2 : x ∈ all c
    · rw [if_pos e2]
      by_cases e3 : x ∈ roots c
      · exact ⟨i, parO_root n3 e3, by simp [all]⟩
      · obtain ⟨j, h1, h2⟩ := parO_in (p := some i) n3 e2 e3
        exact ⟨j, h1, by simp [all, h2]⟩
    · rw [if_neg e2]
      obtain ⟨j, h1, h2⟩ := parO_in (f := r) (p := p) n4 (by rcases h with h | h | h; exact absurd h hr.1; exact absurd h e2; exact h) hr.2
      exact ⟨j, h1, by simp [all, h2]⟩
theorem parO_mem {f : (Fo α)} {x : α} {p : Option α} {j : α} (hn : Nd f) (hx : x ∈ all f) (h : parO x f p = some j) : p = some j ∨ j ∈ all f := by
  by_cases hr : x ∈ roots f
  · rw [parO_root hn hr] at h; exact .inl h
  · obtain ⟨k, h1, h2⟩ := parO_in (p := p) hn hx hr
    rw [h1] at h; cases h; exact .inr h2
theorem all_drop {x : α} : ∀ {f : (Fo α)} {z : α}, Nd f → (z ∈ all (drop x f) ↔ z ∈ all f ∧ z ≠ x)
  | .nil, _, _ => by simp [drop, all]
  | .cons i c r, z, hn => by
    obtain ⟨n1, n2, n3, n4, n5⟩ := nd_cons hn
    simp only [drop]
    by_cases e : i = x
    · rw [if_pos e, all_app, List.mem_append]
      subst e
      simp only [all, List.mem_cons, List.mem_append]
      constructor
      · rintro (h | h)
        · exact ⟨.inr (.inl h), fun e => n1 (e ▸ h)⟩
        · exact ⟨.inr (.inr h), fun e => n2 (e ▸ h)⟩
      · rintro ⟨h | h | h, h2⟩
        · exact absurd h h2
        · exact .inl h
        · exact .inr h
    · rw [if_neg e]
      simp only [all, List.mem_cons, List.mem_append, all_drop n3, all_drop n4]
      constructor
      · rintro (h | h | h)
        · exact ⟨.inl h, fun e2 => e (h ▸ e2)⟩
        · exact ⟨.inr (.inl h.1), h.2⟩
        · exact ⟨.inr (.inr h.1), h.2⟩
      · rintro ⟨h | h | h, h2⟩
        · exact .inl h
        · exact .inr (.inl ⟨h, h2⟩)
        · exact .inr (.inr ⟨h, h2⟩)
theorem OkP.at_root {k k' : α → Option α} : ∀ {f : (Fo α)} {p q : Option α}, Nd f → (∀ z, z ∈ all f → k' z = if z ∈ roots f then q else k z) → OkP k f p → OkP k' f q
  | .nil, _, _, _, _, _ => trivial
  | .cons i c r, p, q, hn, h, ⟨h1, h2, h3⟩ => by
    obtain ⟨n1, n2, n3, n4, n5⟩ := nd_cons hn
    refine ⟨by rw [h i (by simp [all]), if_pos (by simp [roots])], OkP.congr (fun z hz => ?_) h2, OkP.at_root (k := k) (p := p) n4 (fun z hz => ?_) h3⟩
    · rw [h z (by simp [all, hz]), if_neg]
      simp only [roots, List.mem_cons, not_or]
      exact ⟨fun e => n1 (e ▸ hz), fun hr => n5 z hz (roots_sub_all r z hr)⟩
    · rw [h z (by simp [all, hz])]
      simp only [roots, List.mem_cons]
      have : z ≠ i := fun e => n2 (e ▸ hz)
      simp [this]
theorem OkP.drop {k k' : α → Option α} {x : α} : ∀ {f : (Fo α)} {p : Option α}, Nd f → x ∈ all f → (∀ z, z ∈ all f → z ≠ x → k' z = if z ∈ roots (Fo.sub x f) then parO x f p else k z) → OkP k f p → OkP k' (Fo.drop x f) p
  | .nil, _, _, hx, _, _ => by cases hx
  | .cons i c r, p, hn, hx, h, ⟨h1, h2, h3⟩ => by
    obtain ⟨n1, n2, n3, n4, n5⟩ := nd_cons hn
    simp only [Fo.drop]
    simp only [Fo.sub, parO] at h
    by_cases e : i = x
    · rw [if_pos e]
      subst e
      simp only [if_true] at h
      refine OkP.app (OkP.at_root (k := k) (p := some i) n3 (fun z hz => ?_) h2) (OkP.congr (fun z hz => ?_) h3)
      · exact h z (by simp [all, hz]) (fun e => n1 (e ▸ hz))
      · rw [h z (by simp [all, hz]) (fun e => n2 (e ▸ hz)), if_neg (fun hr => n5 z (roots_sub_all c z hr) hz)]
    · rw [if_neg e]
      simp only [if_neg e] at h
      by_cases e2 : x ∈ all c
      · simp only [if_pos e2] at h
        have hsub : ∀ z, z ∈ roots (Fo.sub x c) → z ∈ all c := fun z hz => sub_all c x z (roots_sub_all _ z hz)
        refine ⟨?_, OkP.drop n3 e2 (fun z hz hzx => h z (by simp [all, hz]) hzx) h2, ?_⟩
        · rw [h i (by simp [all]) e, if_neg (fun hz => n1 (hsub _ hz)), h1]
        · rw [drop_no r x (n5 x e2)]
          refine OkP.congr (fun z hz => ?_) h3
          rw [h z (by simp [all, hz]) (fun e => n5 x e2 (e ▸ hz)), if_neg (fun hr => n5 z (hsub z hr) hz)]
      · simp only [if_neg e2] at h
        have hxr : x ∈ all r := by
          simp only [all, List.mem_cons, List.mem_append] at hx
          rcases hx with hx | hx | hx
          · exact absurd hx.symm e
          · exact absurd hx e2
          · exact hx
        have hsub : ∀ z, z ∈ roots (Fo.sub x r) → z ∈ all r := fun z hz => sub_all r x z (roots_sub_all _ z hz)
        refine ⟨?_, ?_, OkP.drop n4 hxr (fun z hz hzx => h z (by simp [all, hz]) hzx) h3⟩
        · rw [h i (by simp [all]) e, if_neg (fun hz => n2 (hsub _ hz)), h1]
        · rw [drop_no c x e2]
          refine OkP.congr (fun z hz => ?_) h2
          rw [h z (by simp [all, hz]) (fun e => e2 (e ▸ hz)), if_neg (fun hr => n5 z hz (hsub z hr))]
theorem OkK.drop {k k' : α → List α} {x : α} : ∀ {f : (Fo α)} {p : Option α}, Nd f → (∀ j, p = some j → j ∉ all f) → x ∈ all f → (∀ z, z ∈ all f → z ≠ x → k' z = if parO x f p = some z then repl x (roots (Fo.sub x f)) (k z) else k z) → OkK k f → OkK k' (Fo.drop x f)
  | .nil, _, _, _, hx, _, _ => by cases hx
  | .cons i c r, p, hn, hp, hx, h, ⟨h1, h2, h3⟩ => by
    obtain ⟨n1, n2, n3, n4, n5⟩ := nd_cons hn
    have hp2 : ∀ j, p = some j → j ≠ i ∧ j ∉ all c ∧ j ∉ all r := fun j hj => by
      have := hp j hj
      simpa [all] using this
    simp only [Fo.drop]
    simp only [Fo.sub, parO] at h
    by_cases e : i = x
    · rw [if_pos e]
      subst e
      simp only [if_true] at h
      refine OkK.app (OkK.congr (fun z hz => ?_) h2) (OkK.congr (fun z hz => ?_) h3)
      · rw [h z (by simp [all, hz]) (fun e => n1 (e ▸ hz)), if_neg (fun hj => (hp2 z hj).2.1 hz)]
      · rw [h z (by simp [all, hz]) (fun e => n2 (e ▸ hz)), if_neg (fun hj => (hp2 z hj).2.2 hz)]
    · rw [if_neg e]
      simp only [if_neg e] at h
      by_cases e2 : x ∈ all c
      · simp only [if_pos e2] at h
        refine ⟨?_, OkK.drop (p := some i) n3 (fun j hj => by cases hj; exact n1) e2 (fun z hz hzx => h z (by simp [all, hz]) hzx) h2, ?_⟩
        · rw [h i (by simp [all]) e, roots_drop n3, h1]
          by_cases e3 : x ∈ roots c
          · rw [parO_root n3 e3, if_pos rfl]
          · rw [repl_no e3, if_neg]
            obtain ⟨j, hj, hjc⟩ := parO_in (p := some i) n3 e2 e3
            rw [hj]; intro e; cases e; exact n1 hjc
        · rw [drop_no r x (n5 x e2)]
          refine OkK.congr (fun z hz => ?_) h3
          rw [h z (by simp [all, hz]) (fun e => n5 x e2 (e ▸ hz)), if_neg]
          intro hj
          rcases parO_mem n3 e2 hj with hj | hj
          · cases hj; exact n2 hz
          · exact n5 z hj hz
      · simp only [if_neg e2] at h
        have hxr : x ∈ all r := by
          simp only [all, List.mem_cons, List.mem_append] at hx
          rcases hx with hx | hx | hx
          · exact absurd hx.symm e
          · exact absurd hx e2
          · exact hx
        refine ⟨?_, ?_, OkK.drop (p := p) n4 (fun j hj => (hp2 j hj).2.2) hxr (fun z hz hzx => h z (by simp [all, hz]) hzx) h3⟩
        · rw [h i (by simp [all]) e, drop_no c x e2, if_neg, h1]
          intro hj
          rcases parO_mem n4 hxr hj with hj | hj
          · exact (hp2 i hj).1 rfl
          · exact n2 hj
        · rw [drop_no c x e2]
          refine OkK.congr (fun z hz => ?_) h2
          rw [h z (by simp [all, hz]) (fun e => e2 (e ▸ hz)), if_neg]
          intro hj
          rcases parO_mem n4 hxr hj with hj | hj
          · exact (hp2 z hj).2.1 hz
          · exact n5 z hz hj

/-! ### In a row -/
/-- How x and its kin stand in the row: what is ahead, and what is behind. -/
structure Cut (x y : α) (f : (Fo α)) (d : Nat) (p : Option α) (A : List (α × Nat)) (e : Nat) (B : List (α × Nat)) : Prop where
  row : flat f d = A ++ (x, e) :: (flat (sub x f) (e + 1) ++ B)
  behind : ∀ b, B.head? = some b → b.2 ≤ e
  child : flat (addc x y f) d = A ++ (x, e) :: (flat (sub x f) (e + 1) ++ (y, e + 1) :: B)
  gone : flat (drop x f) d = A ++ (flat (sub x f) e ++ B)
  deep : d ≤ e ∧ e = d + dep x f
  top : x ∈ roots f → e = d
  par : x ∉ roots f → ∃ j A1 A2, parO x f p = some j ∧ A = A1 ++ (j, e - 1) :: A2 ∧ (∀ a, a ∈ A2 → e ≤ a.2) ∧ d < e
  ahead : ∀ a, a ∈ A → d ≤ a.2
theorem flat_head {f : (Fo α)} {d : Nat} {b : α × Nat} (h : (flat f d).head? = some b) : b.2 = d := by
  cases f with
  | nil => cases h
  | cons i c r => simp [flat] at h; rw [← h]
theorem cut : ∀ {f : (Fo α)} {x y : α} {d : Nat} {p : Option α}, Nd f → x ∈ all f → ∃ A e B, Cut x y f d p A e B
  | .nil, _, _, _, _, _, h => by cases h
  | .cons i c r, x, y, d, p, hn, h => by
    obtain ⟨n1, n2, n3, n4, n5⟩ := nd_cons hn
    by_cases e : i = x
    · subst e
      refine ⟨[], d, flat r d, ?_⟩
      constructor
      · simp [flat, sub]
      · intro b hb; rw [flat_head hb]; exact Nat.le_refl _
      · simp [addc, flat, sub, flat_app]
      · simp [drop, sub, flat_app]
      · simp [dep]
      · intro _; rfl
      · intro hr; simp [roots] at hr
      · intro a ha; cases ha
    · by_cases e2 : x ∈ all c
      · have hxr := n5 x e2
        obtain ⟨A, e', B, h⟩ := cut (y := y) (d := d + 1) (p := some i) n3 e2
        have hs : sub x (.cons i c r) = sub x c := by simp [sub, e, e2]
        refine ⟨(i, d) :: A, e', B ++ flat r d, ?_⟩
        constructor
        · rw [hs]; simp [flat, h.row]
        · intro b hb
          cases B with
          | nil => rw [List.nil_append] at hb; rw [flat_head hb]; have := h.deep.1; omega
          | cons b2 B2 => exact h.behind b (by simpa using hb)
        · rw [hs]
          have : addc x y (.cons i c r) = .cons i (addc x y c) r := by simp [addc, e, addc_no y r x hxr]
          rw [this]; simp [flat, h.child]
        · rw [hs]
          have : drop x (.cons i c r) = .cons i (drop x c) r := by simp [drop, e, drop_no r x hxr]
          rw [this]; simp [flat, h.gone]
        · have := h.deep
          refine ⟨by omega, ?_⟩
          simp only [dep]; rw [if_neg e, if_pos e2]; omega
        · intro hr
          simp only [roots, List.mem_cons] at hr
          rcases hr with hr | hr
          · exact absurd hr.symm e
          · exact absurd (roots_sub_all r x hr) hxr
        · intro _
          have hd := h.deep
          have hp : parO x (.cons i c r) p = parO x c (some i) := by simp [parO, e, e2]
          rw [hp]
          by_cases e3 : x ∈ roots c
          · have := h.top e3
            exact ⟨i, [], A, parO_root n3 e3, by rw [this]; rfl, fun a ha => by rw [this]; exact h.ahead a ha, by omega⟩
          · obtain ⟨j, A1, A2, h1, h2, h3, h4⟩ := h.par e3
            exact ⟨j, (i, d) :: A1, A2, h1, by rw [h2]; rfl, h3, by omega⟩
        · intro a ha
          rcases List.mem_cons.1 ha with rfl | ha
          · exact Nat.le_refl _
          · have := h.ahead a ha; omega
      · have hxr : x ∈ all r := by
          simp only [all, List.mem_cons, List.mem_append] at h
          rcases h with h | h | h
          · exact absurd h.symm e
          · exact absurd h e2
          · exact h
        obtain ⟨A, e', B, h⟩ := cut (y := y) (d := d) (p := p) n4 hxr
        have hs : sub x (.cons i c r) = sub x r := by simp [sub, e, e2]
        refine ⟨(i, d) :: (flat c (d + 1) ++ A), e', B, ?_⟩
        constructor
        · rw [hs]; simp [flat, h.row]
        · exact h.behind
        · rw [hs]
          have : addc x y (.cons i c r) = .cons i c (addc x y r) := by simp [addc, e, addc_no y c x e2]
          rw [this]; simp [flat, h.child]
        · rw [hs]
          have : drop x (.cons i c r) = .cons i c (drop x r) := by simp [drop, e, drop_no c x e2]
          rw [this]; simp [flat, h.gone]
        · have := h.deep
          refine ⟨by omega, ?_⟩
          simp only [dep]; rw [if_neg e, if_neg e2]; omega
        · intro hr
          simp only [roots, List.mem_cons] at hr
          rcases hr with hr | hr
          · exact absurd hr.symm e
          · exact h.top hr
        · intro hr
          simp only [roots, List.mem_cons, not_or] at hr
          obtain ⟨j, A1, A2, h1, h2, h3, h4⟩ := h.par hr.2
          exact ⟨j, (i, d) :: (flat c (d + 1) ++ A1), A2, by simp [parO, e, e2, h1], by rw [h2]; simp, h3, h4⟩
        · intro a ha
          rcases List.mem_cons.1 ha with rfl | ha
          · exact Nat.le_refl _
          · rcases List.mem_append.1 ha with ha | ha
            · have := flat_ge c (d + 1) a ha; omega
            · exact h.ahead a ha
theorem all_addc {x y : α} : ∀ {f : (Fo α)} {z : α}, (z ∈ all (addc x y f) ↔ z ∈ all f ∨ (z = y ∧ x ∈ all f))
  | .nil, z => by simp [addc, all]
  | .cons i c r, z => by
    simp only [addc]
    by_cases e : i = x
    · rw [if_pos e]
      subst e
      simp only [all, all_app, List.mem_cons, List.mem_append, List.not_mem_nil, or_false, true_or, and_true, List.append_nil]
      constructor
      · rintro (h | (h | h) | h)
        · exact .inl (.inl h)
        · exact .inl (.inr (.inl h))
        · exact .inr h
        · exact .inl (.inr (.inr h))
      · rintro ((h | h | h) | h)
        · exact .inl h
        · exact .inr (.inl (.inl h))
        · exact .inr (.inr h)
        · exact .inr (.inl (.inr h))
    · rw [if_neg e]
      simp only [all, List.mem_cons, List.mem_append, all_addc (f := c), all_addc (f := r)]
      constructor
      · rintro (h | (h | h) | (h | h))
        · exact .inl (.inl h)
        · exact .inl (.inr (.inl h))
        · exact .inr ⟨h.1, .inr (.inl h.2)⟩
        · exact .inl (.inr (.inr h))
        · exact .inr ⟨h.1, .inr (.inr h.2)⟩
      · rintro ((h | h | h) | ⟨h, h2 | h2 | h2⟩)
        · exact .inl h
        · exact .inr (.inl (.inl h))
        · exact .inr (.inr (.inl h))
        · exact absurd h2.symm e
        · exact .inr (.inl (.inr ⟨h, h2⟩))
        · exact .inr (.inr (.inr ⟨h, h2⟩))
theorem nd_app {f g : (Fo α)} (h1 : Nd f) (h2 : Nd g) (h : ∀ z, z ∈ all f → z ∉ all g) : Nd (app f g) := by
  unfold Nd at *
  rw [all_app, List.nodup_append]
  exact ⟨h1, h2, fun a ha b hb e => h a ha (e ▸ hb)⟩
theorem nd_mk {i : α} {c r : (Fo α)} (h1 : i ∉ all c) (h2 : i ∉ all r) (h3 : Nd c) (h4 : Nd r) (h5 : ∀ z, z ∈ all c → z ∉ all r) : Nd (.cons i c r) := by
  unfold Nd at *
  simp only [all, List.nodup_cons, List.mem_append, not_or, List.nodup_append]
  exact ⟨⟨h1, h2⟩, h3, h4, fun a ha b hb e => h5 a ha (e ▸ hb)⟩
theorem nd_one (y : α) : Nd (one y) := by unfold Nd one; simp [all]
theorem nd_addc {x y : α} : ∀ {f : (Fo α)}, Nd f → y ∉ all f → Nd (addc x y f)
  | .nil, h, _ => h
  | .cons i c r, hn, hy => by
    obtain ⟨n1, n2, n3, n4, n5⟩ := nd_cons hn
    simp only [all, List.mem_cons, List.mem_append, not_or] at hy
    simp only [addc]
    by_cases e : i = x
    · rw [if_pos e]
      refine nd_mk ?_ n2 (nd_app n3 (nd_one y) ?_) n4 ?_
      · rw [all_app]; simp [all]; exact ⟨n1, Ne.symm hy.1⟩
      · intro z hz h; simp [one, all] at h; exact hy.2.1 (h ▸ hz)
      · intro z hz; rw [all_app] at hz; simp [all] at hz
        rcases hz with hz | hz
        · exact n5 z hz
        · exact hz ▸ hy.2.2
    · rw [if_neg e]
      refine nd_mk ?_ ?_ (nd_addc n3 hy.2.1) (nd_addc n4 hy.2.2) ?_
      · rw [all_addc]; rintro (h | h); exact n1 h; exact hy.1 h.1.symm
      · rw [all_addc]; rintro (h | h); exact n2 h; exact hy.1 h.1.symm
      · intro z hz hr
        rw [all_addc] at hz hr
        rcases hz with hz | hz <;> rcases hr with hr | hr
        · exact n5 z hz hr
        · exact hy.2.1 (hr.1 ▸ hz)
        · exact hy.2.2 (hz.1 ▸ hr)
        · exact n5 x hz.2 hr.2
theorem drop_sublist {x : α} : ∀ f : (Fo α), (all (drop x f)).Sublist (all f)
  | .nil => List.Sublist.refl _
  | .cons i c r => by
    simp only [drop]
    split
    · rw [all_app]; exact List.sublist_cons_self _ _
    · simp only [all]; exact ((drop_sublist c).append (drop_sublist r)).cons_cons _
theorem nd_drop {x : α} {f : (Fo α)} (h : Nd f) : Nd (drop x f) := (drop_sublist f).nodup h
theorem drop_len {x : α} : ∀ {f : (Fo α)}, Nd f → x ∈ all f → (all (drop x f)).length + 1 = (all f).length
  | .nil, _, h => by cases h
  | .cons i c r, hn, h => by
    obtain ⟨n1, n2, n3, n4, n5⟩ := nd_cons hn
    simp only [drop]
    by_cases e : i = x
    · rw [if_pos e, all_app]; simp [all]
    · rw [if_neg e]
      simp only [all, List.length_cons, List.length_append]
      by_cases e2 : x ∈ all c
      · have := drop_len n3 e2
        rw [drop_no r x (n5 x e2)]; omega
      · have hxr : x ∈ all r := by
          simp only [all, List.mem_cons, List.mem_append] at h
          rcases h with h | h | h
          · exact absurd h.symm e
          · exact absurd h e2
          · exact h
        have := drop_len n4 hxr
        rw [drop_no c x e2]; omega
theorem addc_len {x y : α} : ∀ {f : (Fo α)}, Nd f → x ∈ all f → (all (addc x y f)).length = (all f).length + 1
  | .nil, _, h => by cases h
  | .cons i c r, hn, h => by
    obtain ⟨n1, n2, n3, n4, n5⟩ := nd_cons hn
    simp only [addc]
    by_cases e : i = x
    · rw [if_pos e]; simp [all, all_app]; omega
    · rw [if_neg e]
      simp only [all, List.length_cons, List.length_append]
      by_cases e2 : x ∈ all c
      · have := addc_len (y := y) n3 e2
        rw [addc_no y r x (n5 x e2)]; omega
      · have hxr : x ∈ all r := by
          simp only [all, List.mem_cons, List.mem_append] at h
          rcases h with h | h | h
          · exact absurd h.symm e
          · exact absurd h e2
          · exact h
        have := addc_len (y := y) n4 hxr
        rw [addc_no y c x e2]; omega
theorem sub_self : ∀ {f : (Fo α)} {x : α}, Nd f → x ∉ all (sub x f)
  | .nil, _, _ => by simp [sub, all]
  | .cons i c r, x, hn => by
    obtain ⟨n1, n2, n3, n4, n5⟩ := nd_cons hn
    simp only [sub]
    by_cases e : i = x
    · rw [if_pos e]; exact e ▸ n1
    · rw [if_neg e]
      split
      · exact sub_self n3
      · exact sub_self n4
theorem parO_kid : ∀ {f : (Fo α)} {x j : α} {p : Option α}, Nd f → x ∈ all f → parO x f p = some j → (p = some j ∧ x ∈ roots f) ∨ (j ∈ all f ∧ x ∈ roots (sub j f))
  | .nil, _, _, _, _, h, _ => by cases h
  | .cons i c r, x, j, p, hn, h, hp => by
    obtain ⟨n1, n2, n3, n4, n5⟩ := nd_cons hn
    simp only [parO] at hp
    by_cases e : i = x
    · rw [if_pos e] at hp; exact .inl ⟨hp, by simp [roots, e]⟩
    · rw [if_neg e] at hp
      by_cases e2 : x ∈ all c
      · rw [if_pos e2] at hp
        rcases parO_kid n3 e2 hp with ⟨h1, h2⟩ | ⟨h1, h2⟩
        · cases h1; exact .inr ⟨by simp [all], by simp [sub, h2]⟩
        · refine .inr ⟨by simp [all, h1], ?_⟩
          have : i ≠ j := fun e => n1 (e ▸ h1)
          simp [sub, this, h1, h2]
      · rw [if_neg e2] at hp
        have hxr : x ∈ all r := by
          simp only [all, List.mem_cons, List.mem_append] at h
          rcases h with h | h | h
          · exact absurd h.symm e
          · exact absurd h e2
          · exact h
        rcases parO_kid n4 hxr hp with ⟨h1, h2⟩ | ⟨h1, h2⟩
        · exact .inl ⟨h1, by simp [roots, h2]⟩
        · refine .inr ⟨by simp [all, h1], ?_⟩
          have h3 : i ≠ j := fun e => n2 (e ▸ h1)
          have h4 : j ∉ all c := fun h => n5 j h h1
          simp [sub, h3, h4, h2]
end Fo
end Go.Proofs.Ytdodfnjmkpgdbaa
