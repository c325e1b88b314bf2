/- Layer 9 in plain Lean, seventh part: who leads to whom; what is left of a slot that goes. No condition. -/
import Derived.Test.YtdodfnjmkpgdbaaM09o
set_option linter.unusedVariables false
set_option linter.unusedSimpArgs false
set_option linter.unusedSectionVars false
namespace Go.Proofs.Ytdodfnjmkpgdbaa
open Go.SL
namespace Fo
section
variable {α : Type} [DecidableEq α]
theorem all_addc_perm {x y : α} : ∀ {f : Fo α}, Nd f → x ∈ all f → (all (addc x y f)).Perm (all f ++ [y])
  | .nil, _, h => by cases h
  | .cons i c r, hn, h => by
    obtain ⟨n1, n2, n3, n4, n5⟩ := nd_cons hn
    simp only [addc]
    by_cases e : i = x
    · rw [if_pos e]
      simp only [all, all_app, List.cons_append, List.append_nil]
      refine List.Perm.cons _ ?_
      rw [List.append_assoc, List.append_assoc]
      exact List.Perm.append_left _ List.perm_append_comm
    · rw [if_neg e]
      simp only [all, List.cons_append]
      refine List.Perm.cons _ ?_
      by_cases e2 : x ∈ all c
      · rw [addc_no y r x (n5 x e2)]
        refine ((all_addc_perm (y := y) n3 e2).append_right _).trans ?_
        rw [List.append_assoc, List.append_assoc]
        exact List.Perm.append_left _ List.perm_append_comm
      · have hxr : x ∈ all r := by
          simp only [all, List.mem_cons, List.mem_append] at h
          rcases h with h | h | h
          · exact absurd h.symm e
          · exact absurd h e2
          · exact h
        rw [addc_no y c x e2, List.append_assoc]
        exact List.Perm.append_left _ (all_addc_perm n4 hxr)
theorem sub_lt {x i : α} {c r : Fo α} : ∀ {z : α}, z ∈ all (sub x (.cons i c r)) → z ∈ all c ∨ z ∈ all r := by
  intro z h
  simp only [sub] at h
  split at h
  · exact .inl h
  · split at h
    · exact .inl (sub_all c x z h)
    · exact .inr (sub_all r x z h)
/-- One is of t's kin just if what it comes of is t, or is of t's kin. -/
theorem kin_step : ∀ {f : Fo α} {x t : α} {p : Option α}, Nd f → (∀ j, p = some j → j ∉ all f) → x ∈ all f → t ∈ all f → (x ∈ all (sub t f) ↔ ∃ j, parO x f p = some j ∧ j ∈ all f ∧ (j = t ∨ j ∈ all (sub t f)))
  | .nil, _, _, _, _, _, h, _ => by cases h
  | .cons i c r, x, t, p, hn, hp, hx, ht => by
    obtain ⟨n1, n2, n3, n4, n5⟩ := nd_cons hn
    have hp2 : ∀ j, p = some j → j ≠ i ∧ j ∉ all c ∧ j ∉ all r := fun j hj => by
      have := hp j hj
      simpa [all] using this
    by_cases ex : i = x
    · subst ex
      refine ⟨fun h => ?_, fun ⟨j, h1, h2, _⟩ => ?_⟩
      · rcases sub_lt h with h | h
        · exact absurd h n1
        · exact absurd h n2
      · simp [parO] at h1; exact absurd h2 (hp j h1)
    · by_cases exc : x ∈ all c
      · have ep : parO x (.cons i c r) p = parO x c (some i) := by simp [parO, ex, exc]
        have hj : ∀ j, parO x c (some i) = some j → j = i ∨ j ∈ all c := fun j h => by
          rcases parO_mem n3 exc h with h | h
          · exact .inl (Option.some.inj h).symm
          · exact .inr h
        have hex : ∃ j, parO x c (some i) = some j := by
          by_cases hr : x ∈ roots c
          · exact ⟨i, parO_root n3 hr⟩
          · obtain ⟨j, h, _⟩ := parO_in (p := some i) n3 exc hr; exact ⟨j, h⟩
        rw [ep]
        by_cases et : i = t
        · subst et
          have es : sub i (.cons i c r) = c := by simp [sub]
          rw [es]
          refine ⟨fun _ => ?_, fun _ => exc⟩
          obtain ⟨j, h⟩ := hex
          rcases hj j h with e | e
          · exact ⟨j, h, by simp [all, e], .inl e⟩
          · exact ⟨j, h, by simp [all, e], .inr e⟩
        · by_cases etc : t ∈ all c
          · have es : sub t (.cons i c r) = sub t c := by simp [sub, et, etc]
            rw [es, kin_step (p := some i) n3 (fun j hj => by cases hj; exact n1) exc etc]
            refine ⟨fun ⟨j, h1, h2, h3⟩ => ⟨j, h1, by simp [all, h2], h3⟩, fun ⟨j, h1, h2, h3⟩ => ⟨j, h1, ?_, h3⟩⟩
            rcases h3 with h3 | h3
            · exact h3 ▸ etc
            · exact sub_all c t j h3
          · have es : sub t (.cons i c r) = sub t r := by simp [sub, et, etc]
            have htr : t ∈ all r := by
              simp only [all, List.mem_cons, List.mem_append] at ht
              rcases ht with h | h | h
              · exact absurd h.symm et
              · exact absurd h etc
              · exact h
            rw [es]
            refine ⟨fun h => absurd (sub_all r t x h) (n5 x exc), fun ⟨j, h1, h2, h3⟩ => ?_⟩
            exfalso
            have hjr : j ∈ all r := by
              rcases h3 with h3 | h3
              · exact h3 ▸ htr
              · exact sub_all r t j h3
            rcases hj j h1 with e | e
            · exact n2 (e ▸ hjr)
            · exact n5 j e hjr
      · have hxr : x ∈ all r := by
          simp only [all, List.mem_cons, List.mem_append] at hx
          rcases hx with h | h | h
          · exact absurd h.symm ex
          · exact absurd h exc
          · exact h
        have ep : parO x (.cons i c r) p = parO x r p := by simp [parO, ex, exc]
        have hj : ∀ j, parO x r p = some j → j ∈ all (.cons i c r) → j ∈ all r := fun j h h2 => by
          rcases parO_mem n4 hxr h with h | h
          · exact absurd h2 (hp j h)
          · exact h
        rw [ep]
        by_cases et : i = t
        · subst et
          have es : sub i (.cons i c r) = c := by simp [sub]
          rw [es]
          refine ⟨fun h => absurd h exc, fun ⟨j, h1, h2, h3⟩ => ?_⟩
          have := hj j h1 h2
          rcases h3 with h3 | h3
          · exact absurd (h3 ▸ this) n2
          · exact absurd this (n5 j h3)
        · by_cases etc : t ∈ all c
          · have es : sub t (.cons i c r) = sub t c := by simp [sub, et, etc]
            rw [es]
            refine ⟨fun h => absurd (sub_all c t x h) exc, fun ⟨j, h1, h2, h3⟩ => ?_⟩
            have := hj j h1 h2
            exfalso
            rcases h3 with h3 | h3
            · exact n5 t etc (h3 ▸ this)
            · exact n5 j (sub_all c t j h3) this
          · have es : sub t (.cons i c r) = sub t r := by simp [sub, et, etc]
            have htr : t ∈ all r := by
              simp only [all, List.mem_cons, List.mem_append] at ht
              rcases ht with h | h | h
              · exact absurd h.symm et
              · exact absurd h etc
              · exact h
            rw [es, kin_step (p := p) n4 (fun j h => (hp2 j h).2.2) hxr htr]
            exact ⟨fun ⟨j, h1, h2, h3⟩ => ⟨j, h1, by simp [all, h2], h3⟩, fun ⟨j, h1, h2, h3⟩ => ⟨j, h1, hj j h1 h2, h3⟩⟩
/-- What one comes of stands higher by one. -/
theorem par_dep : ∀ {f : Fo α} {x j : α} {p : Option α}, Nd f → x ∈ all f → parO x f p = some j → (p = some j ∧ dep x f = 0) ∨ (j ∈ all f ∧ dep x f = dep j f + 1)
  | .nil, _, _, _, _, h, _ => by cases h
  | .cons i c r, x, j, p, hn, hx, h => by
    obtain ⟨n1, n2, n3, n4, n5⟩ := nd_cons hn
    by_cases ex : i = x
    · subst ex
      simp [parO] at h
      exact .inl ⟨h, by simp [dep]⟩
    · by_cases exc : x ∈ all c
      · have ep : parO x (.cons i c r) p = parO x c (some i) := by simp [parO, ex, exc]
        rw [ep] at h
        have ed : dep x (.cons i c r) = dep x c + 1 := by simp [dep, ex, exc]
        rcases par_dep n3 exc h with ⟨h1, h2⟩ | ⟨h1, h2⟩
        · cases h1
          exact .inr ⟨by simp [all], by rw [ed, h2]; simp [dep]⟩
        · have : i ≠ j := fun e => n1 (e ▸ h1)
          exact .inr ⟨by simp [all, h1], by rw [ed, h2]; simp [dep, this, h1]⟩
      · have hxr : x ∈ all r := by
          simp only [all, List.mem_cons, List.mem_append] at hx
          rcases hx with h | h | h
          · exact absurd h.symm ex
          · exact absurd h exc
          · exact h
        have ep : parO x (.cons i c r) p = parO x r p := by simp [parO, ex, exc]
        rw [ep] at h
        have ed : dep x (.cons i c r) = dep x r := by simp [dep, ex, exc]
        rcases par_dep n4 hxr h with ⟨h1, h2⟩ | ⟨h1, h2⟩
        · exact .inl ⟨h1, by rw [ed, h2]⟩
        · have h3 : i ≠ j := fun e => n2 (e ▸ h1)
          have h4 : j ∉ all c := fun e => n5 j e h1
          exact .inr ⟨by simp [all, h1], by rw [ed, h2]; simp [dep, h3, h4]⟩
theorem dep_lt' : ∀ {f : Fo α} {x : α}, x ∈ all f → dep x f < (all f).length
  | .nil, _, h => by cases h
  | .cons i c r, x, h => by
    simp only [dep, all, List.length_cons, List.length_append]
    by_cases e : i = x
    · rw [if_pos e]; omega
    · rw [if_neg e]
      by_cases e2 : x ∈ all c
      · rw [if_pos e2]; have := dep_lt' e2; omega
      · rw [if_neg e2]
        have : x ∈ all r := by
          simp only [all, List.mem_cons, List.mem_append] at h
          rcases h with h | h | h
          · exact absurd h.symm e
          · exact absurd h e2
          · exact h
        have := dep_lt' this; omega
/-- Do the parents lead from s to another one? -/
def leads (f : Fo α) (to : α) : Nat → α → Bool
  | 0, _ => false
  | k + 1, s => match parO s f none with
    | none => false
    | some p => if p = to then true else leads f to k p
theorem leads_eq {f : Fo α} {to : α} (hn : Nd f) (ht : to ∈ all f) : ∀ (k : Nat) (s : α), s ∈ all f → dep s f < k → leads f to k s = decide (s ∈ all (sub to f))
  | 0, _, _, h => by omega
  | k + 1, s, hs, hd => by
    have hst := kin_step (x := s) (t := to) (p := none) hn (fun j h => by cases h) hs ht
    simp only [leads]
    cases hp : parO s f none with
    | none =>
      refine (decide_eq_false (fun h => ?_)).symm
      obtain ⟨j, h1, _⟩ := hst.1 h
      rw [hp] at h1; cases h1
    | some p =>
      have hpd := par_dep hn hs hp
      have hpa : p ∈ all f ∧ dep s f = dep p f + 1 := by
        rcases hpd with ⟨h, _⟩ | h
        · cases h
        · exact h
      dsimp only
      by_cases e : p = to
      · rw [if_pos e]; exact (decide_eq_true (hst.2 ⟨p, hp, hpa.1, .inl e⟩)).symm
      · rw [if_neg e, leads_eq hn ht k p hpa.1 (by omega)]
        congr 1
        apply propext
        rw [hst]
        refine ⟨fun h => ⟨p, hp, hpa.1, .inr h⟩, fun ⟨j, h1, h2, h3⟩ => ?_⟩
        rw [hp] at h1; cases h1
        exact h3.resolve_left e
/-! ### What is left -/
theorem sub_app {x : α} : ∀ {a b : Fo α}, sub x (app a b) = if x ∈ all a then sub x a else sub x b
  | .nil, b => by simp [app, all]
  | .cons i c r, b => by
    simp only [app, sub, sub_app (a := r), all, List.mem_cons, List.mem_append]
    by_cases e : i = x
    · simp [e]
    · by_cases e2 : x ∈ all c
      · simp [e, e2]
      · have : ¬ x = i := fun h => e h.symm
        simp [e, e2, this]
theorem sub_drop {x s : α} (hxs : x ≠ s) : ∀ {f : Fo α}, Nd f → sub x (drop s f) = drop s (sub x f)
  | .nil, _ => rfl
  | .cons i c r, hn => by
    obtain ⟨n1, n2, n3, n4, n5⟩ := nd_cons hn
    simp only [drop]
    by_cases e : i = s
    · rw [if_pos e, sub_app]
      have e1 : i ≠ x := fun h => hxs (h.symm.trans e)
      simp only [sub]; rw [if_neg e1]
      split
      · rw [drop_no]; exact fun h => n1 (e ▸ sub_all c x s h)
      · rw [drop_no]; exact fun h => n2 (e ▸ sub_all r x s h)
    · rw [if_neg e]
      simp only [sub]
      by_cases e1 : i = x
      · rw [if_pos e1, if_pos e1]
      · rw [if_neg e1, if_neg e1, sub_drop hxs n3, sub_drop hxs n4]
        by_cases e2 : x ∈ all c
        · rw [if_pos e2, if_pos ((all_drop n3).2 ⟨e2, hxs⟩)]
        · rw [if_neg e2, if_neg (fun h => e2 ((all_drop n3).1 h).1)]
theorem all_drop_eq {s : α} : ∀ {f : Fo α}, Nd f → all (drop s f) = (all f).filter fun z => decide (z ≠ s)
  | .nil, _ => rfl
  | .cons i c r, hn => by
    obtain ⟨n1, n2, n3, n4, n5⟩ := nd_cons hn
    have hid : ∀ g : Fo α, s ∉ all g → (all g).filter (fun z => decide (z ≠ s)) = all g := fun g hg => List.filter_eq_self.2 fun z hz => decide_eq_true fun e => hg (e ▸ hz)
    simp only [drop]
    by_cases e : i = s
    · rw [if_pos e, all_app]
      simp only [all, List.filter_cons, List.filter_append]
      rw [hid c (e ▸ n1), hid r (e ▸ n2), if_neg (by simp [e])]
    · rw [if_neg e]
      simp only [all, List.filter_cons, List.filter_append, all_drop_eq n3, all_drop_eq n4]
      rw [if_pos (by simp [e])]
theorem nd_sub {x : α} : ∀ {f : Fo α}, Nd f → Nd (sub x f)
  | .nil, h => h
  | .cons i c r, hn => by
    obtain ⟨n1, n2, n3, n4, n5⟩ := nd_cons hn
    simp only [sub]
    split
    · exact n3
    · split
      · exact nd_sub n3
      · exact nd_sub n4
theorem kin_drop {x s : α} {f : Fo α} (hn : Nd f) (hxs : x ≠ s) : all (sub x (drop s f)) = (all (sub x f)).filter fun z => decide (z ≠ s) := by
  rw [sub_drop hxs hn, all_drop_eq (nd_sub hn)]
theorem okP_self : ∀ {f : Fo α} {p : Option α}, Nd f → OkP (fun z => parO z f p) f p
  | .nil, _, _ => trivial
  | .cons i c r, p, hn => by
    obtain ⟨n1, n2, n3, n4, n5⟩ := nd_cons hn
    refine ⟨by simp [parO], OkP.congr (fun z hz => ?_) (okP_self (p := some i) n3), OkP.congr (fun z hz => ?_) (okP_self (p := p) n4)⟩
    · have : i ≠ z := fun e => n1 (e ▸ hz)
      simp [parO, this, hz]
    · have h1 : i ≠ z := fun e => n2 (e ▸ hz)
      have h2 : z ∉ all c := fun h => n5 z h hz
      simp [parO, h1, h2]
theorem par_drop {f : Fo α} {s z : α} (hn : Nd f) (hs : s ∈ all f) (hz : z ∈ all f) (hzs : z ≠ s) : parO z (drop s f) none = if z ∈ roots (sub s f) then parO s f none else parO z f none := by
  have h1 := OkP.drop (k := fun z => parO z f none) (k' := fun z => if z ∈ roots (sub s f) then parO s f none else parO z f none) (p := none) hn hs (fun _ _ _ => rfl) (okP_self hn)
  exact (OkP.at h1 ((all_drop hn).2 ⟨hz, hzs⟩)).symm
end
end Fo
theorem ftRoot_perm {F : FoS} {s : SlotM} {l : List SlotM} (h : l.Perm F.all) (h0 : (ftRoot F s).1 = 0) : (l ++ [s]).Perm (ftRoot F s).2.all := by
  unfold ftRoot at h0 ⊢
  split at h0
  · cases h0
  · rename_i hs
    rw [if_neg hs]
    show (l ++ [s]).Perm (F.app (.one s)).all
    rw [Fo.all_app]
    exact h.append_right _
theorem ftRoot_no {F : FoS} {s : SlotM} (h0 : (ftRoot F s).1 ≠ 0) : (ftRoot F s).2 = F := by
  unfold ftRoot at h0 ⊢
  split at h0
  · rename_i hs; rw [if_pos hs]
  · exact absurd rfl h0
theorem ftChild_perm {F : FoS} {o s : SlotM} {l : List SlotM} (hn : Fo.Nd F) (h : l.Perm F.all) (h0 : (ftChild F o s).1 = 0) : (l ++ [s]).Perm (ftChild F o s).2.all := by
  unfold ftChild at h0 ⊢
  split at h0
  · rename_i ho
    rw [if_pos ho]
    split at h0
    · cases h0
    · rename_i hs
      rw [if_neg hs]
      exact (h.append_right _).trans (Fo.all_addc_perm hn ho).symm
  · cases h0
theorem ftChild_no {F : FoS} {o s : SlotM} (h0 : (ftChild F o s).1 ≠ 0) : (ftChild F o s).2 = F := by
  unfold ftChild at h0 ⊢
  split at h0
  · rename_i ho
    rw [if_pos ho]
    split at h0
    · rename_i hs; rw [if_pos hs]
    · exact absurd rfl h0
  · rename_i ho; rw [if_neg ho]
theorem kin_count {F : FoS} {s : SlotM} {l : List SlotM} (hn : Fo.Nd F) (h : l.Perm F.all) : l.countP (fun z => decide (z ∈ ftKin F s)) = (ftKin F s).length := by
  have hk : (ftKin F s).Nodup := Fo.nd_sub hn
  have hsub : ∀ z, z ∈ ftKin F s → z ∈ F.all := fun z hz => Fo.sub_all F s z hz
  rw [h.countP_eq, List.countP_eq_length_filter]
  refine List.Perm.length_eq ?_
  refine (List.perm_ext_iff_of_nodup (List.filter_sublist.nodup hn) hk).2 fun z => ?_
  rw [List.mem_filter]
  exact ⟨fun h => of_decide_eq_true h.2, fun h => ⟨hsub z h, decide_eq_true h⟩⟩
theorem leads_kin {F : FoS} {to : SlotM} (hn : Fo.Nd F) (ht : to ∈ F.all) (k : Nat) (z : SlotM) (hz : z ∈ F.all) (hd : Fo.dep z F < k) : Fo.leads F to k z = decide (z ∈ ftKin F to) := by
  rw [Fo.leads_eq hn ht k z hz hd]; exact decide_eq_decide.2 Iff.rfl
theorem take_count {l : List SlotM} {p : SlotM → Bool} {j : Nat} {z : SlotM} (hz : l[j]? = some z) : (l.take (j + 1)).countP p = (l.take j).countP p + if p z then 1 else 0 := by
  rw [List.take_add_one, hz, List.countP_append]
  simp [List.countP_cons]
/-- The map that tells each slot's kin, as far as it is filled. -/
def KinMap (F : FoS) (ins : List SlotM) (M : List (SlotM × Value × Nat)) (H : Hp) (i : Nat) : Prop := ∀ j z, j < i → ins[j]? = some z → ∃ v, mget z M = some v ∧ View H 2 v (ftKin F z).length (slotsCells (ftKin F z))
theorem KinMap.step {F : FoS} {ins : List SlotM} {M : List (SlotM × Value × Nat)} {H C : Hp} {i t : Nat} {z : SlotM} {v : Value} (h : KinMap F ins M H i) (hz : ins[i]? = some z) (hv : View C 2 v (ftKin F z).length (slotsCells (ftKin F z))) : KinMap F ins (mput z v t M) (C ++ H) (i + 1) := by
  intro j y hj hy
  rw [mget_mput]
  by_cases e : y = z
  · subst e; rw [if_pos rfl]
    exact ⟨v, rfl, hv.mono fun p hp => List.mem_append_left _ hp⟩
  · rw [if_neg e]
    have hji : j ≠ i := fun e2 => by subst e2; rw [hz] at hy; exact e (Option.some.inj hy).symm
    obtain ⟨u, h1, h2⟩ := h j y (by omega) hy
    exact ⟨u, h1, h2.mono fun p hp => List.mem_append_right _ hp⟩
theorem KinMap.mono {F : FoS} {ins : List SlotM} {M : List (SlotM × Value × Nat)} {H : Hp} {i j : Nat} (h : KinMap F ins M H i) (hj : j ≤ i) : KinMap F ins M H j := fun k z hk => h k z (by omega)
theorem kid_par {F : FoS} {s c : SlotM} (hn : Fo.Nd F) (hs : s ∈ F.all) (hc : c ∈ ftKids F s) : ftPar (F.drop s) c = ftPar F s ∧ ftParB (F.drop s) c = ftParB F s := by
  have h1 := Fo.roots_sub_all _ _ hc
  have h2 : c ≠ s := fun e => Fo.sub_self hn (e ▸ h1)
  have h3 := Fo.par_drop hn hs (Fo.sub_all F s c h1) h2
  have hc' : c ∈ (Fo.sub s F).roots := hc
  rw [if_pos hc'] at h3
  unfold ftPar ftParB
  rw [h3]; exact ⟨rfl, rfl⟩
end Go.Proofs.Ytdodfnjmkpgdbaa
