/- Layer 9 in plain Lean, sixth part: the document's row of a forest. No condition. -/
import Derived.Test.YtpoamckpdpkpoaaM09g
import Derived.Test.YtpoamckpdpkpoaaM09d
set_option linter.unusedVariables false
set_option linter.unusedSimpArgs false
set_option linter.unusedSectionVars false
namespace Go.Proofs.Ytpoamckpdpkpoaa
open Go.SL
abbrev kr (e : SlotM × Nat) : KnM := (e.1, (e.2 : Int))
def rowF (F : FoS) : List KnM := (F.flat 0).map kr
theorem kr_fst (l : List (SlotM × Nat)) : (l.map kr).map Prod.fst = l.map Prod.fst := by rw [List.map_map]; rfl
theorem rowF_fst (F : FoS) : (rowF F).map Prod.fst = F.all := by unfold rowF; rw [kr_fst, Fo.flat_fst]
theorem rowF_len (F : FoS) : (rowF F).length = F.all.length := by rw [← rowF_fst F, List.length_map]
theorem idxK_notin {s : SlotM} : ∀ {l : List KnM}, s ∉ l.map Prod.fst → idxK l s = -1
  | [], _ => rfl
  | a :: l, h => by
    simp only [List.map_cons, List.mem_cons, not_or] at h
    simp only [idxK]; rw [if_neg (Ne.symm h.1), idxK_notin h.2]; rfl
theorem idxK_app {s : SlotM} {k : KnM} {R : List KnM} (hk : k.1 = s) : ∀ {A : List KnM}, s ∉ A.map Prod.fst → idxK (A ++ k :: R) s = A.length
  | [], _ => by simp [idxK, hk]
  | a :: A, h => by
    simp only [List.map_cons, List.mem_cons, not_or] at h
    have ih := idxK_app (R := R) hk h.2
    simp only [List.cons_append, idxK, ih]
    rw [if_neg (Ne.symm h.1), if_neg (by omega), List.length_cons]; push_cast; rfl
theorem dep_lt : ∀ {f : FoS} {x : SlotM}, x ∈ f.all → Fo.dep x f < f.all.length
  | .nil, _, h => by cases h
  | .cons i c r, x, h => by
    simp only [Fo.dep, Fo.all, List.length_cons, List.length_append]
    by_cases e : i = x
    · rw [if_pos e]; omega
    · rw [if_neg e]
      by_cases e2 : x ∈ c.all
      · rw [if_pos e2]; have := dep_lt e2; omega
      · rw [if_neg e2]
        have : x ∈ r.all := by
          simp only [Fo.all, List.mem_cons, List.mem_append] at h
          rcases h with h | h | h
          · exact absurd h.symm e
          · exact absurd h e2
          · exact h
        have := dep_lt this; omega
theorem flat_dep : ∀ {f : FoS} {d : Nat} {c : SlotM × Nat}, Fo.Nd f → c ∈ f.flat d → c.2 = d + Fo.dep c.1 f
  | .nil, _, _, _, h => by cases h
  | .cons i k r, d, c, hn, h => by
    obtain ⟨n1, n2, n3, n4, n5⟩ := Fo.nd_cons hn
    simp only [Fo.flat, List.mem_cons, List.mem_append] at h
    simp only [Fo.dep]
    rcases h with rfl | h | h
    · rw [if_pos rfl]; rfl
    · have hm : c.1 ∈ k.all := by rw [← Fo.flat_fst k (d + 1)]; exact List.mem_map.2 ⟨c, h, rfl⟩
      have := flat_dep n3 h
      rw [if_neg (fun e : i = c.1 => n1 (e ▸ hm)), if_pos hm]; omega
    · have hm : c.1 ∈ r.all := by rw [← Fo.flat_fst r d]; exact List.mem_map.2 ⟨c, h, rfl⟩
      have := flat_dep n4 h
      rw [if_neg (fun e : i = c.1 => n2 (e ▸ hm)), if_neg (fun e : c.1 ∈ k.all => n5 _ e hm)]; exact this
/-- How a slot stands in the row. -/
structure RCut (F : FoS) (x y : SlotM) (A : List KnM) (e : Nat) (B : List KnM) : Prop where
  cut : DCut (rowF F) A (x, (e : Int)) (((F.sub x).flat (e + 1)).map kr) B
  idx : idxK (rowF F) x = A.length
  small : e < F.all.length
  child : rowF (F.addc x y) = A ++ (x, (e : Int)) :: (((F.sub x).flat (e + 1)).map kr ++ (y, (e : Int) + 1) :: B)
  gone : rowF (F.drop x) = A ++ (((F.sub x).flat e).map kr ++ B)
  par : (F.parO x none = none ∧ e = 0 ∧ ∀ a, a ∈ A → ¬ a.2 < (e : Int)) ∨ ∃ j A1 A2, F.parO x none = some j ∧ A = A1 ++ (j, (e : Int) - 1) :: A2 ∧ ∀ a, a ∈ A2 → ¬ a.2 < (e : Int)
theorem row_cut {F : FoS} (hn : Fo.Nd F) {x : SlotM} (hx : x ∈ F.all) (y : SlotM) : ∃ A e B, RCut F x y A e B := by
  obtain ⟨A, e, B, h⟩ := Fo.cut (y := y) (d := 0) (p := none) hn hx
  have hrow : rowF F = A.map kr ++ (x, (e : Int)) :: (((F.sub x).flat (e + 1)).map kr ++ B.map kr) := by
    unfold rowF; rw [h.row]; simp
  refine ⟨A.map kr, e, B.map kr, ⟨hrow, ?_, ?_⟩, ?_, ?_, ?_, ?_, ?_⟩
  · intro c hc
    obtain ⟨c', hc', rfl⟩ := List.mem_map.1 hc
    have := Fo.flat_ge _ _ _ hc'
    show (e : Int) < (c'.2 : Int)
    omega
  · intro b hb
    rw [List.head?_map] at hb
    cases e2 : B.head? with
    | none => rw [e2] at hb; cases hb
    | some b' =>
      rw [e2] at hb; cases hb
      have := h.behind b' e2
      show (b'.2 : Int) ≤ (e : Int)
      omega
  · rw [hrow]
    refine idxK_app rfl ?_
    have h1 : ((rowF F).map Prod.fst).Nodup := by rw [rowF_fst]; exact hn
    rw [hrow, List.map_append, List.map_cons, List.nodup_append] at h1
    exact fun hm => h1.2.2 _ hm _ (List.mem_cons_self ..) rfl
  · have := h.deep.2; have := dep_lt hx; omega
  · unfold rowF; rw [h.child]; simp
  · unfold rowF; rw [h.gone]; simp
  · by_cases hr : x ∈ F.roots
    · have he := h.top hr
      exact .inl ⟨Fo.parO_root hn hr, he, fun a ha => by
        obtain ⟨c', hc', rfl⟩ := List.mem_map.1 ha
        show ¬ (c'.2 : Int) < (e : Int)
        omega⟩
    · obtain ⟨j, A1, A2, h1, h2, h3, h4⟩ := h.par hr
      refine .inr ⟨j, A1.map kr, A2.map kr, h1, ?_, fun a ha => ?_⟩
      · rw [h2]
        simp only [List.map_append, List.map_cons]
        rw [show kr (j, e - 1) = (j, (e : Int) - 1) by simp only [kr]; congr 1; omega]
      · obtain ⟨c', hc', rfl⟩ := List.mem_map.1 ha
        have := h3 c' hc'
        show ¬ (c'.2 : Int) < (e : Int)
        omega
theorem rowF_root (F : FoS) (s : SlotM) : rowF (F.app (.one s)) = rowF F ++ [(s, 0)] := by
  unfold rowF; rw [Fo.flat_app]; simp [Fo.one, Fo.flat]
theorem rowF_out {F : FoS} {s : SlotM} (h : s ∉ F.all) : idxK (rowF F) s = -1 := idxK_notin (by rw [rowF_fst]; exact h)
theorem rowF_in {F : FoS} (hn : Fo.Nd F) {s : SlotM} : 0 ≤ idxK (rowF F) s ↔ s ∈ F.all := by
  by_cases h : s ∈ F.all
  · obtain ⟨A, e, B, hc⟩ := row_cut hn h s
    rw [hc.idx]; simp [h]
  · rw [rowF_out h]; simp [h]
theorem rowF_ren {F : FoS} {A C : List KnM} {o s : SlotM} {d : Int} (hn : Fo.Nd F) (hr : rowF F = A ++ (o, d) :: C) : rowF (F.map (ren o s)) = (rowF F).set A.length (s, d) := by
  have hnd : ((rowF F).map Prod.fst).Nodup := by rw [rowF_fst]; exact hn
  have e1 : rowF (F.map (ren o s)) = (rowF F).map fun k => (ren o s k.1, k.2) := by
    unfold rowF; rw [Fo.flat_mapG]; simp [List.map_map, Function.comp_def]
  have hid : ∀ l : List KnM, o ∉ l.map Prod.fst → l.map (fun k => (ren o s k.1, k.2)) = l := fun l hl => by
    conv => rhs; rw [← List.map_id l]
    refine List.map_congr_left fun k hk => ?_
    have : k.1 ≠ o := fun e => hl (List.mem_map.2 ⟨k, hk, e⟩)
    show (ren o s k.1, k.2) = k
    unfold ren; rw [if_neg this]
  rw [hr, List.map_append, List.map_cons, List.nodup_append, List.nodup_cons] at hnd
  rw [e1, hr, List.map_append, List.map_cons, hid A (fun hm => hnd.2.2 _ hm _ (List.mem_cons_self ..) rfl), hid C hnd.2.1.1]
  have : ren o s o = s := by unfold ren; rw [if_pos rfl]
  simp [this]
theorem kids_filter (f : FoS) (d : Nat) : ((f.flat d).map kr).filter (fun c => decide (c.2 = (d : Int))) = ((f.flat d).filter fun e => decide (e.2 = d)).map kr := by
  rw [List.filter_map]
  congr 1
  refine List.filter_congr fun e _ => ?_
  have : (((e.2 : Int)) = (d : Int)) ↔ e.2 = d := by omega
  simp [Function.comp_def, this]
/-- The document's tree at qb is the forest F. -/
def DtF (uS : Value) (F : FoS) (qb : Nat) (L : Hp) : Prop := DtrH uS (rowF F) qb L
end Go.Proofs.Ytpoamckpdpkpoaa
