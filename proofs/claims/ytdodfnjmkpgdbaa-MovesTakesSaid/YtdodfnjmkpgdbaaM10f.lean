/- Layer 10 in plain Lean, sixth part: two nodes of eight slots, taken out one by one. No condition. -/
import Derived.Test.YtdodfnjmkpgdbaaM10g
set_option linter.unusedVariables false
set_option linter.unusedSimpArgs false
set_option linter.unusedSectionVars false
namespace Go.Proofs.Ytdodfnjmkpgdbaa
open Go.SL

/-- Which nodes there are, and of how many slots. -/
def shapeL (l : List DN) : List (Nat × Nat) := l.map fun d => (d.id, d.caps.length)
theorem shape_set (l : List DN) (s : SlotM) (c : CapM) : shapeL (dsetC l s c) = shapeL l := by
  unfold dsetC
  cases e : dfind l s.1 with
  | none => rfl
  | some d =>
    dsimp only
    obtain ⟨i, hi, hd, hid⟩ := dfind_some e
    rw [hi, Int.toNat_natCast]
    unfold shapeL
    apply List.ext_getElem?
    intro j
    rw [List.getElem?_map, List.getElem?_map, List.getElem?_set]
    by_cases hij : i = j
    · subst hij
      rw [if_pos rfl, if_pos (d_lt hd), hd]; simp
    · rw [if_neg hij]
theorem shape_put (l : List DN) (s : SlotM) (c : CapM) : shapeL (dput l s c).2 = shapeL l := by
  unfold dput
  split
  · rfl
  · repeat' split
    all_goals first | rfl | exact shape_set l s c
theorem shape_take (l : List DN) (s : SlotM) : shapeL (dtake l s).2.2 = shapeL l := by
  unfold dtake
  split
  · rfl
  · split
    · rfl
    · exact shape_set l s CapM.zero
theorem shape_plant (p : PS) (s : SlotM) (c : CapM) : shapeL (mPlant p s c).2.l = shapeL p.l := shape_put _ _ _
theorem shape_child (p : PS) (o s : SlotM) (c : CapM) : shapeL (mChild p o s c).2.l = shapeL p.l := by
  unfold mChild; split
  · rfl
  · exact shape_put _ _ _
theorem shape_mint (p : PS) (s d : SlotM) (r b g n : Int) : shapeL (mMint p s d r b g n).2.l = shapeL p.l := by
  unfold mMint; split
  · rfl
  · split
    · rfl
    · exact shape_child _ _ _ _
theorem shape_copy (p : PS) (s d : SlotM) (r : Int) : shapeL (mCopy p s d r).2.l = shapeL p.l := shape_mint _ _ _ _ _ _ _
theorem shape_mtake (p : PS) (s : SlotM) : shapeL (mTake p s).2.2.l = shapeL p.l := shape_take _ _
theorem shape_len : ∀ l : List DN, (dfull l).length ≤ ((shapeL l).map Prod.snd).sum
  | [] => Nat.le_refl _
  | d :: l => by
    have := shape_len l
    have h1 := nodeFull_len d.id d.caps d.caps.length
    simp only [dfull, shapeL, List.flatMap_cons, List.length_append, List.map_cons, List.sum_cons] at this ⊢
    omega
theorem ps2_shape : shapeL (ps2 3 3).l = [(0, 8), (1, 8)] := by kernel_rfl
theorem nodeFull_none {id : Nat} {caps : List CapM} : ∀ {k : Nat}, nodeFull id caps k = [] → ∀ j, j < k → (caps[j]?.getD CapM.zero).kind = 0
  | 0, _, j, hj => absurd hj (Nat.not_lt_zero j)
  | k + 1, h, j, hj => by
    unfold nodeFull at h
    rw [List.append_eq_nil_iff] at h
    by_cases e : j = k
    · subst e
      refine Decidable.byContradiction fun hk => ?_
      rw [if_pos hk] at h
      exact absurd h.2 (by simp)
    · exact nodeFull_none h.1 j (by omega)
theorem all_empty {d : DN} (h : nodeFull d.id d.caps d.caps.length = []) : d.caps.all (fun c => decide (c.kind = 0)) = true := by
  rw [List.all_eq_true]
  intro c hc
  obtain ⟨j, hj, rfl⟩ := List.getElem_of_mem hc
  have := nodeFull_none h j hj
  rw [List.getElem?_eq_getElem hj] at this
  exact decide_eq_true this
/-- Both nodes are taken away. -/
theorem clear2 {l : List DN} (hs : shapeL l = [(0, 8), (1, 8)]) (hf : dfull l = []) : (ddrop l 0).1 = 0 ∧ (ddrop (ddrop l 0).2 1).1 = 0 := by
  unfold shapeL at hs
  match l, hs, hf with
  | [a, b], hs, hf =>
    simp only [List.map_cons, List.map_nil, List.cons.injEq, Prod.mk.injEq, and_true] at hs
    simp only [dfull, List.flatMap_cons, List.flatMap_nil, List.append_nil, List.append_eq_nil_iff] at hf
    have ha := all_empty hf.1
    have hb := all_empty hf.2
    have e0 : dfind [a, b] 0 = some a := by unfold dfind; simp [hs.1.1]
    have e1 : dfind [b] 1 = some b := by unfold dfind; simp [hs.2.1]
    have d0 : ddel [a, b] 0 = [b] := by
      unfold ddel dIds; simp [idxM, hs.1.1]
    have r0 : ddrop [a, b] 0 = (0, [b]) := by
      unfold ddrop; rw [e0]; dsimp only; rw [if_pos ha, d0]
    have r1 : (ddrop [b] 1).1 = 0 := by
      unfold ddrop; rw [e1]; dsimp only; rw [if_pos hb]
    rw [r0]; exact ⟨rfl, r1⟩
  | [], hs, _ => simp at hs
  | [_], hs, _ => simp at hs
  | _ :: _ :: _ :: _, hs, _ => simp at hs
theorem full_take_len {p : PS} (hp : POk p) {s : SlotM} (hs : s ∈ dfull p.l) : (dfull (mTake p s).2.2.l).length + 1 = (dfull p.l).length := by
  have hk := (mem_dfull hp.rel).1 hs
  show (dfull (dtake p.l s).2.2).length + 1 = _
  rw [dfull_take hp.rel hk]
  exact filter_ne_len (dfull_nodup hp.rel) hs
theorem kid_par2 {p : PS} (hp : POk p) {s c : SlotM} (hs : s ∈ dfull p.l) (hc : c ∈ ftKids p.F s) : ftPar (mTake p s).2.2.F c = ftPar p.F s ∧ ftParB (mTake p s).2.2.F c = ftParB p.F s := by
  have hk := (mem_dfull hp.rel).1 hs
  rw [take_F hp hk]
  exact kid_par hp.nd ((hp.on s).2 hk) hc
theorem take_ans {p : PS} (hp : POk p) {s : SlotM} (hs : s ∈ dfull p.l) : (mTake p s).1 = (dget p.l s).1 ∧ (mTake p s).2.1 = 0 :=
  ⟨take_fst hp.rel, (take_iff hp.rel).2 ((mem_dfull hp.rel).1 hs)⟩
theorem as_ints {els : List (List Value)} (h : ∀ x, x ∈ els → FlatV [some .i64] x) : ∃ l : List Int, els = l.map (fun x => [Value.int .i64 x]) ∧ ∀ o, o ∈ l → (fun _ => True) o :=
  map_of fun x hx => by
    obtain ⟨a, l, rfl, _, h2⟩ := (h x hx).int
    obtain rfl := h2.nil
    exact ⟨a, rfl, trivial⟩
end Go.Proofs.Ytdodfnjmkpgdbaa
