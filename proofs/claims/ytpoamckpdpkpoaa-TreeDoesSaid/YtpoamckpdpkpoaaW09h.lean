/- The document's tree, as a forest of slots: what each method answers and leaves. Condition: not more than 2^20 slots. -/
import Derived.Test.YtpoamckpdpkpoaaM09h
import Derived.Test.YtpoamckpdpkpoaaW09d
set_option linter.unusedVariables false
set_option linter.unusedSimpArgs false
set_option linter.unusedSectionVars false
namespace Go.Proofs.Ytpoamckpdpkpoaa
open Go.SL
abbrev dtQ (qb : Nat) : Value := .pointer (some ⟨qb, 0, none⟩)
section
variable {uS : Value} {F : FoS} {qb : Nat} {L : Hp} (hH : DtF uS F qb L) (hn : Fo.Nd F) (hl : F.all.length ≤ 2 ^ 20)
include hH hn hl
theorem tr_gHas (s : SlotM) : TrR Try.prog 71 [dtQ qb, slotV s] L (.bool (decide (s ∈ F.all))) :=
  (tr_dtHas uS qb L _ hH (by rw [rowF_len]; exact hl) s).eq (by simp only [rowF_in hn])
theorem tr_gRoot (s : SlotM) : Tr Try.prog 65 [dtQ qb, slotV s] L (fun u L' => u = .int .i64 (ftRoot F s).1 ∧ DtF uS (ftRoot F s).2 qb L') := by
  refine (tr_dtRoot uS qb L _ hH (by rw [rowF_len]; exact hl) s).mono ?_
  rintro u L' (⟨h, rfl, h2⟩ | ⟨h, rfl, h2⟩)
  · unfold ftRoot; rw [if_pos ((rowF_in hn).1 h)]; exact ⟨rfl, h2⟩
  · unfold ftRoot; rw [if_neg (fun e => h ((rowF_in hn).2 e))]; exact ⟨rfl, by unfold DtF; rw [rowF_root]; exact h2⟩
theorem tr_gChild (o s : SlotM) : Tr Try.prog 66 [dtQ qb, slotV o, slotV s] L (fun u L' => u = .int .i64 (ftChild F o s).1 ∧ DtF uS (ftChild F o s).2 qb L') := by
  have hl' : (rowF F).length ≤ 2 ^ 20 := by rw [rowF_len]; exact hl
  unfold ftChild
  by_cases ho : o ∈ F.all
  · rw [if_pos ho]
    obtain ⟨A, e, B, hc⟩ := row_cut hn ho s
    by_cases hs : s ∈ F.all
    · rw [if_pos hs]
      exact tr_dtChild1 uS qb L _ hH hl' o s A _ B _ hc.cut hc.idx ((rowF_in hn).2 hs)
    · rw [if_neg hs]
      refine (tr_dtChild2 uS qb L _ hH hl' o s A _ B _ hc.cut hc.idx (fun e => hs ((rowF_in hn).1 e)) ⟨by dsimp only; omega, by have := hc.small; dsimp only; omega⟩).mono ?_
      rintro u L' ⟨rfl, h2⟩
      exact ⟨rfl, by unfold DtF; rw [hc.child]; exact h2⟩
  · rw [if_neg ho]
    exact tr_dtChild0 uS qb L _ hH hl' o s (rowF_out ho)
theorem tr_gDrop (s : SlotM) : Tr Try.prog 67 [dtQ qb, slotV s] L (fun u L' => u = .int .i64 (ftDrop F s).1 ∧ DtF uS (ftDrop F s).2 qb L') := by
  have hl' : (rowF F).length ≤ 2 ^ 20 := by rw [rowF_len]; exact hl
  unfold ftDrop
  by_cases ho : s ∈ F.all
  · rw [if_pos ho]
    obtain ⟨A, e, B, hc⟩ := row_cut hn ho s
    refine (tr_dtDrop1 uS qb L _ hH hl' s A _ B _ hc.cut hc.idx (fun x hx => ?_)).mono ?_
    · obtain ⟨c, hc', rfl⟩ := List.mem_map.1 hx
      have h1 : c.1 ∈ F.all := by rw [← Fo.flat_fst F 0]; exact List.mem_map.2 ⟨c, hc', rfl⟩
      obtain ⟨A', e', B', hx'⟩ := row_cut hn h1 s
      have h2 := flat_dep hn hc'
      have := dep_lt h1
      show 0 ≤ (c.2 : Int) ∧ (c.2 : Int) ≤ 2 ^ 20
      omega
    · rintro u L' ⟨rfl, h2⟩
      refine ⟨rfl, ?_⟩
      unfold DtF
      rw [hc.gone, ← Fo.flat_shift]
      have e1 : (((F.sub s).flat (e + 1)).map kr).map dec1 = (((F.sub s).flat (e + 1)).map fun e => (e.1, e.2 - 1)).map kr := by
        rw [List.map_map, List.map_map]
        refine List.map_congr_left fun c hc' => ?_
        have := Fo.flat_ge _ _ _ hc'
        show (c.1, (c.2 : Int) - 1) = (c.1, ((c.2 - 1 : Nat) : Int))
        congr 1; omega
      rw [← e1]; exact h2
  · rw [if_neg ho]
    exact tr_dtDrop0 uS qb L _ hH hl' s (rowF_out ho)
theorem tr_gMove (o s : SlotM) : Tr Try.prog 69 [dtQ qb, slotV o, slotV s] L (fun u L' => u = .int .i64 (ftMove F o s).1 ∧ DtF uS (ftMove F o s).2 qb L') := by
  have hl' : (rowF F).length ≤ 2 ^ 20 := by rw [rowF_len]; exact hl
  unfold ftMove
  by_cases ho : o ∈ F.all
  · rw [if_pos ho]
    obtain ⟨A, e, B, hc⟩ := row_cut hn ho s
    by_cases hs : s ∈ F.all
    · rw [if_pos hs]
      exact tr_dtMove1 uS qb L _ hH hl' o s A.length _ hc.cut.at hc.idx ((rowF_in hn).2 hs)
    · rw [if_neg hs]
      refine (tr_dtMove2 uS qb L _ hH hl' o s A.length _ hc.cut.at hc.idx (fun e => hs ((rowF_in hn).1 e))).mono ?_
      rintro u L' ⟨rfl, h2⟩
      exact ⟨rfl, by unfold DtF; rw [rowF_ren hn hc.cut.row]; exact h2⟩
  · rw [if_neg ho]
    exact tr_dtMove0 uS qb L _ hH hl' o s (rowF_out ho)
theorem tr_gPar (s : SlotM) : TrR Try.prog 70 [dtQ qb, slotV s] L (.tuple #[slotV (ftPar F s), .bool (ftParB F s)]) := by
  have hl' : (rowF F).length ≤ 2 ^ 20 := by rw [rowF_len]; exact hl
  unfold ftPar ftParB
  by_cases ho : s ∈ F.all
  · obtain ⟨A, e, B, hc⟩ := row_cut hn ho s
    rcases hc.par with ⟨h1, h2, h3⟩ | ⟨j, A1, A2, h1, h2, h3⟩
    · rw [h1]
      exact tr_dtPar1 uS qb L _ hH hl' s A _ _ hc.cut.row hc.idx h3
    · rw [h1]
      exact tr_dtPar2 uS qb L _ hH hl' s A _ _ hc.cut.row hc.idx A1 A2 _ h2 (by dsimp only; omega) h3
  · rw [Fo.parO_no _ _ _ ho]
    exact tr_dtPar0 uS qb L _ hH hl' s (rowF_out ho)
theorem tr_gKin (s : SlotM) : Tr Try.prog 73 [dtQ qb, slotV s] L (fun u L' => ∃ K, Slc 31 2 u (ftKin F s).length (slotsCells (ftKin F s)) K ∧ L' = K ++ L) := by
  have hl' : (rowF F).length ≤ 2 ^ 20 := by rw [rowF_len]; exact hl
  unfold ftKin
  by_cases ho : s ∈ F.all
  · obtain ⟨A, e, B, hc⟩ := row_cut hn ho s
    have := tr_dtKin1 uS qb L _ hH hl' s A _ B _ hc.cut hc.idx
    rw [kr_fst, Fo.flat_fst] at this
    exact this
  · rw [Fo.sub_no _ _ ho]
    exact (tr_dtKin0 uS qb L _ hH hl' s (rowF_out ho)).mono fun u L' ⟨hu, e⟩ => ⟨[], by rw [hu]; exact Slc.nil _ _, e⟩
theorem tr_gKids (s : SlotM) : Tr Try.prog 72 [dtQ qb, slotV s] L (fun u L' => ∃ K, Slc 31 2 u (ftKids F s).length (slotsCells (ftKids F s)) K ∧ L' = K ++ L) := by
  have hl' : (rowF F).length ≤ 2 ^ 20 := by rw [rowF_len]; exact hl
  unfold ftKids
  by_cases ho : s ∈ F.all
  · obtain ⟨A, e, B, hc⟩ := row_cut hn ho s
    have := tr_dtKids1 uS qb L _ hH hl' s A _ B _ hc.cut hc.idx ⟨by dsimp only; omega, by have := hc.small; dsimp only; omega⟩
    have e1 : (((F.sub s).flat (e + 1)).map kr).filter (fun c => decide (c.2 = (e : Int) + 1)) = (((F.sub s).flat (e + 1)).filter fun c => decide (c.2 = e + 1)).map kr := by
      have := kids_filter (F.sub s) (e + 1)
      rw [← this]
      refine List.filter_congr fun c _ => ?_
      push_cast; rfl
    simp only [e1, kr_fst, Fo.flat_eq] at this
    exact this
  · rw [Fo.sub_no _ _ ho]
    exact (tr_dtKids0 uS qb L _ hH hl' s (rowF_out ho)).mono fun u L' ⟨hu, e⟩ => ⟨[], by rw [hu]; exact Slc.nil _ _, e⟩
end
end Go.Proofs.Ytpoamckpdpkpoaa
