/- The program's tree, as a forest of slots: what each method answers and leaves. Condition: not more than 2^20 knots were made. -/
import Derived.Test.YtdodfnjmkpgdbaaM09g
import Derived.Test.YtdodfnjmkpgdbaaW09b
set_option linter.unusedVariables false
set_option linter.unusedSimpArgs false
set_option linter.unusedSectionVars false
namespace Go.Proofs.Ytdodfnjmkpgdbaa
open Go.SL
abbrev trP (tb : Nat) : Value := .pointer (some ⟨tb, 0, none⟩)
theorem tr_fNew : Tr Try.prog 43 [] [] (fun v L' => ∃ tb, v = trP tb ∧ TrF 0 .nil tb L') :=
  tr_treeNew.mono fun v L' ⟨tb, hv, h⟩ => ⟨tb, hv, _, .nil, tok_new, h, Nat.le_refl _, rfl⟩
theorem TAdd.root {n tb : Nat} {L : Hp} {T T' : TreeM} {G : Fo Nat} (hT : TOk T G) {s : SlotM} {e : Int} (h : TAdd T s none e T') (hL : TrH T' tb L) (hn : T.n ≤ n) : e = (ftRoot (G.map T.sl) s).1 ∧ TrF (n + 1) (ftRoot (G.map T.sl) s).2 tb L := by
  rcases h with ⟨i, h1, rfl, rfl⟩ | ⟨h1, rfl, t, rfl⟩
  · have := hT.in_all.2 ⟨i, h1⟩
    unfold ftRoot; rw [if_pos this]
    exact ⟨rfl, T', G, hT, hL, by omega, rfl⟩
  · have := hT.out_all.1 h1
    unfold ftRoot; rw [if_neg this]
    exact ⟨rfl, _, _, tok_root hT h1, hL, by show T.n + 1 ≤ _; omega, (more_rootS hT).symm⟩
section
variable {n : Nat} {F : FoS} {tb : Nat} {L : Hp} (hH : TrF n F tb L)
include hH
theorem TrF.nd : Fo.Nd F := by obtain ⟨T, G, hT, _, _, rfl⟩ := hH; exact hT.ndS
theorem TrF.len : F.all.length ≤ n := by
  obtain ⟨T, G, hT, _, hn, rfl⟩ := hH
  have := hT.all_len
  rw [Fo.all_map, List.length_map]; omega
theorem TrF.more {m : Nat} (h : n ≤ m) : TrF m F tb L := by
  obtain ⟨T, G, hT, hL, hn, e⟩ := hH
  exact ⟨T, G, hT, hL, Nat.le_trans hn h, e⟩
theorem tr_fHas (s : SlotM) : TrR Try.prog 74 [trP tb, slotV s] L (.bool (decide (s ∈ F.all))) := by
  obtain ⟨T, G, hT, hL, hn, rfl⟩ := hH
  exact (tr_tHas tb L T hL s).eq (by rw [hT.isS])
theorem tr_fPar (s : SlotM) : TrR Try.prog 60 [trP tb, slotV s] L (.tuple #[slotV (ftPar F s), .bool (ftParB F s)]) := by
  obtain ⟨T, G, hT, hL, hn, rfl⟩ := hH
  exact (tr_tParent tb L T hL hT.ix s).eq (by rw [hT.parS, hT.parB])
theorem tr_fKids (h : n ≤ 2 ^ 20) (s : SlotM) : Tr Try.prog 61 [trP tb, slotV s] L (fun u L' => ∃ K, Slc 38 2 u (ftKids F s).length (slotsCells (ftKids F s)) K ∧ L' = K ++ L) := by
  obtain ⟨T, G, hT, hL, hn, rfl⟩ := hH
  have := tr_tChildren tb L T hL hT.ix (by omega) s
  rw [hT.kidsS] at this; exact this
theorem tr_fKin (h : n ≤ 2 ^ 20) (s : SlotM) : Tr Try.prog 47 [trP tb, slotV s] L (fun u L' => ∃ K, Slc 38 2 u (ftKin F s).length (slotsCells (ftKin F s)) K ∧ L' = K ++ L) := by
  obtain ⟨T, G, hT, hL, hn, rfl⟩ := hH
  rw [← hT.kinS]
  unfold tkin
  cases e : tget s T.M with
  | none => exact (tr_tKin0 tb L T hL s e).mono fun u L' ⟨hu, hl⟩ => ⟨[], by rw [hu]; exact Slc.nil _ _, hl⟩
  | some i => exact tr_tKin1 tb L T hL G hT (by omega) s i e
theorem tr_fRoot (s : SlotM) : Tr Try.prog 46 [trP tb, slotV s] L (fun u L' => u = .int .i64 (ftRoot F s).1 ∧ TrF (n + 1) (ftRoot F s).2 tb L') := by
  obtain ⟨T, G, hT, hL, hn, rfl⟩ := hH
  refine (tr_tRoot tb L T hL hT.ix s).mono ?_
  rintro u L' ⟨e, T', rfl, ha, hl⟩
  obtain ⟨h1, h2⟩ := TAdd.root hT ha hl hn
  exact ⟨by rw [h1], h2⟩
theorem tr_fChild (h : n ≤ 2 ^ 20) (o s : SlotM) : Tr Try.prog 55 [trP tb, slotV o, slotV s] L (fun u L' => u = .int .i64 (ftChild F o s).1 ∧ TrF (n + 1) (ftChild F o s).2 tb L') := by
  obtain ⟨T, G, hT, hL, hn, rfl⟩ := hH
  refine (tr_tChild tb L T hL hT.ix (by omega) o s).mono ?_
  rintro u L' ⟨e, T', rfl, ha, hl⟩
  rcases ha with ⟨h1, rfl, rfl⟩ | ⟨j, h1, ⟨i, h2, rfl, rfl⟩ | ⟨h2, rfl, t, rfl⟩⟩
  · unfold ftChild; rw [if_neg (hT.out_all.1 h1)]
    exact ⟨rfl, _, G, hT, hl, by omega, rfl⟩
  · unfold ftChild; rw [if_pos (hT.in_all.2 ⟨j, h1⟩), if_pos (hT.in_all.2 ⟨i, h2⟩)]
    exact ⟨rfl, _, G, hT, hl, by omega, rfl⟩
  · unfold ftChild; rw [if_pos (hT.in_all.2 ⟨j, h1⟩), if_neg (hT.out_all.1 h2)]
    exact ⟨rfl, _, _, tok_child hT h2 (hT.mem h1), hl, by show T.n + 1 ≤ _; omega, (more_childS hT h1).symm⟩
theorem tr_fDrop (h : n ≤ 2 ^ 20) (s : SlotM) : Tr Try.prog 57 [trP tb, slotV s] L (fun u L' => u = .int .i64 (ftDrop F s).1 ∧ TrF n (ftDrop F s).2 tb L') := by
  obtain ⟨T, G, hT, hL, hn, rfl⟩ := hH
  refine (tr_tDrop tb L T hL hT.ix (by omega) s (fun x hx => hT.xk hx) (fun x j hx hp => (hT.xj hx hp).1)).mono ?_
  rintro u L' ⟨e, T', rfl, ha, hl⟩
  rcases ha with ⟨h1, rfl, rfl⟩ | ⟨i, h1, rfl, rfl⟩
  · unfold ftDrop; rw [if_neg (hT.out_all.1 h1)]
    exact ⟨rfl, _, G, hT, hl, by omega, rfl⟩
  · unfold ftDrop; rw [if_pos (hT.in_all.2 ⟨i, h1⟩)]
    exact ⟨rfl, _, _, tok_drop hT h1, hl, by show T.n ≤ _; omega, (gone_S hT h1).symm⟩
theorem tr_fMove (o s : SlotM) : Tr Try.prog 54 [trP tb, slotV o, slotV s] L (fun u L' => u = .int .i64 (ftMove F o s).1 ∧ TrF n (ftMove F o s).2 tb L') := by
  obtain ⟨T, G, hT, hL, hn, rfl⟩ := hH
  refine (tr_tMove tb L T hL hT.ix o s).mono ?_
  rintro u L' ⟨e, T', rfl, ha, hl⟩
  rcases ha with ⟨h1, rfl, rfl⟩ | ⟨i, h1, ⟨j, h2, rfl, rfl⟩ | ⟨h2, rfl, t, rfl⟩⟩
  · unfold ftMove; rw [if_neg (hT.out_all.1 h1)]
    exact ⟨rfl, _, G, hT, hl, by omega, rfl⟩
  · unfold ftMove; rw [if_pos (hT.in_all.2 ⟨i, h1⟩), if_pos (hT.in_all.2 ⟨j, h2⟩)]
    exact ⟨rfl, _, G, hT, hl, by omega, rfl⟩
  · unfold ftMove; rw [if_pos (hT.in_all.2 ⟨i, h1⟩), if_neg (hT.out_all.1 h2)]
    exact ⟨rfl, _, _, tok_move hT h1 h2, hl, by show T.n ≤ _; omega, (moved_S hT h1).symm⟩
end
end Go.Proofs.Ytdodfnjmkpgdbaa
