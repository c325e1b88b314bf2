/- The program's store, as a row of nodes: what each method answers and leaves. No condition. -/
import Derived.Test.YtdodfnjmkpgdbaaM10
import Derived.Test.YtdodfnjmkpgdbaaW07c
set_option linter.unusedVariables false
set_option linter.unusedSimpArgs false
set_option linter.unusedSectionVars false
namespace Go.Proofs.Ytdodfnjmkpgdbaa
open Go.SL
abbrev stP (sb : Nat) : Value := .pointer (some ⟨sb, 0, none⟩)
theorem sf_new : Tr Try.prog 42 [] [] (fun v L' => ∃ sb, v = stP sb ∧ StF [] sb L') :=
  tr_slotsNew.mono fun v L' ⟨sb, S, hv, hl, hS⟩ => ⟨sb, hv, S, rel_new hS, hl⟩
section
variable {l : List DN} {sb : Nat} {L : Hp} (hH : StF l sb L)
include hH
theorem StF.len : l.length ≤ 64 := by obtain ⟨S, hR, _⟩ := hH; exact rel_len hR
theorem sf_get (s : SlotM) : TrR Try.prog 20 [stP sb, slotV s] L (.tuple #[(dget l s).1.v, .int .i64 (dget l s).2]) := by
  obtain ⟨S, hR, rfl⟩ := hH
  exact (tr_get sb S s hR.wf).eq (by rw [rel_get hR])
theorem sf_radix (x : Int) : TrR Try.prog 34 [stP sb, .int .i64 x] L (.int .i64 (dradix l x)) := by
  obtain ⟨S, hR, rfl⟩ := hH
  exact (tr_radix sb S x).eq (by rw [rel_radix hR])
theorem sf_count (k o : Int) : TrR Try.prog 41 [stP sb, .int .i64 k, .int .i64 o] L (.int .i64 (dcount l k o)) := by
  obtain ⟨S, hR, rfl⟩ := hH
  exact (tr_count sb S k o hR.wf hR.tidy).eq (by rw [rel_count hR])
theorem sf_full : Tr Try.prog 23 [stP sb] L (fun u L' => ∃ K, Slc 38 2 u (dfull l).length (slotsCells (dfull l)) K ∧ L' = K ++ L) := by
  obtain ⟨S, hR, rfl⟩ := hH
  rw [← rel_full hR]; exact tr_full sb S hR.wf
theorem sf_put (s : SlotM) (c : CapM) : Tr Try.prog 45 [stP sb, slotV s, c.v] L (fun u L' => u = .int .i64 (dput l s c).1 ∧ StF (dput l s c).2 sb L') := by
  obtain ⟨S, hR, rfl⟩ := hH
  obtain ⟨e, h2⟩ := rel_put hR s c
  exact (tr_put sb S s c hR.wf).mono fun v L' ⟨hv, hl⟩ => ⟨by rw [hv, e], _, h2, hl⟩
theorem sf_take (s : SlotM) : Tr Try.prog 53 [stP sb, slotV s] L (fun u L' => u = .tuple #[(dtake l s).1.v, .int .i64 (dtake l s).2.1] ∧ StF (dtake l s).2.2 sb L') := by
  obtain ⟨S, hR, rfl⟩ := hH
  obtain ⟨e, e2, h2⟩ := rel_take hR s
  exact (tr_take sb S s hR.wf).mono fun v L' ⟨hv, hl⟩ => ⟨by rw [hv, e, e2], _, h2, hl⟩
theorem sf_add (id r : Int) : Tr Try.prog 44 [stP sb, .int .i64 id, .int .i64 r] L (fun u L' => u = .int .i64 (dadd l id r).1 ∧ StF (dadd l id r).2 sb L') := by
  obtain ⟨S, hR, rfl⟩ := hH
  have e := rel_addErr hR id r
  refine (tr_add sb S id r).mono fun v L' ⟨hv, hl⟩ => ⟨by rw [hv, e]; rfl, ?_⟩
  rcases hl with ⟨h0, hl⟩ | ⟨h0, b, hl⟩
  · exact ⟨S, by unfold dadd; rw [if_neg (by rw [← e]; exact h0)]; exact hR, hl⟩
  · exact ⟨_, by unfold dadd; rw [if_pos (by rw [← e]; exact h0)]; exact rel_add hR h0 (insAt_place l) b 0, hl⟩
theorem sf_drop (id : Int) : Tr Try.prog 62 [stP sb, .int .i64 id] L (fun u L' => u = .int .i64 (ddrop l id).1 ∧ StF (ddrop l id).2 sb L') := by
  obtain ⟨S, hR, rfl⟩ := hH
  refine (tr_sdrop sb S id hR.wf).mono fun v L' ⟨hv, hl⟩ => ?_
  unfold ddrop
  cases h : dfind l id with
  | none =>
    rw [rel_drop_none hR h] at hv hl
    exact ⟨hv, S, hR, hl⟩
  | some d =>
    dsimp only
    by_cases hd : dempty d
    · rw [rel_drop_empty hR h hd] at hv hl
      rw [if_pos (dempty_all.1 hd)]
      exact ⟨hv, _, rel_del hR h, hl⟩
    · rw [rel_drop_full hR h hd] at hv hl
      rw [if_neg (fun e => hd (dempty_all.2 e))]
      exact ⟨hv, S, hR, hl⟩
end
end Go.Proofs.Ytdodfnjmkpgdbaa
