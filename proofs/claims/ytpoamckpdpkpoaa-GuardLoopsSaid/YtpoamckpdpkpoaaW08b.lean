/- Walks of GuardLoops and GuardLevels: each returns true, whatever the input. No condition. -/
import Derived.Test.YtpoamckpdpkpoaaM08c
import Derived.Test.YtpoamckpdpkpoaaW08
set_option linter.unusedVariables false
set_option linter.unusedSimpArgs false
namespace Go.Proofs.Ytpoamckpdpkpoaa
open Go.SL

set_option maxHeartbeats 2000000 in
theorem tr_guardLoops (radix : Int) (p0 : Nat) (d0 : Int) (hp0 : p0 < 2 ^ 64) : TrR Try.prog 10 [.int .i64 radix, .int .u64 p0, .int .i64 d0] ([]) (.bool true) := by
  obtain ⟨r, hr⟩ : ∃ r, r = 1 + uI radix % 4 := ⟨_, rfl⟩
  obtain ⟨d, hd⟩ : ∃ d, d = 1 + uI d0 % 16 := ⟨_, rfl⟩
  obtain ⟨p, hp⟩ : ∃ p, p = p0 % 2 ^ d := ⟨_, rfl⟩
  have hpd := Nat.two_pow_pos d
  have hpr := Nat.two_pow_pos r
  have hpl : p < 2 ^ d := by rw [hp]; exact Nat.mod_lt _ hpd
  have hpI : (p0 : Int).tmod ((2 ^ d : Nat) : Int) = (p : Int) := by rw [hp]; exact tmod_nat rfl
  have h2d : 2 ^ d ≤ 2 ^ 16 := Nat.pow_le_pow_right (by omega) (by omega)
  have h2r : 2 ^ r ≤ 2 ^ 4 := Nat.pow_le_pow_right (by omega) (by omega)
  refine Tr.enter Try.func10 rfl Try.ntmps10 rfl (fun W F => ?_)
  refine Wp.app ?_
  refine Wp.seq ?_
  refine Wp.region ?_
  refine Ops.pv (pv_assign rfl) rfl ?_
  refine Ops.nil ?_
  refine Ends.seq ?_
  refine Wp.seq ?_
  refine Wp.seq ?_
  refine Wp.region ?_
  refine Ops.ef rfl (ef_callr (tr_works) rfl rfl) ?_
  rintro _ _ ⟨rfl, rfl⟩
  rename_i F
  first | refine Ops.pv (pv_not_dec rfl) rfl ?_ | refine Ops.pv (pv_not rfl) rfl ?_
  refine Ops.nil ?_
  refine Ends.seq ?_
  refine Wp.cond_false rfl ?_
  refine Wp.skip ?_
  refine Ends.seq ?_
  refine Wp.seq ?_
  refine Wp.region ?_
  refine Ops.pv (pv_move rfl) rfl ?_
  refine Ops.pv (pv_conv rfl (uI_eq radix)) rfl ?_
  refine Ops.pv (pv_rem rfl rfl (by decide) (tmod_nat (b := 4) rfl)) rfl ?_
  first | refine Ops.pv (pv_conv rfl (w64 (by omega) (by omega))) rfl ?_ | refine Ops.pv (pv_conv rfl rfl) rfl ?_
  refine Ops.pv (pv_add rfl rfl (w64n (k := r) (by omega) (by omega))) rfl ?_
  refine Ops.pv (pv_move rfl) rfl ?_
  refine Ops.pv (pv_conv rfl (uI_eq d0)) rfl ?_
  refine Ops.pv (pv_rem rfl rfl (by decide) (tmod_nat (b := 16) rfl)) rfl ?_
  first | refine Ops.pv (pv_conv rfl (w64 (by omega) (by omega))) rfl ?_ | refine Ops.pv (pv_conv rfl rfl) rfl ?_
  refine Ops.pv (pv_add rfl rfl (w64n (k := d) (by omega) (by omega))) rfl ?_
  refine Ops.pv (pv_assign rfl) rfl ?_
  refine Ops.pv (pv_assign rfl) rfl ?_
  refine Ops.nil ?_
  refine Ends.seq ?_
  refine Wp.seq ?_
  refine Wp.region ?_
  refine Ops.pv (pv_move rfl) rfl ?_
  refine Ops.pv (pv_move rfl) rfl ?_
  refine Ops.pv (pv_shl rfl rfl (by omega) (shl1 (by omega))) rfl ?_
  refine Ops.pv (pv_rem rfl rfl (by omega) hpI) rfl ?_
  refine Ops.pv (pv_assign rfl) rfl ?_
  refine Ops.nil ?_
  refine Ends.seq ?_
  refine Wp.seq ?_
  refine Wp.region ?_
  refine Ops.ef rfl (ef_call (tr_slotsNew) rfl rfl) ?_
  rintro _ _ ⟨_, _, ⟨sb1, S1, rfl, rfl, hS1⟩, rfl, rfl⟩
  refine Ops.app ?_
  refine Ops.pv (pv_assign rfl) rfl ?_
  refine Ops.nil ?_
  refine Ends.seq ?_
  refine Wp.seq ?_
  refine Wp.seq ?_
  refine Wp.region ?_
  refine Ops.pv (pv_move rfl) rfl ?_
  refine Ops.pv (pv_move rfl) rfl ?_
  refine Ops.ef rfl (ef_call (tr_add_new sb1 S1 hS1 1 r (by decide) (by decide) (by omega) (by omega)) rfl rfl) ?_
  rintro _ _ ⟨_, _, ⟨rfl, b1, rfl⟩, rfl, rfl⟩
  refine Ops.app ?_
  refine Ops.pv (pv_neq rfl rfl) rfl ?_
  refine Ops.nil ?_
  refine Ends.seq ?_
  refine Wp.cond_false rfl ?_
  refine Wp.skip ?_
  refine Ends.seq ?_
  refine Wp.seq ?_
  refine Wp.region ?_
  refine Ops.pv (pv_build rfl) rfl ?_
  refine Ops.ef rfl (ef_allocK tyZ29 rfl) ?_
  rintro _ _ ⟨b2, rfl, rfl⟩
  refine Ops.ef rfl (ef_storeK rfl rfl rfl rfl) ?_
  rintro _ _ ⟨rfl, rfl⟩
  refine Ops.nil ?_
  refine Ends.seq ?_
  refine Wp.seq ?_
  refine Wp.seq ?_
  refine Wp.region ?_
  refine Ops.pv (pv_assign rfl) rfl ?_
  refine Ops.nil ?_
  refine Ends.seq ?_
  refine Wp.block ?_
  refine Wp.loop (σ := Nat × StoreM) (fun x => [(0, .int .i64 r), (1, .int .u64 p), (2, .int .i64 d), (6, .bool false), (7, .pointer (some ⟨sb1, 0, none⟩)), (8, .pointer (some ⟨b2, 0, none⟩)), (9, .int .i64 x.1)]) (fun x => (b2, .cells meC.cells.toArray 29) :: (storeHp sb1 x.2 ++ F)) (fun x => x.1 ≤ 2 ^ r ∧ x.2.Wf ∧ x.2.radix 1 = (r : Int) ∧ ∀ j : Nat, j < 2 ^ r → x.2.cap? (1, (j : Int)) = some (if j < x.1 then meC else CapM.zero)) (fun x => 2 ^ r - x.1) (0, S1.addNode 1 b1 r) ?_ (by exact ⟨rfl, rfl, rfl, rfl, rfl, rfl, rfl, trivial⟩) (by exact fun w ho => Drop.own ho) ?_
  · refine ⟨Nat.zero_le _, add_wf hS1 1 b1 r (by decide) (by decide) (by omega) (by omega), by rw [add_radix hS1]; rfl, fun j hj => ?_⟩
    rw [addNode_cap (by rw [hS1]; rfl)]
    dsimp only
    rw [if_pos rfl, if_pos (by omega), if_neg (by omega)]
  rintro ⟨i, S⟩ K ⟨hi, hwf, hrr, hcap⟩ hK
  dsimp only at hi hwf hrr hcap hK ⊢
  refine Wp.seq ?_
  refine Wp.seq ?_
  refine Wp.region ?_
  refine Ops.pv (pv_move rfl) rfl ?_
  refine Ops.pv (pv_move rfl) rfl ?_
  refine Ops.pv (pv_shl rfl rfl (by omega) (shw1 (by omega))) rfl ?_
  refine Ops.pv (pv_lss rfl rfl) rfl ?_
  refine Ops.nil ?_
  refine Ends.seq ?_
  refine Wp.cond_dect rfl (fun h1 => ?_) (fun h1 => ?_)
  · have hz : S.cap? (1, (i : Int)) = some CapM.zero := by rw [hcap i (by omega), if_neg (by omega)]
    refine Wp.skip ?_
    refine Ends.seq ?_
    refine Wp.seq ?_
    refine Wp.block ?_
    refine Wp.seq ?_
    refine Wp.region ?_
    refine Ops.pv (pv_move rfl) rfl ?_
    refine Ops.pv (pv_move rfl) rfl ?_
    refine Ops.pv (pv_build rfl) rfl ?_
    refine Ops.pv (pv_loadK [_, _, _, _, _, _] rfl rfl rfl ⟨rfl, rfl, rfl, rfl, rfl, rfl, trivial⟩) rfl ?_
    refine Ops.ef rfl (ef_call (tr_put_ok sb1 S (1, (i : Int)) meC CapM.zero hwf hz rfl (by decide) (by decide)) rfl rfl) ?_
    rintro _ _ ⟨_, _, ⟨rfl, rfl⟩, rfl, rfl⟩
    refine Ops.app ?_
    refine Ops.pv (pv_neq rfl rfl) rfl ?_
    refine Ops.nil ?_
    refine Ends.seq ?_
    refine Wp.cond_false rfl ?_
    refine Wp.skip ?_
    refine Ends.block_normal ?_
    refine Ends.seq ?_
    refine Wp.region ?_
    refine Ops.pv (pv_move rfl) rfl ?_
    first | refine Ops.pv (pv_add rfl rfl (w64 (by omega) (by omega))) rfl ?_ | refine Ops.pv (pv_add rfl rfl rfl) rfl ?_
    refine Ops.pv (pv_assign rfl) rfl ?_
    refine Ops.nil ?_
    refine Ends.goes ?_
    refine Goes.back (hK (i + 1, S.setCap (1, (i : Int)) meC) ⟨?_, ?_, ?_, ?_⟩ ?_) ⟨rfl, rfl, rfl, rfl, rfl, rfl, rfl, trivial⟩
    · dsimp only; omega
    · exact setCap_wf hz _ hwf
    · dsimp only; rw [setCap_radix hz, hrr]
    · intro j hj
      dsimp only
      rw [setCap_cap hz]
      by_cases hji : j = i
      · rw [if_pos (by rw [hji]), if_pos (by omega)]
      · rw [if_neg (fun e => hji (by have := congrArg Prod.snd e; dsimp only at this; omega)), hcap j hj]
        by_cases hlt : j < i
        · rw [if_pos hlt, if_pos (by omega)]
        · rw [if_neg hlt, if_neg (by omega)]
    · dsimp only; omega
  · obtain rfl : i = 2 ^ r := by omega
    have hall : ∀ j : Nat, j < 2 ^ r → (S.get (1, (j : Int))).1 = meC := fun j hj => by unfold StoreM.get; rw [hcap j hj, if_pos hj]
    refine Wp.exit ?_
    refine Ends.then_exit ?_
    refine Ends.then_exit ?_
    refine Ends.block_hit ?_
    refine Ends.seq ?_
    refine Wp.seq ?_
    refine Wp.region ?_
    refine Ops.pv (pv_move rfl) rfl ?_
    refine Ops.pv (pv_loadK [_, _, _, _, _, _] rfl rfl rfl ⟨rfl, rfl, rfl, rfl, rfl, rfl, trivial⟩) rfl ?_
    refine Ops.pv (pv_move rfl) rfl ?_
    refine Ops.pv (pv_move rfl) rfl ?_
    refine Ops.ef rfl (ef_callr ((tr_find sb1 S meC p (d : Int) hwf (by omega)).eq (r' := .tuple #[slotV (if d % r = 0 then ((1, ((p % 2 ^ r : Nat) : Int)), 0) else ((0, 0), 6) : SlotM × Int).1, .int .i64 (if d % r = 0 then ((1, ((p % 2 ^ r : Nat) : Int)), 0) else ((0, 0), 6) : SlotM × Int).2]) (by rw [find_loops hrr (by omega) hall (by omega) (by omega) hpl])) rfl rfl) ?_
    rintro _ _ ⟨rfl, rfl⟩
    refine Ops.pv (pv_move rfl) rfl ?_
    refine Ops.pv (pv_extract rfl rfl) rfl ?_
    refine Ops.pv (pv_extract rfl rfl) rfl ?_
    refine Ops.ef rfl (ef_allocK tyZ31 rfl) ?_
    rintro _ _ ⟨b3, rfl, rfl⟩
    refine Ops.ef rfl (ef_storeK rfl rfl rfl rfl) ?_
    rintro _ _ ⟨rfl, rfl⟩
    refine Ops.pv (pv_assign rfl) rfl ?_
    refine Ops.nil ?_
    refine Ends.seq ?_
    refine Wp.seq ?_
    refine Wp.seq ?_
    refine Wp.region ?_
    refine Ops.pv (pv_move rfl) rfl ?_
    refine Ops.pv (pv_move rfl) rfl ?_
    refine Ops.pv (pv_rem rfl rfl (by omega) (tmod_nat rfl)) rfl ?_
    refine Ops.pv (pv_neq rfl rfl) rfl ?_
    refine Ops.nil ?_
    refine Ends.seq ?_
    refine Wp.cond_dect rfl (fun hne => ?_) (fun hne => ?_)
    · have hdr : ¬ d % r = 0 := by omega
      refine Wp.seq ?_
      refine Wp.region ?_
      refine Ops.pv (pv_move rfl) rfl ?_
      refine Ops.pv ((pv_eql rfl rfl).tru (by rw [if_neg hdr])) rfl ?_
      refine Ops.pv (pv_assign rfl) rfl ?_
      refine Ops.nil ?_
      refine Ends.seq ?_
      refine Wp.ret ?_
      refine Ends.then_ret ?_
      exact Ends.ret (res1 rfl rfl) ⟨rfl, rfl⟩
    · have hdr : d % r = 0 := by omega
      refine Wp.skip ?_
      refine Ends.seq ?_
      refine Wp.seq ?_
      refine AnyH.startL 13 rfl ?_
      refine AnyH.take 0 rfl (by kernel_rfl) (by kernel_rfl) (by kernel_rfl) PF.pf rfl (pv_move rfl) rfl ?_
      refine AnyH.take 1 rfl (by kernel_rfl) (by kernel_rfl) (by kernel_rfl) PF.pf rfl ((pv_eql rfl rfl).tru (by rw [if_pos hdr])) rfl ?_
      refine AnyH.take 2 rfl (by kernel_rfl) (by kernel_rfl) (by kernel_rfl) PF.pf rfl (pv_move rfl) rfl ?_
      refine AnyH.take 3 rfl (by kernel_rfl) (by kernel_rfl) (by kernel_rfl) PF.pf ⟨_, _, rfl, rfl, rfl⟩ (pv_loadK [_, _] rfl rfl rfl ⟨rfl, rfl, trivial⟩) rfl ?_
      refine AnyH.take 4 rfl (by kernel_rfl) (by kernel_rfl) (by kernel_rfl) PF.pf ⟨_, _, rfl, rfl, rfl⟩ (pv_move rfl) rfl ?_
      refine AnyH.take 5 rfl (by kernel_rfl) (by kernel_rfl) (by kernel_rfl) PF.pf ⟨_, _, rfl, rfl, rfl⟩ (pv_move rfl) rfl ?_
      refine AnyH.take 6 rfl (by kernel_rfl) (by kernel_rfl) (by kernel_rfl) PF.pf ⟨_, _, rfl, rfl, rfl⟩ (pv_shl rfl rfl (by omega) (shl1 (by omega))) rfl ?_
      refine AnyH.take 7 rfl (by kernel_rfl) (by kernel_rfl) (by kernel_rfl) PF.pf ⟨_, _, rfl, rfl, rfl⟩ (pv_rem rfl rfl (by omega) (tmod_nat rfl)) rfl ?_
      refine AnyH.take 8 rfl (by kernel_rfl) (by kernel_rfl) (by kernel_rfl) PF.pf ⟨_, _, rfl, rfl, rfl⟩ (pv_conv rfl (w64n (k := p % 2 ^ r) rfl (by have := Nat.mod_lt p hpr; omega))) rfl ?_
      refine AnyH.take 9 rfl (by kernel_rfl) (by kernel_rfl) (by kernel_rfl) PF.pf ⟨_, _, rfl, rfl, rfl⟩ (pv_build rfl) rfl ?_
      refine AnyH.take 10 rfl (by kernel_rfl) (by kernel_rfl) (by kernel_rfl) PF.pf ⟨_, _, rfl, rfl, rfl⟩ ((pv_eql_slot (a := (if d % r = 0 then ((1, ((p % 2 ^ r : Nat) : Int)), 0) else ((0, 0), 6) : SlotM × Int).1) (b := (1, ((p % 2 ^ r : Nat) : Int))) rfl rfl).tru (by rw [if_pos hdr])) rfl ?_
      refine AnyH.take 11 rfl (by kernel_rfl) (by kernel_rfl) (by kernel_rfl) PF.pf rfl (pv_pick_true rfl rfl) rfl ?_
      refine AnyH.take 12 rfl (by kernel_rfl) (by kernel_rfl) (by kernel_rfl) PF.pf rfl (pv_assign rfl) rfl ?_
      refine AnyH.done (by kernel_rfl) ?_
      refine Ends.seq ?_
      refine Wp.ret ?_
      exact Ends.ret (res1 rfl rfl) ⟨rfl, rfl⟩

set_option maxHeartbeats 2000000 in
theorem tr_guardLevels (a0 b0 : Int) (g0 h0 : Nat) (at0 : SlotM) (hg0 : g0 < 2 ^ 64) (hh0 : h0 < 2 ^ 64) : TrR Try.prog 9 [.int .i64 a0, .int .i64 b0, .int .u64 g0, .int .u64 h0, slotV at0] ([]) (.bool true) := by
  obtain ⟨a, ha⟩ : ∃ a, a = 1 + uI a0 % 3 := ⟨_, rfl⟩
  obtain ⟨b, hb⟩ : ∃ b, b = 1 + uI b0 % 3 := ⟨_, rfl⟩
  obtain ⟨g, hg⟩ : ∃ g, g = g0 % 8 := ⟨_, rfl⟩
  obtain ⟨h, hh⟩ : ∃ h, h = h0 % 4 := ⟨_, rfl⟩
  obtain ⟨i, hi⟩ : ∃ i, i = uI at0.1 % 2 ^ a := ⟨_, rfl⟩
  obtain ⟨k, hk⟩ : ∃ k, k = uI at0.2 % 2 ^ b := ⟨_, rfl⟩
  have hpa := Nat.two_pow_pos a
  have hpb := Nat.two_pow_pos b
  have hil : i < 2 ^ a := by rw [hi]; exact Nat.mod_lt _ hpa
  have hkl : k < 2 ^ b := by rw [hk]; exact Nat.mod_lt _ hpb
  have hgI : (g0 : Int).tmod 8 = (g : Int) := by rw [hg]; exact tmod_nat (b := 8) rfl
  have hhI : (h0 : Int).tmod 4 = (h : Int) := by rw [hh]; exact tmod_nat (b := 4) rfl
  have hiI : (uI at0.1 : Int).tmod ((2 ^ a : Nat) : Int) = (i : Int) := by rw [hi]; exact tmod_nat rfl
  have hkI : (uI at0.2 : Int).tmod ((2 ^ b : Nat) : Int) = (k : Int) := by rw [hk]; exact tmod_nat rfl
  have h2a : 2 ^ a ≤ 2 ^ 3 := Nat.pow_le_pow_right (by omega) (by omega)
  have h2b : 2 ^ b ≤ 2 ^ 3 := Nat.pow_le_pow_right (by omega) (by omega)
  have h22 : 2 ^ (2 + b) ≤ 2 ^ 5 := Nat.pow_le_pow_right (by omega) (by omega)
  have hga : g * 2 ^ a ≤ 8 * 2 ^ 3 := Nat.mul_le_mul (by omega) h2a
  have hgi : (g * 2 ^ a + i) * 2 ^ (2 + b) ≤ 72 * 2 ^ 5 := Nat.mul_le_mul (by omega) h22
  have hhb : h * 2 ^ b ≤ 4 * 2 ^ 3 := Nat.mul_le_mul (by omega) h2b
  refine Tr.enter Try.func9 rfl Try.ntmps9 rfl (fun W F => ?_)
  refine Wp.app ?_
  refine Wp.seq ?_
  refine Wp.region ?_
  refine Ops.ef rfl (ef_boxK rfl rfl) ?_
  rintro _ _ ⟨b1, rfl, rfl⟩
  refine Ops.pv (pv_assign rfl) rfl ?_
  refine Ops.nil ?_
  refine Ends.seq ?_
  refine Wp.seq ?_
  refine Wp.seq ?_
  refine Wp.region ?_
  refine Ops.ef rfl (ef_callr (tr_works) rfl rfl) ?_
  rintro _ _ ⟨rfl, rfl⟩
  first | refine Ops.pv (pv_not_dec rfl) rfl ?_ | refine Ops.pv (pv_not rfl) rfl ?_
  refine Ops.nil ?_
  refine Ends.seq ?_
  refine Wp.cond_false rfl ?_
  refine Wp.skip ?_
  refine Ends.seq ?_
  refine Wp.seq ?_
  refine Wp.region ?_
  refine Ops.pv (pv_move rfl) rfl ?_
  refine Ops.pv (pv_conv rfl (uI_eq a0)) rfl ?_
  refine Ops.pv (pv_rem rfl rfl (by decide) (tmod_nat (b := 3) rfl)) rfl ?_
  first | refine Ops.pv (pv_conv rfl (w64 (by omega) (by omega))) rfl ?_ | refine Ops.pv (pv_conv rfl rfl) rfl ?_
  refine Ops.pv (pv_add rfl rfl (w64n (k := a) (by omega) (by omega))) rfl ?_
  refine Ops.pv (pv_move rfl) rfl ?_
  refine Ops.pv (pv_conv rfl (uI_eq b0)) rfl ?_
  refine Ops.pv (pv_rem rfl rfl (by decide) (tmod_nat (b := 3) rfl)) rfl ?_
  first | refine Ops.pv (pv_conv rfl (w64 (by omega) (by omega))) rfl ?_ | refine Ops.pv (pv_conv rfl rfl) rfl ?_
  refine Ops.pv (pv_add rfl rfl (w64n (k := b) (by omega) (by omega))) rfl ?_
  refine Ops.pv (pv_assign rfl) rfl ?_
  refine Ops.pv (pv_assign rfl) rfl ?_
  refine Ops.nil ?_
  refine Ends.seq ?_
  refine Wp.seq ?_
  refine Wp.region ?_
  refine Ops.pv (pv_move rfl) rfl ?_
  refine Ops.pv (pv_rem rfl rfl (by decide) hgI) rfl ?_
  refine Ops.pv (pv_move rfl) rfl ?_
  refine Ops.pv (pv_rem rfl rfl (by decide) hhI) rfl ?_
  refine Ops.pv (pv_assign rfl) rfl ?_
  refine Ops.pv (pv_assign rfl) rfl ?_
  refine Ops.nil ?_
  refine Ends.seq ?_
  refine Wp.seq ?_
  refine AnyH.startL 16 rfl ?_
  first | refine AnyH.take 0 rfl (by kernel_rfl) (by kernel_rfl) (by kernel_rfl) PF.pf rfl (pv_fieldAddr0 rfl rfl) rfl ?_ | refine AnyH.take 0 rfl (by kernel_rfl) (by kernel_rfl) (by kernel_rfl) PF.pf rfl (pv_fieldAddr rfl rfl) rfl ?_
  refine AnyH.take 1 rfl (by kernel_rfl) (by kernel_rfl) (by kernel_rfl) PF.pf rfl (pv_load rfl rfl rfl) rfl ?_
  refine AnyH.take 2 rfl (by kernel_rfl) (by kernel_rfl) (by kernel_rfl) PF.pf rfl (pv_conv rfl (uI_eq at0.1)) rfl ?_
  refine AnyH.take 3 rfl (by kernel_rfl) (by kernel_rfl) (by kernel_rfl) PF.pf rfl (pv_move rfl) rfl ?_
  refine AnyH.take 4 rfl (by kernel_rfl) (by kernel_rfl) (by kernel_rfl) PF.pf rfl (pv_shl rfl rfl (by omega) (shl1 (by omega))) rfl ?_
  refine AnyH.take 5 rfl (by kernel_rfl) (by kernel_rfl) (by kernel_rfl) PF.pf rfl (pv_rem rfl rfl (by omega) hiI) rfl ?_
  refine AnyH.take 6 rfl (by kernel_rfl) (by kernel_rfl) (by kernel_rfl) PF.pf rfl (pv_conv rfl (w64n (k := i) rfl (by omega))) rfl ?_
  first | refine AnyH.take 7 rfl (by kernel_rfl) (by kernel_rfl) (by kernel_rfl) PF.pf rfl (pv_fieldAddr0 rfl rfl) rfl ?_ | refine AnyH.take 7 rfl (by kernel_rfl) (by kernel_rfl) (by kernel_rfl) PF.pf rfl (pv_fieldAddr rfl rfl) rfl ?_
  refine AnyH.take 8 rfl (by kernel_rfl) (by kernel_rfl) (by kernel_rfl) PF.pf rfl (pv_load rfl rfl rfl) rfl ?_
  refine AnyH.take 9 rfl (by kernel_rfl) (by kernel_rfl) (by kernel_rfl) PF.pf rfl (pv_conv rfl (uI_eq at0.2)) rfl ?_
  refine AnyH.take 10 rfl (by kernel_rfl) (by kernel_rfl) (by kernel_rfl) PF.pf rfl (pv_move rfl) rfl ?_
  refine AnyH.take 11 rfl (by kernel_rfl) (by kernel_rfl) (by kernel_rfl) PF.pf rfl (pv_shl rfl rfl (by omega) (shl1 (by omega))) rfl ?_
  refine AnyH.take 12 rfl (by kernel_rfl) (by kernel_rfl) (by kernel_rfl) PF.pf rfl (pv_rem rfl rfl (by omega) hkI) rfl ?_
  refine AnyH.take 13 rfl (by kernel_rfl) (by kernel_rfl) (by kernel_rfl) PF.pf rfl (pv_conv rfl (w64n (k := k) rfl (by omega))) rfl ?_
  refine AnyH.take 14 rfl (by kernel_rfl) (by kernel_rfl) (by kernel_rfl) PF.pf rfl (pv_assign rfl) rfl ?_
  refine AnyH.take 15 rfl (by kernel_rfl) (by kernel_rfl) (by kernel_rfl) PF.pf rfl (pv_assign rfl) rfl ?_
  refine AnyH.done (by kernel_rfl) ?_
  refine Ends.seq ?_
  refine Wp.seq ?_
  refine Wp.region ?_
  refine Ops.ef rfl (ef_call (tr_slotsNew) rfl rfl) ?_
  rintro _ _ ⟨_, _, ⟨sb1, S1, rfl, rfl, hS1⟩, rfl, rfl⟩
  refine Ops.app ?_
  refine Ops.pv (pv_assign rfl) rfl ?_
  refine Ops.nil ?_
  refine Ends.seq ?_
  refine Wp.seq ?_
  refine Wp.seq ?_
  refine Wp.region ?_
  refine Ops.pv (pv_move rfl) rfl ?_
  refine Ops.pv (pv_move rfl) rfl ?_
  refine Ops.ef rfl (ef_call (tr_add_new sb1 S1 hS1 1 a (by decide) (by decide) (by omega) (by omega)) rfl rfl) ?_
  rintro _ _ ⟨_, _, ⟨rfl, b2, rfl⟩, rfl, rfl⟩
  refine Ops.app ?_
  have hn2 : nget 2 (S1.addNode 1 b2 a).nodes = none := by rw [add_nget hS1]; rfl
  refine Ops.pv (pv_neq rfl rfl) rfl ?_
  refine Ops.pv (pv_move rfl) rfl ?_
  refine Ops.pvg ⟨_, _, rfl, rfl, rfl⟩ (pv_move rfl) rfl ?_
  refine Ops.pvg ⟨_, _, rfl, rfl, rfl⟩ (pv_move rfl) rfl ?_
  refine Ops.efg ⟨_, _, rfl, rfl, rfl⟩ (ef_call (tr_add_ok (S := S1.addNode 1 b2 a) (id := 2) (r := b) hn2 sb1 (by decide) (by decide) (by omega) (by omega)) rfl rfl) ?_
  rintro _ _ ⟨_, _, ⟨rfl, b3, rfl⟩, rfl, rfl⟩
  refine Ops.app ?_
  refine Ops.pvg ⟨_, _, rfl, rfl, rfl⟩ (pv_neq rfl rfl) rfl ?_
  refine Ops.pv (pv_pick_false rfl rfl) rfl ?_
  refine Ops.pv (pv_move rfl) rfl ?_
  have hwA := add_wf hS1 1 b2 a (by decide) (by decide) (by omega) (by omega)
  have hwB := addNode_wf hn2 b3 b hwA (by decide) (by decide) (by omega) (by omega)
  have hcB : ((S1.addNode 1 b2 a).addNode 2 b3 b).cap? (1, (i : Int)) = some CapM.zero := by
    rw [addNode_cap hn2]; dsimp only; rw [if_neg (by decide), addNode_cap (by rw [hS1]; rfl)]; dsimp only; rw [if_pos rfl, if_pos (by omega)]
  have hwC := setCap_wf hcB ⟨2, 2, 0, 0, h, (2 : Nat)⟩ hwB
  have hlev := @levels (((S1.addNode 1 b2 a).addNode 2 b3 b).setCap (1, (i : Int)) ⟨2, 2, 0, 0, h, (2 : Nat)⟩) a b g h i k (by rw [setCap_radix hcB, addNode_radix hn2, if_neg (by decide), add_radix hS1]; rfl) (by rw [setCap_radix hcB, addNode_radix hn2]; rfl) (by omega) (by omega) (by omega) (by omega) (by omega) (by omega) hil hkl (by unfold StoreM.get; rw [setCap_cap hcB, if_pos rfl])
  refine Ops.pvg ⟨_, _, rfl, rfl, rfl⟩ (pv_move rfl) rfl ?_
  refine Ops.pvg ⟨_, _, rfl, rfl, rfl⟩ (pv_move rfl) rfl ?_
  refine Ops.pvg ⟨_, _, rfl, rfl, rfl⟩ (pv_build rfl) rfl ?_
  refine Ops.pvg ⟨_, _, rfl, rfl, rfl⟩ (pv_move rfl) rfl ?_
  refine Ops.pvg ⟨_, _, rfl, rfl, rfl⟩ (pv_build rfl) rfl ?_
  refine Ops.efg ⟨_, _, rfl, rfl, rfl⟩ (ef_call (tr_put_ok sb1 ((S1.addNode 1 b2 a).addNode 2 b3 b) (1, (i : Int)) ⟨2, 2, 0, 0, h, (2 : Nat)⟩ CapM.zero hwB hcB rfl (check_node (by omega)) (by simp)) rfl rfl) ?_
  rintro _ _ ⟨_, _, ⟨rfl, rfl⟩, rfl, rfl⟩
  refine Ops.app ?_
  refine Ops.pvg ⟨_, _, rfl, rfl, rfl⟩ (pv_neq rfl rfl) rfl ?_
  refine Ops.pv (pv_pick_false rfl rfl) rfl ?_
  refine Ops.nil ?_
  refine Ends.seq ?_
  refine Wp.cond_false rfl ?_
  refine Wp.skip ?_
  refine Ends.seq ?_
  refine Wp.seq ?_
  refine Wp.region ?_
  refine Ops.pv (pv_move rfl) rfl ?_
  refine Ops.pv (pv_build rfl) rfl ?_
  refine Ops.ef rfl (ef_allocK tyZ29 rfl) ?_
  rintro _ _ ⟨b4, rfl, rfl⟩
  refine Ops.ef rfl (ef_storeK rfl rfl rfl rfl) ?_
  rintro _ _ ⟨rfl, rfl⟩
  refine Ops.nil ?_
  refine Ends.seq ?_
  refine Wp.seq ?_
  refine AnyH.startL 17 rfl ?_
  refine AnyH.take 0 rfl (by kernel_rfl) (by kernel_rfl) (by kernel_rfl) PF.pf rfl (pv_move rfl) rfl ?_
  refine AnyH.take 1 rfl (by kernel_rfl) (by kernel_rfl) (by kernel_rfl) PF.pf rfl (pv_move rfl) rfl ?_
  refine AnyH.take 2 rfl (by kernel_rfl) (by kernel_rfl) (by kernel_rfl) PF.pf rfl (pv_shl rfl rfl (by omega) (shln (by omega) (by omega))) rfl ?_
  refine AnyH.take 3 rfl (by kernel_rfl) (by kernel_rfl) (by kernel_rfl) PF.pf rfl (pv_move rfl) rfl ?_
  refine AnyH.take 4 rfl (by kernel_rfl) (by kernel_rfl) (by kernel_rfl) PF.pf rfl (pv_conv rfl (u64n (k := i) rfl (by omega))) rfl ?_
  refine AnyH.take 5 rfl (by kernel_rfl) (by kernel_rfl) (by kernel_rfl) PF.pf rfl (pv_add rfl rfl (u64n (k := g * 2 ^ a + i) (by omega) (by omega))) rfl ?_
  refine AnyH.take 6 rfl (by kernel_rfl) (by kernel_rfl) (by kernel_rfl) PF.pf rfl (pv_move rfl) rfl ?_
  refine AnyH.take 7 rfl (by kernel_rfl) (by kernel_rfl) (by kernel_rfl) PF.pf rfl (pv_add rfl rfl (w64n (k := 2 + b) (by omega) (by omega))) rfl ?_
  refine AnyH.take 8 rfl (by kernel_rfl) (by kernel_rfl) (by kernel_rfl) PF.pf rfl (pv_shl rfl rfl (by omega) (shln (by omega) (by omega))) rfl ?_
  refine AnyH.take 9 rfl (by kernel_rfl) (by kernel_rfl) (by kernel_rfl) PF.pf rfl (pv_move rfl) rfl ?_
  refine AnyH.take 10 rfl (by kernel_rfl) (by kernel_rfl) (by kernel_rfl) PF.pf rfl (pv_move rfl) rfl ?_
  refine AnyH.take 11 rfl (by kernel_rfl) (by kernel_rfl) (by kernel_rfl) PF.pf rfl (pv_shl rfl rfl (by omega) (shln (by omega) (by omega))) rfl ?_
  refine AnyH.take 12 rfl (by kernel_rfl) (by kernel_rfl) (by kernel_rfl) PF.pf rfl (pv_add rfl rfl (u64n (k := (g * 2 ^ a + i) * 2 ^ (2 + b) + h * 2 ^ b) (by omega) (by omega))) rfl ?_
  refine AnyH.take 13 rfl (by kernel_rfl) (by kernel_rfl) (by kernel_rfl) PF.pf rfl (pv_move rfl) rfl ?_
  refine AnyH.take 14 rfl (by kernel_rfl) (by kernel_rfl) (by kernel_rfl) PF.pf rfl (pv_conv rfl (u64n (k := k) rfl (by omega))) rfl ?_
  refine AnyH.take 15 rfl (by kernel_rfl) (by kernel_rfl) (by kernel_rfl) PF.pf rfl (pv_add rfl rfl (u64n (k := (g * 2 ^ a + i) * 2 ^ (2 + b) + h * 2 ^ b + k) (by omega) (by omega))) rfl ?_
  refine AnyH.take 16 rfl (by kernel_rfl) (by kernel_rfl) (by kernel_rfl) PF.pf rfl (pv_assign rfl) rfl ?_
  refine AnyH.done (by kernel_rfl) ?_
  refine Ends.seq ?_
  refine Wp.seq ?_
  refine Wp.region ?_
  refine Ops.pv (pv_move rfl) rfl ?_
  refine Ops.pv (pv_loadK [_, _, _, _, _, _] rfl rfl rfl ⟨rfl, rfl, rfl, rfl, rfl, rfl, trivial⟩) rfl ?_
  refine Ops.pv (pv_move rfl) rfl ?_
  refine Ops.pv (pv_move rfl) rfl ?_
  refine Ops.pv (pv_add rfl rfl (w64n (k := 3 + a) (by omega) (by omega))) rfl ?_
  refine Ops.pv (pv_add rfl rfl (w64n (k := 3 + a + 2) (by omega) (by omega))) rfl ?_
  refine Ops.pv (pv_move rfl) rfl ?_
  refine Ops.pv (pv_add rfl rfl (w64n (k := 3 + a + 2 + b) (by omega) (by omega))) rfl ?_
  refine Ops.ef rfl (ef_callr ((tr_find sb1 (((S1.addNode 1 b2 a).addNode 2 b3 b).setCap (1, (i : Int)) ⟨2, 2, 0, 0, h, (2 : Nat)⟩) ⟨2, 1, 0, 0, g, (3 : Nat)⟩ ((g * 2 ^ a + i) * 2 ^ (2 + b) + h * 2 ^ b + k) ((3 + a + 2 + b : Nat) : Int) hwC (by omega)).eq (r' := .tuple #[slotV (2, (k : Int)), .int .i64 0]) (by rw [hlev.1])) rfl rfl) ?_
  rintro _ _ ⟨rfl, rfl⟩
  refine Ops.pv (pv_move rfl) rfl ?_
  refine Ops.pv (pv_extract rfl rfl) rfl ?_
  refine Ops.pv (pv_extract rfl rfl) rfl ?_
  refine Ops.ef rfl (ef_allocK tyZ31 rfl) ?_
  rintro _ _ ⟨b5, rfl, rfl⟩
  refine Ops.ef rfl (ef_storeK rfl rfl rfl rfl) ?_
  rintro _ _ ⟨rfl, rfl⟩
  refine Ops.pv (pv_assign rfl) rfl ?_
  refine Ops.nil ?_
  refine Ends.seq ?_
  refine Wp.seq ?_
  refine AnyH.startL 17 rfl ?_
  refine AnyH.take 0 rfl (by kernel_rfl) (by kernel_rfl) (by kernel_rfl) PF.pf rfl (pv_move rfl) rfl ?_
  refine AnyH.take 1 rfl (by kernel_rfl) (by kernel_rfl) (by kernel_rfl) PF.pf rfl (pv_loadK [_, _, _, _, _, _] rfl rfl rfl ⟨rfl, rfl, rfl, rfl, rfl, rfl, trivial⟩) rfl ?_
  refine AnyH.take 2 rfl (by kernel_rfl) (by kernel_rfl) (by kernel_rfl) PF.pf rfl (pv_move rfl) rfl ?_
  refine AnyH.take 3 rfl (by kernel_rfl) (by kernel_rfl) (by kernel_rfl) PF.pf rfl (pv_move rfl) rfl ?_
  refine AnyH.take 4 rfl (by kernel_rfl) (by kernel_rfl) (by kernel_rfl) PF.pf rfl (pv_add rfl rfl (w64n (k := 2 + b) (by omega) (by omega))) rfl ?_
  refine AnyH.take 5 rfl (by kernel_rfl) (by kernel_rfl) (by kernel_rfl) PF.pf rfl (pv_shr rfl rfl (by omega) (by rw [show min (((2 + b : Nat) : Int)).toNat IntKind.u64.bits = 2 + b by show min _ 64 = _; omega, fdiv_pow, hlev.2.2])) rfl ?_
  refine AnyH.take 6 rfl (by kernel_rfl) (by kernel_rfl) (by kernel_rfl) PF.pf rfl (pv_move rfl) rfl ?_
  refine AnyH.take 7 rfl (by kernel_rfl) (by kernel_rfl) (by kernel_rfl) PF.pf rfl (pv_add rfl rfl (w64n (k := 3 + a) (by omega) (by omega))) rfl ?_
  refine AnyH.two 8 13 (by kernel_rfl) ?_ ?_
  · refine Turn.ef rfl rfl (ef_callr ((tr_resolve sb1 (((S1.addNode 1 b2 a).addNode 2 b3 b).setCap (1, (i : Int)) ⟨2, 2, 0, 0, h, (2 : Nat)⟩) ⟨2, 1, 0, 0, g, (3 : Nat)⟩ (g * 2 ^ a + i) ((3 + a : Nat) : Int) hwC (by omega)).eq (r' := .tuple #[slotV (1, (i : Int)), .int .i64 0, .int .i64 0]) (by rw [hlev.2.1])) rfl rfl) ?_ ?_
    · rintro _ _ ⟨rfl, rfl⟩; infer_instance
    rintro _ _ ⟨rfl, rfl⟩
    refine AnyH.take 9 rfl (by kernel_rfl) (by kernel_rfl) (by kernel_rfl) PF.pf rfl (pv_move rfl) rfl ?_
    refine AnyH.take 10 rfl (by kernel_rfl) (by kernel_rfl) (by kernel_rfl) PF.pf rfl (pv_extract rfl rfl) rfl ?_
    refine AnyH.take 11 rfl (by kernel_rfl) (by kernel_rfl) (by kernel_rfl) PF.pf rfl (pv_extract rfl rfl) rfl ?_
    refine AnyH.take 12 rfl (by kernel_rfl) (by kernel_rfl) (by kernel_rfl) PF.pf rfl (pv_extract rfl rfl) rfl ?_
    refine AnyH.one 13 (by kernel_rfl) ?_
    refine Turn.ef rfl rfl (ef_allocK tyZ31 rfl) ?_ ?_
    · rintro _ _ ⟨b6, rfl, rfl⟩; infer_instance
    rintro _ _ ⟨b6, rfl, rfl⟩
    refine AnyH.one 14 (by kernel_rfl) ?_
    refine Turn.ef rfl rfl (ef_storeK rfl rfl rfl rfl) ?_ ?_
    · rintro _ _ ⟨rfl, rfl⟩; infer_instance
    rintro _ _ ⟨rfl, rfl⟩
    refine AnyH.take 15 rfl (by kernel_rfl) (by kernel_rfl) (by kernel_rfl) PF.pf rfl (pv_assign rfl) rfl ?_
    refine AnyH.take 16 rfl (by kernel_rfl) (by kernel_rfl) (by kernel_rfl) PF.pf rfl (pv_assign rfl) rfl ?_
    refine AnyH.done (by kernel_rfl) ?_
    refine Ends.seq ?_
    refine Wp.seq ?_
    refine Wp.region ?_
    refine Ops.pv (pv_loadK [_, _] rfl rfl rfl ⟨rfl, rfl, trivial⟩) rfl ?_
    refine Ops.pv (pv_move rfl) rfl ?_
    refine Ops.pv (pv_build rfl) rfl ?_
    refine Ops.pv ((pv_eql_slot (a := (2, (k : Int))) (b := (2, (k : Int))) rfl rfl).tru rfl) rfl ?_
    refine Ops.pv (pv_move rfl) rfl ?_
    refine Ops.pvg ⟨_, _, rfl, rfl, rfl⟩ (pv_move rfl) rfl ?_
    refine Ops.pvg ⟨_, _, rfl, rfl, rfl⟩ (pv_eql rfl rfl) rfl ?_
    refine Ops.pv (pv_pick_true rfl rfl) rfl ?_
    refine Ops.pv (pv_move rfl) rfl ?_
    refine Ops.pvg ⟨_, _, rfl, rfl, rfl⟩ (pv_loadK [_, _] rfl rfl rfl ⟨rfl, rfl, trivial⟩) rfl ?_
    refine Ops.pvg ⟨_, _, rfl, rfl, rfl⟩ (pv_move rfl) rfl ?_
    refine Ops.pvg ⟨_, _, rfl, rfl, rfl⟩ (pv_build rfl) rfl ?_
    refine Ops.pvg ⟨_, _, rfl, rfl, rfl⟩ ((pv_eql_slot (a := (1, (i : Int))) (b := (1, (i : Int))) rfl rfl).tru rfl) rfl ?_
    refine Ops.pv (pv_pick_true rfl rfl) rfl ?_
    refine Ops.pv (pv_move rfl) rfl ?_
    refine Ops.pvg ⟨_, _, rfl, rfl, rfl⟩ (pv_move rfl) rfl ?_
    refine Ops.pvg ⟨_, _, rfl, rfl, rfl⟩ (pv_eql rfl rfl) rfl ?_
    refine Ops.pv (pv_pick_true rfl rfl) rfl ?_
    refine Ops.pv (pv_move rfl) rfl ?_
    refine Ops.pvg ⟨_, _, rfl, rfl, rfl⟩ (pv_move rfl) rfl ?_
    refine Ops.pvg ⟨_, _, rfl, rfl, rfl⟩ (pv_eql rfl rfl) rfl ?_
    refine Ops.pv (pv_pick_true rfl rfl) rfl ?_
    refine Ops.pv (pv_assign rfl) rfl ?_
    refine Ops.nil ?_
    refine Ends.seq ?_
    refine Wp.ret ?_
    exact Ends.ret (res1 rfl rfl) ⟨rfl, rfl⟩
  · refine Turn.ef rfl rfl (ef_allocK tyZ31 rfl) ?_ ?_
    · rintro _ _ ⟨b7, rfl, rfl⟩; infer_instance
    rintro _ _ ⟨b7, rfl, rfl⟩
    refine AnyH.one 8 (by kernel_rfl) ?_
    refine Turn.ef rfl rfl (ef_callr ((tr_resolve sb1 (((S1.addNode 1 b2 a).addNode 2 b3 b).setCap (1, (i : Int)) ⟨2, 2, 0, 0, h, (2 : Nat)⟩) ⟨2, 1, 0, 0, g, (3 : Nat)⟩ (g * 2 ^ a + i) ((3 + a : Nat) : Int) hwC (by omega)).eq (r' := .tuple #[slotV (1, (i : Int)), .int .i64 0, .int .i64 0]) (by rw [hlev.2.1])) rfl rfl) ?_ ?_
    · rintro _ _ ⟨rfl, rfl⟩; infer_instance
    rintro _ _ ⟨rfl, rfl⟩
    refine AnyH.take 9 rfl (by kernel_rfl) (by kernel_rfl) (by kernel_rfl) PF.pf rfl (pv_move rfl) rfl ?_
    refine AnyH.take 10 rfl (by kernel_rfl) (by kernel_rfl) (by kernel_rfl) PF.pf rfl (pv_extract rfl rfl) rfl ?_
    refine AnyH.take 11 rfl (by kernel_rfl) (by kernel_rfl) (by kernel_rfl) PF.pf rfl (pv_extract rfl rfl) rfl ?_
    refine AnyH.take 12 rfl (by kernel_rfl) (by kernel_rfl) (by kernel_rfl) PF.pf rfl (pv_extract rfl rfl) rfl ?_
    refine AnyH.one 14 (by kernel_rfl) ?_
    refine Turn.ef rfl rfl (ef_storeK rfl rfl rfl rfl) ?_ ?_
    · rintro _ _ ⟨rfl, rfl⟩; infer_instance
    rintro _ _ ⟨rfl, rfl⟩
    refine AnyH.take 15 rfl (by kernel_rfl) (by kernel_rfl) (by kernel_rfl) PF.pf rfl (pv_assign rfl) rfl ?_
    refine AnyH.take 16 rfl (by kernel_rfl) (by kernel_rfl) (by kernel_rfl) PF.pf rfl (pv_assign rfl) rfl ?_
    refine AnyH.done (by kernel_rfl) ?_
    refine Ends.seq ?_
    refine Wp.seq ?_
    refine Wp.region ?_
    refine Ops.pv (pv_loadK [_, _] rfl rfl rfl ⟨rfl, rfl, trivial⟩) rfl ?_
    refine Ops.pv (pv_move rfl) rfl ?_
    refine Ops.pv (pv_build rfl) rfl ?_
    refine Ops.pv ((pv_eql_slot (a := (2, (k : Int))) (b := (2, (k : Int))) rfl rfl).tru rfl) rfl ?_
    refine Ops.pv (pv_move rfl) rfl ?_
    refine Ops.pvg ⟨_, _, rfl, rfl, rfl⟩ (pv_move rfl) rfl ?_
    refine Ops.pvg ⟨_, _, rfl, rfl, rfl⟩ (pv_eql rfl rfl) rfl ?_
    refine Ops.pv (pv_pick_true rfl rfl) rfl ?_
    refine Ops.pv (pv_move rfl) rfl ?_
    refine Ops.pvg ⟨_, _, rfl, rfl, rfl⟩ (pv_loadK [_, _] rfl rfl rfl ⟨rfl, rfl, trivial⟩) rfl ?_
    refine Ops.pvg ⟨_, _, rfl, rfl, rfl⟩ (pv_move rfl) rfl ?_
    refine Ops.pvg ⟨_, _, rfl, rfl, rfl⟩ (pv_build rfl) rfl ?_
    refine Ops.pvg ⟨_, _, rfl, rfl, rfl⟩ ((pv_eql_slot (a := (1, (i : Int))) (b := (1, (i : Int))) rfl rfl).tru rfl) rfl ?_
    refine Ops.pv (pv_pick_true rfl rfl) rfl ?_
    refine Ops.pv (pv_move rfl) rfl ?_
    refine Ops.pvg ⟨_, _, rfl, rfl, rfl⟩ (pv_move rfl) rfl ?_
    refine Ops.pvg ⟨_, _, rfl, rfl, rfl⟩ (pv_eql rfl rfl) rfl ?_
    refine Ops.pv (pv_pick_true rfl rfl) rfl ?_
    refine Ops.pv (pv_move rfl) rfl ?_
    refine Ops.pvg ⟨_, _, rfl, rfl, rfl⟩ (pv_move rfl) rfl ?_
    refine Ops.pvg ⟨_, _, rfl, rfl, rfl⟩ (pv_eql rfl rfl) rfl ?_
    refine Ops.pv (pv_pick_true rfl rfl) rfl ?_
    refine Ops.pv (pv_assign rfl) rfl ?_
    refine Ops.nil ?_
    refine Ends.seq ?_
    refine Wp.ret ?_
    exact Ends.ret (res1 rfl rfl) ⟨rfl, rfl⟩

end Go.Proofs.Ytpoamckpdpkpoaa
