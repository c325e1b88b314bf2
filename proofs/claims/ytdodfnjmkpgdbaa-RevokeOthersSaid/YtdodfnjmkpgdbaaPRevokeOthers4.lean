/- RevokeOthers. Laid together by pack.py out of the texts in wip. -/
import Derived.Test.YtdodfnjmkpgdbaaPRevokeOthers3
set_option linter.unusedVariables false
set_option linter.unusedSimpArgs false
set_option linter.unusedSectionVars false
section
set_option linter.unusedVariables false
set_option linter.unusedSimpArgs false
set_option linter.unusedSectionVars false
namespace Go.Proofs.Ytdodfnjmkpgdbaa
open Go.SL
theorem count_two {α : Type} {l : List α} (hn : l.Nodup) {q : α → Bool} {a b : α} (ha : a ∈ l) (hb : b ∈ l) (hab : a ≠ b) (qa : q a = true) (qb : q b = true) : 2 ≤ l.countP q := by
 induction l with
 | nil => cases ha
 | cons c l ih =>
  rw [List.nodup_cons] at hn
  rw [List.countP_cons]
  rcases List.mem_cons.1 ha with rfl | ha1
  ·
   have hb' : b ∈ l := (List.mem_cons.1 hb).resolve_left (fun e => hab e.symm)
   have : 0 < l.countP q := List.countP_pos_iff.2 ⟨b, hb', qb⟩
   rw [if_pos qa]; omega
  ·
   rcases List.mem_cons.1 hb with rfl | hb1
   ·
    have : 0 < l.countP q := List.countP_pos_iff.2 ⟨a, ha1, qa⟩
    rw [if_pos qb]; omega
   ·
    have := ih hn.2 ha1 hb1; omega
theorem not_fin {p : PS} (h : POk p) {s x : SlotM} (hs : (dget p.l s).1.kind ≠ 0) (hsx : x ≠ s) (hk : (dget p.l x).1.kind = (dget p.l s).1.kind) (ho : (dget p.l x).1.object = (dget p.l s).1.object) : ¬ fin p.l x := fun hf => by
 have h2 := hf.2
 unfold dcount at h2
 have := count_two (dfull_nodup h.rel) (q := fun z => decide ((dget p.l z).1.kind = (dget p.l x).1.kind) && decide ((dget p.l z).1.object = (dget p.l x).1.object)) ((mem_dfull h.rel).2 (hk ▸ hs)) ((mem_dfull h.rel).2 hs) hsx (by simp) (by simp [hk, ho])
 omega
theorem kin_nodup {p : PS} (h : POk p) (s : SlotM) : (ftKin p.F s).Nodup := Fo.nd_sub h.nd
theorem kin_not {p : PS} (h : POk p) (s : SlotM) : s ∉ ftKin p.F s := Fo.sub_self h.nd
theorem kin_nf {p : PS} (h : WOk p) {s x : SlotM} (hx : x ∈ ftKin p.F s) : ¬ fin p.l x := by
 have hw := h.weak s x hx
 have hs : (dget p.l s).1.kind ≠ 0 := (h.ok.on s).1 (kin_in hx).1
 exact not_fin h.ok hs (fun e => kin_not h.ok s (e ▸ hx)) hw.2.2.1 hw.2.2.2.1
theorem away_nf {t t' : TS} {way : List SlotM} {x : SlotM} {b : Bool} (h : Away t way x b t') (hf : ¬ fin t.p.l x) : if t.n = 0 then b = false ∧ t' = t else b = true ∧ t' = ⟨(mTake t.p x).2.2, t.told, t.n - 1⟩ := by
 have hin : innerM t.p.l way x = none := by unfold innerM; rw [if_neg (fun k => hf k.2)]
 cases h with
 | spent _ h0 => rw [if_pos h0]; exact ⟨rfl, rfl⟩
 | step _ h0 => rw [if_neg h0]; exact ⟨rfl, stepT_n hf⟩
 | fall h2 _ => rw [hin] at h2; cases h2
 | next h2 _ _ => rw [hin] at h2; cases h2
def revS (p : PS) (s : SlotM) : Nat → PS
  | 0 => p
  | m + 1 => match (ftKin p.F s)[(ftKin p.F s).length - 1]? with
    | none => p
    | some x => revS (mTake p x).2.2 s m
theorem last_split {α : Type} {l : List α} {x : α} (h : l[l.length - 1]? = some x) : l = l.take (l.length - 1) ++ [x] ∧ 0 < l.length := by
 have h0 : 0 < l.length := by
  rcases Nat.eq_zero_or_pos l.length with e | e
  ·
   rw [List.eq_nil_of_length_eq_zero e] at h; simp at h
  ·
   exact e
 refine ⟨?_, h0⟩
 have h1 := List.take_add_one (l := l) (i := l.length - 1)
 rw [h, show l.length - 1 + 1 = l.length by omega, List.take_length] at h1
 exact h1
theorem kin_last {p : PS} (h : POk p) {s x : SlotM} (hx : (ftKin p.F s)[(ftKin p.F s).length - 1]? = some x) : ftKin (mTake p x).2.2.F s = (ftKin p.F s).take ((ftKin p.F s).length - 1) := by
 have hm := List.mem_of_getElem? hx
 obtain ⟨hs, h0⟩ := last_split hx
 have hk : (dget p.l x).1.kind ≠ 0 := (h.on x).1 (kin_in hm).2
 rw [take_F h hk]
 show (Fo.sub s (p.F.drop x)).all = _
 rw [Fo.kin_drop h.nd (by rintro rfl; exact kin_not h _ hm)]
 show (ftKin p.F s).filter _ = _
 have hn := kin_nodup h s
 rw [hs] at hn
 have hd := List.nodup_append.1 hn
 have e1 : (ftKin p.F s).filter (fun z => decide (z ≠ x)) = ((ftKin p.F s).take ((ftKin p.F s).length - 1) ++ [x]).filter (fun z => decide (z ≠ x)) := by rw [← hs]
 rw [e1, List.filter_append]
 have e2 : [x].filter (fun z => decide (z ≠ x)) = [] := by simp
 have e3 : ((ftKin p.F s).take ((ftKin p.F s).length - 1)).filter (fun z => decide (z ≠ x)) = (ftKin p.F s).take ((ftKin p.F s).length - 1) :=
  List.filter_eq_self.2 fun z hz => decide_eq_true fun e => hd.2.2 z hz x (List.mem_singleton.2 rfl) e
 rw [e2, e3, List.append_nil]
theorem revS_ok {s : SlotM} : ∀ (m : Nat) {p : PS}, WOk p → WOk (revS p s m)
  | 0, _, h => h
  | m + 1, p, h => by
    unfold revS
    split
    · exact h
    · exact revS_ok m (h.take _)
theorem revS_get {s : SlotM} : ∀ (m : Nat) {p : PS}, WOk p → ∀ z, dget (revS p s m).l z = if z ∈ (ftKin p.F s).drop ((ftKin p.F s).length - m) then (CapM.zero, 0) else dget p.l z
  | 0, p, h, z => by unfold revS; rw [Nat.sub_zero, List.drop_length]; simp
  | m + 1, p, h, z => by
    unfold revS
    split
    · rename_i hx
      have : ftKin p.F s = [] := by
        rcases Nat.eq_zero_or_pos (ftKin p.F s).length with e | e
        · exact List.eq_nil_of_length_eq_zero e
        · rw [List.getElem?_eq_getElem (by omega)] at hx; cases hx
      rw [this]; simp
    · rename_i x hx
      have hm := List.mem_of_getElem? hx
      have hk : (dget p.l x).1.kind ≠ 0 := (h.ok.on x).1 (kin_in hm).2
      obtain ⟨hsp, h0⟩ := last_split hx
      rw [revS_get m (h.take x), kin_last h.ok hx, List.length_take, take_F h.ok hk]
      show (if _ then _ else dget (dtake p.l x).2.2 z) = _
      rw [take_get h.ok.rel hk]
      have hdr : (ftKin p.F s).drop ((ftKin p.F s).length - (m + 1)) = ((ftKin p.F s).take ((ftKin p.F s).length - 1)).drop (min ((ftKin p.F s).length - 1) (ftKin p.F s).length - m) ++ [x] := by
        conv => lhs; arg 2; rw [hsp]
        rw [List.drop_append_of_le_length (by rw [List.length_take]; omega)]
        congr 2; omega
      rw [hdr]
      by_cases hz : z = x
      · subst hz; simp
      · simp [hz]
theorem rev_eq {t t' : TS} {s : SlotM} {b : Bool} (h : RevW t s b t') (hw : WOk t.p) (hk : (dget t.p.l s).1.kind ≠ 0) :
    b = decide ((ftKin t.p.F s).length ≤ t.n) ∧ t' = ⟨revS t.p s (min t.n (ftKin t.p.F s).length), t.told, t.n - (ftKin t.p.F s).length⟩ := by
  induction h with
  | empty h0 => exact absurd h0 hk
  | @alone t s _ hn =>
    rw [hn]
    refine ⟨by simp, ?_⟩
    simp [revS]
  | @fall t t' s x _ hx ha =>
    have hm := List.mem_of_getElem? hx
    obtain ⟨hsp, h0⟩ := last_split hx
    have := away_nf ha (kin_nf hw hm)
    split at this
    · rename_i hz
      obtain ⟨_, rfl⟩ := this
      refine ⟨by rw [decide_eq_false (by omega)], ?_⟩
      rw [hz, Nat.zero_min, Nat.zero_sub]
      obtain ⟨p, told, n⟩ := t'
      dsimp only at hz; subst hz; rfl
    · exact absurd this.1 (by simp)
  | @next t t1 t' s x b _ hx ha _ ih =>
    have hm := List.mem_of_getElem? hx
    obtain ⟨hsp, h0⟩ := last_split hx
    have := away_nf ha (kin_nf hw hm)
    split at this
    · exact absurd this.1 (by simp)
    · rename_i hz
      obtain ⟨_, rfl⟩ := this
      have hkx : (dget t.p.l x).1.kind ≠ 0 := (hw.ok.on x).1 (kin_in hm).2
      have hks : (dget (mTake t.p x).2.2.l s).1.kind ≠ 0 := by
        rw [take_F hw.ok hkx]
        show (dget (dtake t.p.l x).2.2 s).1.kind ≠ 0
        rw [take_get hw.ok.rel hkx, if_neg (by rintro rfl; exact kin_not hw.ok _ hm)]; exact hk
      obtain ⟨i1, i2⟩ := ih (hw.take x) hks
      dsimp only at i1 i2
      rw [kin_last hw.ok hx, List.length_take] at i1 i2
      refine ⟨by rw [i1, decide_eq_decide]; omega, ?_⟩
      rw [i2]
      congr 1
      · rw [show min t.n (ftKin t.p.F s).length = min (t.n - 1) (min ((ftKin t.p.F s).length - 1) (ftKin t.p.F s).length) + 1 by omega]
        conv => rhs; unfold revS; rw [hx]
      · omega
end Go.Proofs.Ytdodfnjmkpgdbaa
end
section
set_option linter.unusedVariables false
set_option linter.unusedSimpArgs false
namespace Go.Proofs.Ytdodfnjmkpgdbaa
open Go.SL
theorem wfI {n : Int} (h : (Lit.int .i64 n).wf = true) : i64R n := by
 have h1 : IntKind.i64.min = -9223372036854775808 := by decide
 have h2 : IntKind.i64.max = 9223372036854775807 := by decide
 simp [Lit.wf, h1, h2] at h
 unfold i64R; omega
theorem wfU {n : Int} (h : (Lit.int .u64 n).wf = true) : u64R n := by
 have h1 : IntKind.u64.min = 0 := by decide
 have h2 : IntKind.u64.max = 18446744073709551615 := by decide
 simp [Lit.wf, h1, h2] at h
 unfold u64R; omega
structure OpC.Rg (o : OpC) : Prop where
  c : o.c.Rg
  rights : i64R o.rights
  badge : u64R o.badge
  guard : u64R o.guard
end Go.Proofs.Ytdodfnjmkpgdbaa
end
section
set_option linter.unusedVariables false
set_option linter.unusedSimpArgs false
set_option linter.unusedSectionVars false
namespace Go.Proofs.Ytdodfnjmkpgdbaa
open Go.SL
instance encCap : Enc CapM.cells 6 := ⟨fun _ => rfl, fun _ => rfl⟩
theorem caps_neq {l1 l2 : List CapM} {i : Nat} {a b : CapM} (h1 : l1[i]? = some a) (h2 : l2[i]? = some b) (h : a ≠ b) : ¬ l1 = l2 := fun e => by
 subst e; rw [h1] at h2; cases h2; exact h rfl
theorem list_same {α : Type} {l1 l2 : List α} (hl : l1.length = l2.length) (h : ∀ j, j < l1.length → l1[j]? = l2[j]?) : l1 = l2 := by
 refine List.ext_getElem? fun j => ?_
 by_cases hj : j < l1.length
 ·
  exact h j hj
 rw [List.getElem?_eq_none (by omega), List.getElem?_eq_none (by omega)]
theorem rvErr_0 {l : List DN} {s : SlotM} {k : Int} (hk : (dget l s).1.kind ≠ 0) (h1 : 1 ≤ k) (h2 : k ≤ 1000) : rvErr l s k = 0 := by
 unfold rvErr; rw [if_neg (by omega), if_neg (fun h => hk h.2), dget_le hk]
theorem tr_rRevokeW (n cb : Nat) (H : Hp) (p : PS) (hC : CapsH n p cb H) (hw : WOk p) (hn : n ≤ 2 ^ 19) (sl : SlotM) (hk : (dget p.l sl).1.kind ≠ 0) (k : Nat) (h1 : 1 ≤ k) (h2 : k ≤ 1000) :
    Tr Try.prog 37 [cpP cb, slotV sl, .int .i64 k] H (fun u L' => ∃ v' T' H', Slc 24 6 v' 0 [] T' ∧ CapsH n (revS p sl (min k (ftKin p.F sl).length)) cb H' ∧ u = .tuple #[v', .bool (decide ((ftKin p.F sl).length ≤ k)), .int .i64 (if (ftKin p.F sl).length ≤ k then 0 else 11)] ∧ L' = T' ++ H') :=
  (tr_rRevoke n cb H p hC hw.ok hn sl k).mono fun u L' h => by
    rcases h with ⟨h0, _⟩ | ⟨_, b, t', v', T', H', hR, hI, rfl, rfl⟩
    · exact absurd (rvErr_0 hk (by omega) (by omega)) h0
    · obtain ⟨rfl, rfl⟩ := rev_eq hR hw hk
      refine ⟨v', T', H', hI.2.1, hI.1, ?_, rfl⟩
      simp only [Int.toNat_natCast, decide_eq_true_eq]
theorem tr_rslot (k : Int) : TrR Try.prog 35 [.int .i64 k] ([]) (slotV (0, k)) := by
 refine Tr.enter Try.func35 rfl Try.ntmps35 rfl (fun W F => ?_)
 refine Wp.app ?_
 refine Wp.seq ?_
 refine Wp.region ?_
 refine Ops.ef rfl (ef_allocK tyZ38 rfl) ?_
 rintro _ _ ⟨b1, rfl, rfl⟩
 refine Ops.nil ?_
 refine Ends.seq ?_
 refine Wp.seq ?_
 refine Wp.region ?_
 refine Ops.pv (pv_move rfl) rfl ?_
 refine Ops.pv (pv_build rfl) rfl ?_
 refine Ops.ef rfl (ef_storeK rfl rfl rfl rfl) ?_
 rintro _ _ ⟨rfl, rfl⟩
 refine Ops.nil ?_
 refine Ends.seq ?_
 refine Wp.ret ?_
 exact Ends.ret (res_one rfl (rv_cellK [_, _] rfl rfl rfl ⟨rfl, rfl, trivial⟩)) ⟨rfl, rfl⟩
set_option maxHeartbeats 2000000 in
theorem tr_sameCaps (G : Hp) (a1 a2 : Option Addr) (c1 c2 : Nat) (l1 l2 : List CapM) (hv1 : View G 6 (.slice a1 l1.length c1) l1.length (cel CapM.cells l1)) (hv2 : View G 6 (.slice a2 l2.length c2) l2.length (cel CapM.cells l2)) (hl : l1.length ≤ 2 ^ 40) : TrR Try.prog 40 [.slice a1 l1.length c1, .slice a2 l2.length c2] (G) (.bool (decide (l1 = l2))) := by
 refine Tr.enter Try.func40 rfl Try.ntmps40 rfl (fun W F => ?_)
 refine Wp.app ?_
 refine Wp.seq ?_
 refine Wp.region ?_
 refine Ops.pv (pv_assign rfl) rfl ?_
 refine Ops.nil ?_
 refine Ends.seq ?_
 refine Wp.seq ?_
 refine Wp.seq ?_
 refine Wp.region ?_
 refine Ops.pv (pv_move rfl) rfl ?_
 refine Ops.pv (pv_len_slice (T := 63) rfl rfl) rfl ?_
 refine Ops.pv (pv_move rfl) rfl ?_
 refine Ops.pv (pv_len_slice (T := 63) rfl rfl) rfl ?_
 refine Ops.pv (pv_neq rfl rfl) rfl ?_
 refine Ops.nil ?_
 refine Ends.seq ?_
 refine Wp.cond_dect rfl (fun h1 => ?_) (fun h1 => ?_)
 ·
  refine Wp.seq ?_
  refine Wp.region ?_
  refine Ops.pv (pv_assign rfl) rfl ?_
  refine Ops.nil ?_
  refine Ends.seq ?_
  refine Wp.ret ?_
  refine Ends.then_ret ?_
  exact Ends.ret (res1 rfl rfl) ⟨by rw [decide_eq_false (fun e => by subst e; omega)], rfl⟩
 refine Wp.skip ?_
 refine Ends.seq ?_
 refine Wp.seq ?_
 refine Wp.seq ?_
 refine Wp.region ?_
 refine Ops.pv (pv_assign rfl) rfl ?_
 refine Ops.nil ?_
 refine Ends.seq ?_
 refine Wp.block ?_
 refine Wp.loopK (σ := Nat) [(0, _), (1, _)] (fun s => [(5, .int .i64 s)]) (fun s => G ++ F) (fun s => s ≤ l1.length ∧ ∀ j, j < s → l1[j]? = l2[j]?) (fun s => l1.length - s) 0 ⟨Nat.zero_le _, fun j hj => absurd hj (Nat.not_lt_zero j)⟩ ⟨rfl, rfl, trivial⟩ ⟨rfl, trivial⟩ (by intro w ho; (try dsimp only [List.nil_append, List.cons_append]); exact Drop.own ho) ?_
 rintro i KK ⟨hi, hn⟩ hK
 dsimp only [List.cons_append, List.nil_append] at hK ⊢
 refine Wp.seq ?_
 refine Wp.seq ?_
 refine Wp.region ?_
 refine Ops.pv (pv_move rfl) rfl ?_
 refine Ops.pv (pv_move rfl) rfl ?_
 refine Ops.pv (pv_len_slice (T := 63) rfl rfl) rfl ?_
 refine Ops.pv (pv_lss rfl rfl) rfl ?_
 refine Ops.nil ?_
 refine Ends.seq ?_
 refine Wp.cond_dect rfl (fun h2 => ?_) (fun h2 => ?_)
 ·
  obtain ⟨b6, o6, cap6, cc6, T6, f6, hw6, hbv6, hr6⟩ := hv1.open (by omega)
  cases hw6
  obtain ⟨s1, hs1⟩ : ∃ s, l1[i]? = some s := ⟨_, List.getElem?_eq_getElem (by omega)⟩
  have hre1 := cel_reads hr6 hs1
  obtain ⟨b7, o7, cap7, cc7, T7, f7, hw7, hbv7, hr7⟩ := hv2.open (by omega)
  cases hw7
  obtain ⟨s2, hs2⟩ : ∃ s, l2[i]? = some s := ⟨_, List.getElem?_eq_getElem (by omega)⟩
  have hre2 := cel_reads hr7 hs2
  refine Wp.skip ?_
  refine Ends.seq ?_
  refine Wp.seq ?_
  refine Wp.block ?_
  refine Wp.seq ?_
  refine AnyH.start G 9 rfl ?_
  refine Tk 0 rfl rfl (pv_move rfl) rfl ?_
  refine Tk 1 rfl rfl (pv_move rfl) rfl ?_
  refine Tk 2 rfl rfl (pv_indexAddr (i := i) rfl rfl rfl (by omega)) rfl ?_
  refine Tk 3 rfl rfl (pv_loadK [.int .i64 s1.kind, .int .i64 s1.object, .int .i64 s1.rights, .int .u64 s1.badge, .int .u64 s1.guard, .int .i64 s1.bits] rfl rfl rfl hre1) rfl ?_
  refine Tk 4 rfl rfl (pv_move rfl) rfl ?_
  refine Tk 5 rfl rfl (pv_move rfl) rfl ?_
  refine Tk 6 rfl rfl (pv_indexAddr (i := i) rfl rfl rfl (by omega)) rfl ?_
  refine Tk 7 rfl rfl (pv_loadK [.int .i64 s2.kind, .int .i64 s2.object, .int .i64 s2.rights, .int .u64 s2.badge, .int .u64 s2.guard, .int .i64 s2.bits] rfl rfl rfl hre2) rfl ?_
  refine Tk 8 rfl rfl (pv_neq_cap (a := s1) (b := s2) rfl rfl) rfl ?_
  refine AnyH.done (by kernel_rfl) ?_
  refine Ends.seq ?_
  refine Wp.cond_dect rfl (fun h3 => ?_) (fun h3 => ?_)
  ·
   refine Wp.seq ?_
   refine Wp.region ?_
   refine Ops.pv (pv_assign rfl) rfl ?_
   refine Ops.nil ?_
   refine Ends.seq ?_
   refine Wp.ret ?_
   refine Ends.block_ret ?_
   refine Ends.then_ret ?_
   refine Ends.then_ret ?_
   refine Ends.block_ret ?_
   refine Ends.then_ret ?_
   exact Ends.ret (res1 rfl rfl) ⟨by rw [decide_eq_false (caps_neq hs1 hs2 (by assumption))], rfl⟩
  refine Wp.skip ?_
  refine Ends.block_normal ?_
  refine Ends.seq ?_
  refine Wp.region ?_
  refine Ops.pv (pv_move rfl) rfl ?_
  refine Ops.pv (pv_add rfl rfl (w64 (by omega) (by omega))) rfl ?_
  refine Ops.pv (pv_assign rfl) rfl ?_
  refine Ops.nil ?_
  refine Ends.goes ?_
  refine Goes.back (hK (i + 1) ⟨by omega, fun j hj => ?_⟩ (by omega)) ⟨rfl, rfl, rfl, trivial⟩
  rcases Nat.lt_succ_iff_lt_or_eq.1 hj with hj | rfl
  ·
   exact hn j hj
  rw [hs1, hs2, show s1 = s2 by simp_all]
 refine Wp.exit ?_
 refine Ends.then_exit ?_
 refine Ends.then_exit ?_
 refine Ends.block_hit ?_
 refine Ends.seq ?_
 refine Wp.seq ?_
 refine Wp.region ?_
 refine Ops.pv (pv_assign rfl) rfl ?_
 refine Ops.nil ?_
 refine Ends.seq ?_
 refine Wp.ret ?_
 exact Ends.ret (res1 rfl rfl) ⟨by rw [decide_eq_true (list_same (by omega) (fun j hj => hn j (by omega)))], rfl⟩
end Go.Proofs.Ytdodfnjmkpgdbaa
end
section
set_option linter.unusedVariables false
set_option linter.unusedSimpArgs false
set_option linter.unusedSectionVars false
namespace Go.Proofs.Ytdodfnjmkpgdbaa
open Go.SL
theorem wok_new : WOk PS.new := by
 have hz : ∀ s, (dget PS.new.l s).1 = CapM.zero := fun s => by simp [PS.new, dget, dcap?, dfind]
 refine ⟨⟨hasS_nil, List.nodup_nil, fun s => ?_⟩, fun s => ?_, fun t x hx => ?_⟩
 ·
  show s ∈ ([] : List SlotM) ↔ _
  rw [hz]; simp [CapM.zero]
 ·
  rw [hz]; exact zero_rg
 cases (kin_in hx).1
def rc : CapM := ⟨6, 9, 3, 0, 0, 0⟩
theorem rc_rg : rc.Rg := ⟨by unfold i64R rc; decide, by unfold u64R rc; decide, by unfold u64R rc; decide⟩
def ra1 : PS := (mNode PS.new 0 3).2
def ra2 : PS := (mPlant ra1 (0, 0) rc).2
def ra3 : PS := (mCopy ra2 (0, 0) (0, 1) 3).2
def ra4 : PS := (mCopy ra3 (0, 1) (0, 2) 1).2
def ra5 : PS := revS ra4 (0, 0) 1
def ra6 : PS := revS ra5 (0, 0) 1
def ra7 : PS := (mTake ra6 (0, 0)).2.2
theorem raw4 : WOk ra4 := (((wok_new.node 0 3).plant (0, 0) rc_rg).copy (0, 0) (0, 1) (by unfold i64R; decide)).copy (0, 1) (0, 2) (by unfold i64R; decide)
theorem raw5 : WOk ra5 := revS_ok 1 raw4
theorem raw6 : WOk ra6 := revS_ok 1 raw5
theorem rk4 : (dget ra4.l (0, 0)).1.kind = 6 := by kernel_rfl
theorem rk5 : (dget ra5.l (0, 0)).1.kind = 6 := by kernel_rfl
theorem rl4 : (ftKin ra4.F (0, 0)).length = 2 := by kernel_rfl
theorem rl5 : (ftKin ra5.F (0, 0)).length = 1 := by kernel_rfl
theorem rf4 : decide (fin ra4.l (0, 0)) = false := by kernel_rfl
theorem rf6 : decide (fin ra6.l (0, 0)) = true := by kernel_rfl
theorem rg6 : (dget ra6.l (0, 0)).1 = rc := by kernel_rfl
theorem rfl7 : dfull ra7.l = [] := by kernel_rfl
theorem rad1 : (dadd PS.new.l 0 3).1 = 0 := by kernel_rfl
theorem tr_rev4 {n cb : Nat} {H : Hp} (hC : CapsH n ra4 cb H) (hn : n ≤ 2 ^ 19) : Tr Try.prog 37 [cpP cb, slotV (0, 0), .int .i64 1] H (fun u L' => ∃ v' T' H', Slc 24 6 v' 0 [] T' ∧ CapsH n ra5 cb H' ∧ u = .tuple #[v', .bool false, .int .i64 11] ∧ L' = T' ++ H') :=
  (tr_rRevokeW n cb H ra4 hC raw4 hn (0, 0) (by rw [rk4]; decide) 1 (by decide) (by decide)).mono fun u L' ⟨v', T', H', h1, h2, h3, h4⟩ => ⟨v', T', H', h1, by rw [rl4] at h2; exact h2, by rw [rl4] at h3; exact h3, h4⟩
theorem tr_rev5 {n cb : Nat} {H : Hp} (hC : CapsH n ra5 cb H) (hn : n ≤ 2 ^ 19) : Tr Try.prog 37 [cpP cb, slotV (0, 0), .int .i64 1] H (fun u L' => ∃ v' T' H', Slc 24 6 v' 0 [] T' ∧ CapsH n ra6 cb H' ∧ u = .tuple #[v', .bool true, .int .i64 0] ∧ L' = T' ++ H') :=
  (tr_rRevokeW n cb H ra5 hC raw5 hn (0, 0) (by rw [rk5]; decide) 1 (by decide) (by decide)).mono fun u L' ⟨v', T', H', h1, h2, h3, h4⟩ => ⟨v', T', H', h1, by rw [rl5] at h2; exact h2, by rw [rl5] at h3; exact h3, h4⟩
theorem tr_del6 {n cb : Nat} {H : Hp} (hC : CapsH n ra6 cb H) (hn : n ≤ 2 ^ 19) : Tr Try.prog 33 [cpP cb, slotV (0, 0), .int .i64 9] H (fun u L' => ∃ v' T' H', Slc 24 6 v' [rc].length (cel CapM.cells [rc]) T' ∧ CapsH n ra7 cb H' ∧ u = .tuple #[v', .bool true, .int .i64 0] ∧ L' = T' ++ H') :=
  (tr_rDelete n cb H ra6 hC raw6.ok hn (0, 0) 9).mono fun u L' h => by
    have hk : (dget ra6.l (0, 0)).1.kind = 6 := by rw [rg6]; rfl
    rcases h with ⟨h0, _⟩ | ⟨_, b, t', v', T', H', hA, hI, rfl, rfl⟩
    · exact absurd (rvErr_0 (by rw [hk]; decide) (by decide) (by decide)) h0
    · have hin : innerM ra6.l [(0, 0)] (0, 0) = none := by unfold innerM; rw [if_neg (fun h => by rw [hk] at h; exact absurd h.1 (by decide))]
      cases hA with
      | spent _ h0 => exact absurd h0 (by decide)
      | step _ h0 =>
        have he := stepT_f (t := ⟨ra6, [], (9 : Int).toNat⟩) (s := (0, 0)) (of_decide_eq_true rf6) (by show ¬ (dget ra6.l (0, 0)).1.kind = 2; rw [hk]; decide)
        rw [he] at hI
        obtain ⟨h1, h2, _, _⟩ := hI
        simp only [rg6, List.nil_append] at h2
        exact ⟨v', T', H', h2, h1, rfl, rfl⟩
      | fall h2 _ => rw [hin] at h2; cases h2
      | next h2 _ _ => rw [hin] at h2; cases h2
set_option maxHeartbeats 4000000 in
theorem tr_rworks  : TrR Try.prog 32 [] ([]) (.bool true) := by
 refine Tr.enter Try.func32 rfl Try.ntmps32 rfl (fun W F => ?_)
 refine Wp.app ?_
 refine Wp.seq ?_
 refine Wp.region ?_
 refine Ops.pv (pv_assign rfl) rfl ?_
 refine Ops.nil ?_
 refine Ends.seq ?_
 refine Wp.seq ?_
 refine Wp.region ?_
 refine Ops.ef rfl (ef_call (tr_mNew) rfl rfl) ?_
 rintro _ _ ⟨_, _, ⟨cb1, rfl, ⟨sb0, tb0, Ls0, Lt0, hS0, hT0, rfl⟩⟩, rfl, rfl⟩
 refine Ops.app ?_
 refine Ops.pv (pv_assign rfl) rfl ?_
 refine Ops.nil ?_
 refine Ends.seq ?_
 refine Wp.seq ?_
 refine Wp.seq ?_
 refine Wp.region ?_
 refine Ops.pv (pv_move rfl) rfl ?_
 refine Ops.pv (pv_eql_nil rfl rfl) rfl ?_
 refine Ops.pv (pv_move rfl) rfl ?_
 refine Ops.pvg ⟨_, _, rfl, rfl, rfl⟩ (pv_move rfl) rfl ?_
 refine Ops.pvg ⟨_, _, rfl, rfl, rfl⟩ (pv_nilCheck rfl) rfl ?_
 refine Ops.pvg ⟨_, _, rfl, rfl, rfl⟩ (pv_fieldAddr0 rfl rfl) rfl ?_
 refine Ops.pvg ⟨_, _, rfl, rfl, rfl⟩ (pv_loadK [_] rfl rfl rfl ⟨rfl, trivial⟩) rfl ?_
 refine Ops.efg ⟨_, _, rfl, rfl, rfl⟩ (ef_call (tr_smNode _ sb0 Ls0 hS0 0 3) rfl rfl) ?_
 rintro _ _ ⟨_, Q1, ⟨rfl, hS2⟩, rfl, rfl⟩
 refine Ops.app ?_
 skip
 refine Ops.pvg ⟨_, _, rfl, rfl, rfl⟩ ((pv_neq rfl rfl).fls (fun h => h rad1)) rfl ?_
 refine Ops.pv (pv_pick_false rfl rfl) rfl ?_
 refine Ops.nil ?_
 refine Ends.seq ?_
 refine Wp.cond_false rfl ?_
 refine Wp.skip ?_
 refine Ends.seq ?_
 refine Wp.seq ?_
 refine Wp.region ?_
 refine Ops.pv (pv_build rfl) rfl ?_
 refine Ops.ef rfl (ef_allocK tyZ24 rfl) ?_
 rintro _ _ ⟨b1, rfl, rfl⟩
 refine Ops.ef rfl (ef_storeK rfl rfl rfl rfl) ?_
 rintro _ _ ⟨rfl, rfl⟩
 refine Ops.nil ?_
 refine Ends.seq ?_
 refine Wp.seq ?_
 refine AnyH.start ((b1, .cells [.int .i64 6, .int .i64 9, .int .i64 3, .int .u64 0, .int .u64 0, .int .i64 0].toArray 24) :: []) 4 rfl ?_
 refine Tk 0 rfl rfl (pv_move rfl) rfl ?_
 refine Tk 2 rfl rfl (pv_loadK [_, _, _, _, _, _] rfl rfl rfl ⟨rfl, rfl, rfl, rfl, rfl, rfl, trivial⟩) rfl ?_
 refine AnyH.one 1 (by kernel_rfl) ?_
 refine Turn.ef rfl rfl (ef_callr (tr_rslot _) rfl rfl) ?_ ?_
 ·
  rintro _ _ ⟨rfl, rfl⟩; infer_instance
 rintro _ _ ⟨rfl, rfl⟩
 refine AnyH.one 3 (by kernel_rfl) ?_
 refine Turn.ef rfl rfl (ef_call (tr_mPlant _ cb1 _ ra1 ⟨_, _, _, _, hS2, hT0, rfl⟩ (0, 0) rc) rfl rfl) ?_ ?_
 ·
  rintro _ _ ⟨_, _, ⟨rfl, ⟨sb2, tb2, Ls2, Lt2, hS2, hT2, rfl⟩⟩, rfl, rfl⟩; infer_instance
 rintro _ _ ⟨_, _, ⟨rfl, ⟨sb2, tb2, Ls2, Lt2, hS2, hT2, rfl⟩⟩, rfl, rfl⟩
 refine AnyH.app ?_
 refine AnyH.done (by kernel_rfl) ?_
 refine Ends.seq ?_
 refine Wp.seq ?_
 refine Wp.region ?_
 refine Ops.pv (pv_move rfl) rfl ?_
 refine Ops.ef rfl (ef_callr (tr_rslot _) rfl rfl) ?_
 rintro _ _ ⟨rfl, rfl⟩
 refine Ops.ef rfl (ef_callr (tr_rslot _) rfl rfl) ?_
 rintro _ _ ⟨rfl, rfl⟩
 refine Ops.ef rfl (ef_call (tr_mCopy _ cb1 _ ra2 ⟨_, _, _, _, hS2, hT2, rfl⟩ (by decide) (0, 0) (0, 1) 3) rfl rfl) ?_
 rintro _ _ ⟨_, _, ⟨rfl, ⟨sb2, tb2, Ls2, Lt2, hS2, hT2, rfl⟩⟩, rfl, rfl⟩
 refine Ops.app ?_
 refine Ops.nil ?_
 refine Ends.seq ?_
 refine Wp.seq ?_
 refine Wp.region ?_
 refine Ops.pv (pv_move rfl) rfl ?_
 refine Ops.ef rfl (ef_callr (tr_rslot _) rfl rfl) ?_
 rintro _ _ ⟨rfl, rfl⟩
 refine Ops.ef rfl (ef_callr (tr_rslot _) rfl rfl) ?_
 rintro _ _ ⟨rfl, rfl⟩
 refine Ops.ef rfl (ef_call (tr_mCopy _ cb1 _ ra3 ⟨_, _, _, _, hS2, hT2, rfl⟩ (by decide) (0, 1) (0, 2) 1) rfl rfl) ?_
 rintro _ _ ⟨_, _, ⟨rfl, ⟨sb2, tb2, Ls2, Lt2, hS2, hT2, rfl⟩⟩, rfl, rfl⟩
 refine Ops.app ?_
 refine Ops.nil ?_
 refine Ends.seq ?_
 refine Wp.seq ?_
 refine Wp.seq ?_
 refine Wp.region ?_
 refine Ops.pv (pv_move rfl) rfl ?_
 refine Ops.ef rfl (ef_callr (tr_rslot _) rfl rfl) ?_
 rintro _ _ ⟨rfl, rfl⟩
 refine Ops.ef rfl (ef_callr ((tr_rFinal _ cb1 _ ra4 ⟨_, _, _, _, hS2, hT2, rfl⟩ (0, 0)).eq (by rw [rf4])) rfl rfl) ?_
 rintro _ _ ⟨rfl, rfl⟩
 refine Ops.nil ?_
 refine Ends.seq ?_
 refine Wp.cond_false rfl ?_
 refine Wp.skip ?_
 refine Ends.seq ?_
 refine Wp.seq ?_
 refine Wp.region ?_
 refine Ops.pv (pv_move rfl) rfl ?_
 refine Ops.ef rfl (ef_callr (tr_rslot _) rfl rfl) ?_
 rintro _ _ ⟨rfl, rfl⟩
 refine Ops.ef rfl (ef_call (tr_rev4 ⟨_, _, _, _, hS2, hT2, rfl⟩ (by decide)) rfl rfl) ?_
 rintro _ _ ⟨_, _, ⟨v5, T5, H5, hs5, hC5, rfl, rfl⟩, rfl, rfl⟩
 refine Ops.app ?_
 refine Ops.pv (pv_move rfl) rfl ?_
 refine Ops.pv (pv_extract rfl rfl) rfl ?_
 refine Ops.pv (pv_extract rfl rfl) rfl ?_
 refine Ops.pv (pv_extract rfl rfl) rfl ?_
 refine Ops.pv (pv_assign rfl) rfl ?_
 refine Ops.pv (pv_assign rfl) rfl ?_
 refine Ops.pv (pv_assign rfl) rfl ?_
 refine Ops.nil ?_
 refine Ends.seq ?_
 refine Wp.seq ?_
 refine Wp.region ?_
 refine Ops.pv (pv_move rfl) rfl ?_
 refine Ops.ef rfl (ef_callr (tr_rslot _) rfl rfl) ?_
 rintro _ _ ⟨rfl, rfl⟩
 refine Ops.ef rfl (ef_call (tr_rev5 hC5 (by decide)) rfl rfl) ?_
 rintro _ _ ⟨_, _, ⟨v6, T6, H6, hs6, hC6, rfl, rfl⟩, rfl, rfl⟩
 refine Ops.app ?_
 refine Ops.pv (pv_move rfl) rfl ?_
 refine Ops.pv (pv_extract rfl rfl) rfl ?_
 refine Ops.pv (pv_extract rfl rfl) rfl ?_
 refine Ops.pv (pv_extract rfl rfl) rfl ?_
 refine Ops.pv (pv_assign rfl) rfl ?_
 refine Ops.pv (pv_assign rfl) rfl ?_
 refine Ops.pv (pv_assign rfl) rfl ?_
 refine Ops.nil ?_
 refine Ends.seq ?_
 refine Wp.seq ?_
 refine Wp.seq ?_
 refine Wp.region ?_
 refine Ops.pv (pv_move rfl) rfl ?_
 refine Ops.pv (pv_move rfl) rfl ?_
 refine Ops.pvg ⟨_, _, rfl, rfl, rfl⟩ (pv_move rfl) rfl ?_
 refine Ops.pvg ⟨_, _, rfl, rfl, rfl⟩ ((pv_neq rfl rfl).fls (by first | exact fun h => h rfl | decide | omega | assumption)) rfl ?_
 refine Ops.pv (pv_pick_false rfl rfl) rfl ?_
 refine Ops.pv (pv_move rfl) rfl ?_
 refine Ops.pvg ⟨_, _, rfl, rfl, rfl⟩ (pv_move rfl) rfl ?_
 refine Ops.pvg ⟨_, _, rfl, rfl, rfl⟩ (pv_not rfl) rfl ?_
 refine Ops.pv (pv_pick_false rfl rfl) rfl ?_
 refine Ops.pv (pv_move rfl) rfl ?_
 refine Ops.pvg ⟨_, _, rfl, rfl, rfl⟩ (pv_move rfl) rfl ?_
 refine Ops.pvg ⟨_, _, rfl, rfl, rfl⟩ ((pv_neq rfl rfl).fls (by first | exact fun h => h rfl | decide | omega | assumption)) rfl ?_
 refine Ops.pv (pv_pick_false rfl rfl) rfl ?_
 refine Ops.pv (pv_move rfl) rfl ?_
 refine Ops.pvg ⟨_, _, rfl, rfl, rfl⟩ (pv_move rfl) rfl ?_
 refine Ops.efg ⟨_, _, rfl, rfl, rfl⟩ (ef_callr (tr_rslot _) rfl rfl) ?_
 rintro _ _ ⟨rfl, rfl⟩
 refine Ops.efg ⟨_, _, rfl, rfl, rfl⟩ (ef_callr ((tr_rFinal _ cb1 _ ra6 hC6 (0, 0)).eq (by rw [rf6])) rfl rfl) ?_
 rintro _ _ ⟨rfl, rfl⟩
 refine Ops.pvg ⟨_, _, rfl, rfl, rfl⟩ (pv_not rfl) rfl ?_
 refine Ops.pv (pv_pick_false rfl rfl) rfl ?_
 refine Ops.nil ?_
 refine Ends.seq ?_
 refine Wp.cond_false rfl ?_
 refine Wp.skip ?_
 refine Ends.seq ?_
 refine Wp.seq ?_
 refine Wp.region ?_
 refine Ops.pv (pv_move rfl) rfl ?_
 refine Ops.ef rfl (ef_callr (tr_rslot _) rfl rfl) ?_
 rintro _ _ ⟨rfl, rfl⟩
 refine Ops.ef rfl (ef_call (tr_del6 hC6 (by decide)) rfl rfl) ?_
 rintro _ _ ⟨_, _, ⟨v7, T7, H7, hs7, ⟨sb7, tb7, Ls7, Lt7, hS7, hT7, rfl⟩, rfl, rfl⟩, rfl, rfl⟩
 refine Ops.app ?_
 obtain ⟨p7, q7, rfl⟩ := hs7.form
 refine Ops.pv (pv_move rfl) rfl ?_
 refine Ops.pv (pv_extract rfl rfl) rfl ?_
 refine Ops.pv (pv_extract rfl rfl) rfl ?_
 refine Ops.pv (pv_extract rfl rfl) rfl ?_
 refine Ops.pv (pv_assign rfl) rfl ?_
 refine Ops.pv (pv_assign rfl) rfl ?_
 refine Ops.pv (pv_assign rfl) rfl ?_
 refine Ops.nil ?_
 refine Ends.seq ?_
 refine Wp.seq ?_
 refine Wp.region ?_
 refine Ops.pv (pv_move rfl) rfl ?_
 refine Ops.pv (pv_loadK [_, _, _, _, _, _] rfl rfl rfl ⟨rfl, rfl, rfl, rfl, rfl, rfl, trivial⟩) rfl ?_
 refine Ops.ef rfl (ef_buildSlice1 (k := 6) rfl rfl rfl rfl rfl) ?_
 rintro _ _ ⟨b2, rfl, rfl⟩
 refine Ops.ef rfl (ef_callr ((tr_sameCaps (T7 ++ (b2, .cells [.int .i64 6, .int .i64 9, .int .i64 3, .int .u64 0, .int .u64 0, .int .i64 0].toArray 24) :: []) _ _ _ _ [rc] [rc] (hs7.view.mono (by intro p hp; simp [hp])) ((view_lit (n := 1) rfl).mono (by intro p hp; rw [List.mem_singleton] at hp; subst hp; exact List.mem_append_right _ (List.mem_singleton.2 rfl))) (by decide)).eq (r' := .bool true) (by rw [decide_eq_true rfl])) rfl rfl) ?_
 rintro _ _ ⟨rfl, rfl⟩
 refine Ops.pv (pv_move rfl) rfl ?_
 refine Ops.pvg ⟨_, _, rfl, rfl, rfl⟩ (pv_move rfl) rfl ?_
 refine Ops.pv (pv_pick_true rfl rfl) rfl ?_
 refine Ops.pv (pv_move rfl) rfl ?_
 refine Ops.pvg ⟨_, _, rfl, rfl, rfl⟩ (pv_move rfl) rfl ?_
 refine Ops.pvg ⟨_, _, rfl, rfl, rfl⟩ ((pv_eql rfl rfl).tru (by first | rfl | decide | omega | assumption | (simp; done) | (simp; omega))) rfl ?_
 refine Ops.pv (pv_pick_true rfl rfl) rfl ?_
 refine Ops.pv (pv_move rfl) rfl ?_
 refine Ops.pvg ⟨_, _, rfl, rfl, rfl⟩ (pv_move rfl) rfl ?_
 refine Ops.pvg ⟨_, _, rfl, rfl, rfl⟩ (pv_nilCheck rfl) rfl ?_
 refine Ops.pvg ⟨_, _, rfl, rfl, rfl⟩ (pv_fieldAddr0 rfl rfl) rfl ?_
 refine Ops.pvg ⟨_, _, rfl, rfl, rfl⟩ (pv_fieldAddr0 rfl rfl) rfl ?_
 refine Ops.pvg ⟨_, _, rfl, rfl, rfl⟩ (pv_load rfl rfl rfl) rfl ?_
 refine Ops.efg ⟨_, _, rfl, rfl, rfl⟩ (ef_call (sf_full hS7) rfl rfl) ?_
 rintro _ _ ⟨_, _, ⟨C1, hc1, rfl⟩, rfl, rfl⟩
 refine Ops.app ?_
 rw [rfl7] at hc1
 obtain ⟨pp1, qq1, rfl⟩ := hc1.form
 refine Ops.pvg ⟨_, _, rfl, rfl, rfl⟩ (pv_len_slice (T := 41) rfl rfl) rfl ?_
 refine Ops.pvg ⟨_, _, rfl, rfl, rfl⟩ ((pv_eql rfl rfl).tru (by first | rfl | decide | omega | assumption | (simp; done) | (simp; omega))) rfl ?_
 refine Ops.pv (pv_pick_true rfl rfl) rfl ?_
 refine Ops.pv (pv_assign rfl) rfl ?_
 refine Ops.nil ?_
 refine Ends.seq ?_
 refine Wp.ret ?_
 exact Ends.ret (res1 rfl rfl) ⟨rfl, rfl⟩
end Go.Proofs.Ytdodfnjmkpgdbaa
end
section
set_option linter.unusedVariables false
set_option linter.unusedSimpArgs false
set_option linter.unusedSectionVars false
namespace Go.Proofs.Ytdodfnjmkpgdbaa
open Go.SL
structure OpR where
  o : OpC
  steps : Int
def OpR.cells (x : OpR) : List Value := x.o.cells ++ [.int .i64 x.steps]
def nodesP : Nat → PS
  | 0 => PS.new
  | i + 1 => (mNode (nodesP i) i 3).2
theorem nodesP_wok : ∀ i, WOk (nodesP i)
  | 0 => wok_new
  | i + 1 => (nodesP_wok i).node i 3
def actR (p : PS) (x : OpC) : PS :=
  if x.kind = 2 then (mPlant p x.a x.c).2 else if x.kind = 4 then (mCopy p x.a x.b x.rights).2 else if x.kind = 5 then (mMint p x.a x.b x.rights x.badge x.guard x.bits).2 else if x.kind = 6 then (mMove p x.a x.b).2 else p
def madeTo (l : List OpR) : Nat → PS
  | 0 => nodesP 3
  | i + 1 => match l[i]? with
    | none => madeTo l i
    | some x => actR (madeTo l i) x.o
def madeP (l : List OpR) : PS := madeTo l (min l.length 50)
theorem actR_wok {p : PS} (h : WOk p) {x : OpC} (hx : x.Rg) : WOk (actR p x) := by
 unfold actR
 split
 ·
  exact h.plant _ hx.c
 split
 ·
  exact h.copy _ _ hx.rights
 split
 ·
  exact h.mint _ _ hx.rights hx.badge hx.guard
 split
 ·
  exact h.move _ _
 exact h
theorem madeTo_wok {l : List OpR} (hr : ∀ x, x ∈ l → OpC.Rg x.o) : ∀ i, WOk (madeTo l i)
  | 0 => nodesP_wok 3
  | i + 1 => by
    unfold madeTo
    split
    · exact madeTo_wok hr i
    · rename_i x hx; exact actR_wok (madeTo_wok hr i) (hr x (List.mem_of_getElem? hx))
set_option maxHeartbeats 8000000 in
theorem tr_rmade (G : Hp) (a : Option Addr) (c : Nat) (l : List OpR) (ha : ArgS G 19 a (l.map OpR.cells)) (hl : l.length ≤ maxLen) : Tr Try.prog 39 [.slice a l.length c] (G) (fun v L' => ∃ cb H, v = cpP cb ∧ CapsH 50 (madeP l) cb H ∧ L' = H ++ G) := by
 refine Tr.enter Try.func39 rfl Try.ntmps39 rfl (fun W F => ?_)
 refine Wp.app ?_
 refine Wp.seq ?_
 refine Wp.region ?_
 refine Ops.pv (pv_assign rfl) rfl ?_
 refine Ops.nil ?_
 refine Ends.seq ?_
 refine Wp.seq ?_
 refine Wp.region ?_
 refine Ops.ef rfl (ef_call (tr_mNew) rfl rfl) ?_
 rintro _ _ ⟨_, _, ⟨cb1, rfl, sb0, tb0, Ls0, Lt0, hS0, hT0, rfl⟩, rfl, rfl⟩
 refine Ops.app ?_
 refine Ops.pv (pv_assign rfl) rfl ?_
 refine Ops.nil ?_
 refine Ends.seq ?_
 refine Wp.seq ?_
 refine Wp.seq ?_
 refine Wp.region ?_
 refine Ops.pv (pv_assign rfl) rfl ?_
 refine Ops.nil ?_
 refine Ends.seq ?_
 refine Wp.block ?_
 refine Wp.loopK (σ := Nat × Hp) [(0, _), (3, _)] (fun s => [(4, .int .i64 s.1)]) (fun s => cBlk cb1 sb0 tb0 :: (s.2 ++ (Lt0 ++ (G ++ F)))) (fun s => s.1 ≤ 3 ∧ StF (nodesP s.1).l sb0 s.2) (fun s => 3 - s.1) (0, Ls0) ⟨Nat.zero_le _, hS0⟩ ⟨rfl, rfl, trivial⟩ ⟨rfl, trivial⟩ (by intro w ho; (try dsimp only [List.nil_append, List.cons_append]); exact Drop.own ho) ?_
 rintro ⟨j, Ln⟩ KK ⟨hj, hSn⟩ hK
 dsimp only [List.cons_append, List.nil_append] at hK ⊢
 dsimp only at hj hSn ⊢
 refine Wp.seq ?_
 refine Wp.seq ?_
 refine Wp.region ?_
 refine Ops.pv (pv_move rfl) rfl ?_
 refine Ops.pv (pv_lss rfl rfl) rfl ?_
 refine Ops.nil ?_
 refine Ends.seq ?_
 refine Wp.cond_dect rfl (fun h1 => ?_) (fun h1 => ?_)
 ·
  refine Wp.skip ?_
  refine Ends.seq ?_
  refine Wp.seq ?_
  refine Wp.block ?_
  refine Wp.region ?_
  refine Ops.pv (pv_move rfl) rfl ?_
  refine Ops.pv (pv_nilCheck rfl) rfl ?_
  refine Ops.pv (pv_fieldAddr0 rfl rfl) rfl ?_
  refine Ops.pv (pv_loadK [_] rfl rfl rfl ⟨rfl, trivial⟩) rfl ?_
  refine Ops.pv (pv_move rfl) rfl ?_
  refine Ops.ef rfl (ef_call (tr_smNode _ sb0 Ln hSn (j : Int) 3) rfl rfl) ?_
  rintro _ _ ⟨_, Q1, ⟨rfl, hS2⟩, rfl, rfl⟩
  refine Ops.app ?_
  skip
  refine Ops.nil ?_
  refine Ends.block_normal ?_
  refine Ends.seq ?_
  refine Wp.region ?_
  refine Ops.pv (pv_move rfl) rfl ?_
  refine Ops.pv (pv_add rfl rfl (w64n (k := j + 1) (by omega) (by omega))) rfl ?_
  refine Ops.pv (pv_assign rfl) rfl ?_
  refine Ops.nil ?_
  refine Ends.goes ?_
  refine Goes.back (hK (j + 1, Q1) ⟨by dsimp only; omega, hS2⟩ (by dsimp only; omega)) ⟨rfl, rfl, rfl, trivial⟩
 obtain rfl : j = 3 := by omega
 refine Wp.exit ?_
 refine Ends.then_exit ?_
 refine Ends.then_exit ?_
 refine Ends.block_hit ?_
 refine Ends.seq ?_
 refine Wp.seq ?_
 refine Wp.seq ?_
 refine Wp.region ?_
 refine Ops.pv (pv_assign rfl) rfl ?_
 refine Ops.nil ?_
 refine Ends.seq ?_
 refine Wp.block ?_
 refine Wp.loopK (σ := Nat × PS × Nat × Nat × Hp × Hp) [(0, _), (3, _)] (fun s => [(5, .int .i64 s.1)]) (fun s => cBlk cb1 s.2.2.1 s.2.2.2.1 :: (s.2.2.2.2.1 ++ (s.2.2.2.2.2 ++ (G ++ F)))) (fun s => s.1 ≤ l.length ∧ s.1 ≤ 50 ∧ StF s.2.1.l s.2.2.1 s.2.2.2.2.1 ∧ TrF s.1 s.2.1.F s.2.2.2.1 s.2.2.2.2.2 ∧ s.2.1 = madeTo l s.1) (fun s => l.length - s.1) (0, nodesP 3, sb0, tb0, Ln, Lt0) ⟨Nat.zero_le _, Nat.zero_le _, hSn, hT0, rfl⟩ ⟨rfl, rfl, trivial⟩ ⟨rfl, trivial⟩ (by intro w ho; (try dsimp only [List.nil_append, List.cons_append]); exact Drop.own ho) ?_
 rintro ⟨i, p, sb, tb, Ls, Lt⟩ KK ⟨hi, hi2, hS, hT, hpe⟩ hK
 dsimp only [List.cons_append, List.nil_append] at hK ⊢
 dsimp only at hi hi2 hS hT hpe ⊢
 refine Wp.seq ?_
 refine Wp.seq ?_
 refine Wp.region ?_
 refine Ops.pv (pv_move rfl) rfl ?_
 refine Ops.pv (pv_move rfl) rfl ?_
 refine Ops.pv (pv_len_slice (T := 71) rfl rfl) rfl ?_
 refine Ops.pv (pv_lss rfl rfl) rfl ?_
 refine Ops.pv (pv_move rfl) rfl ?_
 refine Ops.pvc rfl rfl (fun hg => pv_move rfl) rfl ?_
 refine Ops.pvc rfl rfl (fun hg => Pv.setE (t := 23) rfl (cv_pos hg) (pv_lss rfl rfl)) rfl ?_
 refine Ops.pv (pv_pick_and rfl rfl) rfl ?_
 refine Ops.nil ?_
 refine Ends.seq ?_
 refine Wp.cond_dect rfl (fun h2 => ?_) (fun h2 => ?_)
 ·
  obtain ⟨x, hq⟩ : ∃ x, l[i]? = some x := ⟨_, List.getElem?_eq_getElem (by omega)⟩
  obtain ⟨_, b, o, cc, T, f, rfl, hmm, hr⟩ := ha i x.cells (by rw [List.getElem?_map, hq]; rfl)
  have hbg : Blk G b (.cells cc.toArray T f) := ⟨hmm⟩
  refine Wp.skip ?_
  refine Ends.seq ?_
  refine Wp.seq ?_
  refine Wp.block ?_
  refine Wp.seq ?_
  refine Wp.region ?_
  refine Ops.pv (pv_move rfl) rfl ?_
  refine Ops.pv (pv_move rfl) rfl ?_
  refine Ops.pv (pv_indexAddr (i := i) rfl rfl rfl (by omega)) rfl ?_
  refine Ops.pv (pv_fieldAddr rfl rfl) rfl ?_
  refine Ops.pv (pv_loadK x.o.cells rfl rfl rfl ⟨hr.1, hr.2.1, hr.2.2.1, hr.2.2.2.1, hr.2.2.2.2.1, hr.2.2.2.2.2.1, hr.2.2.2.2.2.2.1, hr.2.2.2.2.2.2.2.1, hr.2.2.2.2.2.2.2.2.1, hr.2.2.2.2.2.2.2.2.2.1, hr.2.2.2.2.2.2.2.2.2.2.1, hr.2.2.2.2.2.2.2.2.2.2.2.1, hr.2.2.2.2.2.2.2.2.2.2.2.2.1, hr.2.2.2.2.2.2.2.2.2.2.2.2.2.1, hr.2.2.2.2.2.2.2.2.2.2.2.2.2.2.1, hr.2.2.2.2.2.2.2.2.2.2.2.2.2.2.2.1, hr.2.2.2.2.2.2.2.2.2.2.2.2.2.2.2.2.1, hr.2.2.2.2.2.2.2.2.2.2.2.2.2.2.2.2.2.1, trivial⟩) rfl ?_
  refine Ops.ef rfl (ef_allocK tyZ51 rfl) ?_
  rintro _ _ ⟨b1, rfl, rfl⟩
  refine Ops.ef rfl (ef_storeK rfl rfl rfl rfl) ?_
  rintro _ _ ⟨rfl, rfl⟩
  refine Ops.nil ?_
  refine Ends.seq ?_
  refine Wp.seq ?_
  refine Wp.region ?_
  refine Ops.pv (pv_fieldAddr0 rfl rfl) rfl ?_
  refine Ops.pv (pv_load rfl rfl rfl) rfl ?_
  refine Ops.nil ?_
  refine Ends.seq ?_
  refine Wp.block ?_
  refine Wp.seq ?_
  refine Wp.region ?_
  refine Ops.pv (pv_eql rfl rfl) rfl ?_
  refine Ops.pv (pv_assign rfl) rfl ?_
  refine Ops.nil ?_
  refine Ends.seq ?_
  refine Wp.cond_dect rfl (fun h3 => ?_) (fun h3 => ?_)
  ·
   refine Wp.region ?_
   refine Ops.pv (pv_move rfl) rfl ?_
   refine Ops.pv (pv_fieldAddr0 rfl rfl) rfl ?_
   refine Ops.pv (pv_loadK [_, _] rfl rfl rfl ⟨rfl, rfl, trivial⟩) rfl ?_
   refine Ops.pv (pv_fieldAddr0 rfl rfl) rfl ?_
   refine Ops.pv (pv_loadK [_, _, _, _, _, _] rfl rfl rfl ⟨rfl, rfl, rfl, rfl, rfl, rfl, trivial⟩) rfl ?_
   refine Ops.ef rfl (ef_call (tr_mPlant _ cb1 _ p ⟨_, _, _, _, hS, hT, rfl⟩ x.o.a x.o.c) rfl rfl) ?_
   rintro _ _ ⟨_, _, ⟨rfl, sb2, tb2, Ls2, Lt2, hS2, hT2, rfl⟩, rfl, rfl⟩
   refine Ops.app ?_
   refine Ops.nil ?_
   refine Ends.block_normal ?_
   refine Ends.block_normal ?_
   refine Ends.seq ?_
   refine Wp.region ?_
   refine Ops.pv (pv_move rfl) rfl ?_
   refine Ops.pv (pv_add rfl rfl (w64 (by omega) (by omega))) rfl ?_
   refine Ops.pv (pv_assign rfl) rfl ?_
   refine Ops.nil ?_
   refine Ends.goes ?_
   have he : actR p x.o = (mPlant p x.o.a x.o.c).2 := by unfold actR; simp_all
   refine Goes.back (hK (i + 1, (mPlant p x.o.a x.o.c).2, sb2, tb2, Ls2, Lt2) ⟨by dsimp only; omega, by dsimp only; omega, hS2, hT2.more (by omega), by dsimp only; unfold madeTo; rw [hq, ← hpe]; exact he.symm⟩ (by dsimp only; omega)) ⟨rfl, rfl, rfl, trivial⟩
  refine Wp.seq ?_
  refine Wp.region ?_
  refine Ops.pv (pv_eql rfl rfl) rfl ?_
  refine Ops.pv (pv_assign rfl) rfl ?_
  refine Ops.nil ?_
  refine Ends.seq ?_
  refine Wp.cond_dect rfl (fun h4 => ?_) (fun h4 => ?_)
  ·
   refine Wp.region ?_
   refine Ops.pv (pv_move rfl) rfl ?_
   refine Ops.pv (pv_fieldAddr0 rfl rfl) rfl ?_
   refine Ops.pv (pv_loadK [_, _] rfl rfl rfl ⟨rfl, rfl, trivial⟩) rfl ?_
   refine Ops.pv (pv_fieldAddr0 rfl rfl) rfl ?_
   refine Ops.pv (pv_loadK [_, _] rfl rfl rfl ⟨rfl, rfl, trivial⟩) rfl ?_
   refine Ops.pv (pv_fieldAddr0 rfl rfl) rfl ?_
   refine Ops.pv (pv_load rfl rfl rfl) rfl ?_
   refine Ops.ef rfl (ef_call (tr_mCopy _ cb1 _ p ⟨_, _, _, _, hS, hT, rfl⟩ (by omega) x.o.a x.o.b x.o.rights) rfl rfl) ?_
   rintro _ _ ⟨_, _, ⟨rfl, sb2, tb2, Ls2, Lt2, hS2, hT2, rfl⟩, rfl, rfl⟩
   refine Ops.app ?_
   refine Ops.nil ?_
   refine Ends.block_normal ?_
   refine Ends.block_normal ?_
   refine Ends.seq ?_
   refine Wp.region ?_
   refine Ops.pv (pv_move rfl) rfl ?_
   refine Ops.pv (pv_add rfl rfl (w64 (by omega) (by omega))) rfl ?_
   refine Ops.pv (pv_assign rfl) rfl ?_
   refine Ops.nil ?_
   refine Ends.goes ?_
   have he : actR p x.o = (mCopy p x.o.a x.o.b x.o.rights).2 := by unfold actR; simp_all
   refine Goes.back (hK (i + 1, (mCopy p x.o.a x.o.b x.o.rights).2, sb2, tb2, Ls2, Lt2) ⟨by dsimp only; omega, by dsimp only; omega, hS2, hT2.more (by omega), by dsimp only; unfold madeTo; rw [hq, ← hpe]; exact he.symm⟩ (by dsimp only; omega)) ⟨rfl, rfl, rfl, trivial⟩
  refine Wp.seq ?_
  refine Wp.region ?_
  refine Ops.pv (pv_eql rfl rfl) rfl ?_
  refine Ops.pv (pv_assign rfl) rfl ?_
  refine Ops.nil ?_
  refine Ends.seq ?_
  refine Wp.cond_dect rfl (fun h5 => ?_) (fun h5 => ?_)
  ·
   refine Wp.region ?_
   refine Ops.pv (pv_move rfl) rfl ?_
   refine Ops.pv (pv_fieldAddr0 rfl rfl) rfl ?_
   refine Ops.pv (pv_loadK [_, _] rfl rfl rfl ⟨rfl, rfl, trivial⟩) rfl ?_
   refine Ops.pv (pv_fieldAddr0 rfl rfl) rfl ?_
   refine Ops.pv (pv_loadK [_, _] rfl rfl rfl ⟨rfl, rfl, trivial⟩) rfl ?_
   refine Ops.pv (pv_fieldAddr0 rfl rfl) rfl ?_
   refine Ops.pv (pv_load rfl rfl rfl) rfl ?_
   refine Ops.pv (pv_fieldAddr0 rfl rfl) rfl ?_
   refine Ops.pv (pv_load rfl rfl rfl) rfl ?_
   refine Ops.pv (pv_fieldAddr0 rfl rfl) rfl ?_
   refine Ops.pv (pv_load rfl rfl rfl) rfl ?_
   refine Ops.pv (pv_fieldAddr0 rfl rfl) rfl ?_
   refine Ops.pv (pv_load rfl rfl rfl) rfl ?_
   refine Ops.ef rfl (ef_call (tr_mMint _ cb1 _ p ⟨_, _, _, _, hS, hT, rfl⟩ (by omega) x.o.a x.o.b x.o.rights x.o.badge x.o.guard x.o.bits) rfl rfl) ?_
   rintro _ _ ⟨_, _, ⟨rfl, sb2, tb2, Ls2, Lt2, hS2, hT2, rfl⟩, rfl, rfl⟩
   refine Ops.app ?_
   refine Ops.nil ?_
   refine Ends.block_normal ?_
   refine Ends.block_normal ?_
   refine Ends.seq ?_
   refine Wp.region ?_
   refine Ops.pv (pv_move rfl) rfl ?_
   refine Ops.pv (pv_add rfl rfl (w64 (by omega) (by omega))) rfl ?_
   refine Ops.pv (pv_assign rfl) rfl ?_
   refine Ops.nil ?_
   refine Ends.goes ?_
   have he : actR p x.o = (mMint p x.o.a x.o.b x.o.rights x.o.badge x.o.guard x.o.bits).2 := by unfold actR; simp_all
   refine Goes.back (hK (i + 1, (mMint p x.o.a x.o.b x.o.rights x.o.badge x.o.guard x.o.bits).2, sb2, tb2, Ls2, Lt2) ⟨by dsimp only; omega, by dsimp only; omega, hS2, hT2.more (by omega), by dsimp only; unfold madeTo; rw [hq, ← hpe]; exact he.symm⟩ (by dsimp only; omega)) ⟨rfl, rfl, rfl, trivial⟩
  refine Wp.seq ?_
  refine Wp.region ?_
  refine Ops.pv (pv_eql rfl rfl) rfl ?_
  refine Ops.pv (pv_assign rfl) rfl ?_
  refine Ops.nil ?_
  refine Ends.seq ?_
  refine Wp.cond_dect rfl (fun h6 => ?_) (fun h6 => ?_)
  ·
   refine Wp.region ?_
   refine Ops.pv (pv_move rfl) rfl ?_
   refine Ops.pv (pv_fieldAddr0 rfl rfl) rfl ?_
   refine Ops.pv (pv_loadK [_, _] rfl rfl rfl ⟨rfl, rfl, trivial⟩) rfl ?_
   refine Ops.pv (pv_fieldAddr0 rfl rfl) rfl ?_
   refine Ops.pv (pv_loadK [_, _] rfl rfl rfl ⟨rfl, rfl, trivial⟩) rfl ?_
   refine Ops.ef rfl (ef_call (tr_mMove _ cb1 _ p ⟨_, _, _, _, hS, hT, rfl⟩ x.o.a x.o.b) rfl rfl) ?_
   rintro _ _ ⟨_, _, ⟨rfl, sb2, tb2, Ls2, Lt2, hS2, hT2, rfl⟩, rfl, rfl⟩
   refine Ops.app ?_
   refine Ops.nil ?_
   refine Ends.block_normal ?_
   refine Ends.block_normal ?_
   refine Ends.seq ?_
   refine Wp.region ?_
   refine Ops.pv (pv_move rfl) rfl ?_
   refine Ops.pv (pv_add rfl rfl (w64 (by omega) (by omega))) rfl ?_
   refine Ops.pv (pv_assign rfl) rfl ?_
   refine Ops.nil ?_
   refine Ends.goes ?_
   have he : actR p x.o = (mMove p x.o.a x.o.b).2 := by unfold actR; simp_all
   refine Goes.back (hK (i + 1, (mMove p x.o.a x.o.b).2, sb2, tb2, Ls2, Lt2) ⟨by dsimp only; omega, by dsimp only; omega, hS2, hT2.more (by omega), by dsimp only; unfold madeTo; rw [hq, ← hpe]; exact he.symm⟩ (by dsimp only; omega)) ⟨rfl, rfl, rfl, trivial⟩
  refine Wp.skip ?_
  refine Ends.block_normal ?_
  refine Ends.block_normal ?_
  refine Ends.seq ?_
  refine Wp.region ?_
  refine Ops.pv (pv_move rfl) rfl ?_
  refine Ops.pv (pv_add rfl rfl (w64 (by omega) (by omega))) rfl ?_
  refine Ops.pv (pv_assign rfl) rfl ?_
  refine Ops.nil ?_
  refine Ends.goes ?_
  have he : actR p x.o = p := by unfold actR; simp_all
  refine Goes.back (hK (i + 1, p, sb, tb, Ls, Lt) ⟨by dsimp only; omega, by dsimp only; omega, hS, hT.more (by omega), by dsimp only; unfold madeTo; rw [hq, ← hpe]; exact he.symm⟩ (by dsimp only; omega)) ⟨rfl, rfl, rfl, trivial⟩
 refine Wp.exit ?_
 refine Ends.then_exit ?_
 refine Ends.then_exit ?_
 refine Ends.block_hit ?_
 refine Ends.seq ?_
 refine Wp.seq ?_
 refine Wp.region ?_
 refine Ops.pv (pv_move rfl) rfl ?_
 refine Ops.pv (pv_assign rfl) rfl ?_
 refine Ops.nil ?_
 refine Ends.seq ?_
 refine Wp.ret ?_
 have hmp : madeP l = p := by rw [hpe]; unfold madeP; congr 1; omega
 rw [hmp]
 exact Ends.ret (L' := cBlk cb1 sb tb :: (Ls ++ (Lt ++ G))) (res1 rfl rfl) ⟨cb1, _, rfl, ⟨sb, tb, Ls, Lt, hS, hT.more (by omega), rfl⟩, by rw [List.cons_append, List.append_assoc]⟩
end Go.Proofs.Ytdodfnjmkpgdbaa
end
section
set_option linter.unusedVariables false
set_option linter.unusedSimpArgs false
set_option linter.unusedSectionVars false
namespace Go.Proofs.Ytdodfnjmkpgdbaa
open Go.SL
theorem stepT_wok {t : TS} (h : WOk t.p) (s : SlotM) : WOk (stepT t s).p := by
 unfold stepT; dsimp only
 split
 ·
  exact (h.take s).clear _
 ·
  exact h.take s
theorem Away.wok {t t' : TS} {way : List SlotM} {s : SlotM} {b : Bool} (h : Away t way s b t') : WOk t.p → WOk t'.p := by
 induction h with
 | spent _ _ => exact id
 | step _ _ => exact fun h => stepT_wok h _
 | fall _ _ ih => exact ih
 | next _ _ _ ih1 ih2 => exact fun h => ih2 (ih1 h)
end Go.Proofs.Ytdodfnjmkpgdbaa
end
section
set_option linter.unusedVariables false
set_option linter.unusedSimpArgs false
set_option linter.unusedSectionVars false
namespace Go.Proofs.Ytdodfnjmkpgdbaa
open Go.SL
section
variable {n cb : Nat} {H : Hp} {p : PS} (hC : CapsH n p cb H) (hw : WOk p) (hn : n ≤ 2 ^ 19) {sl : SlotM} (hk : (dget p.l sl).1.kind ≠ 0) {k : Nat} (h1 : 1 ≤ k) (h2 : k ≤ 1000)
include hC hw hn hk h1 h2
theorem tr_revT (h : (ftKin p.F sl).length ≤ k) : Tr Try.prog 37 [cpP cb, slotV sl, .int .i64 k] H (fun u L' => ∃ v' T' H', Slc 24 6 v' 0 [] T' ∧ CapsH n (revS p sl (ftKin p.F sl).length) cb H' ∧ u = .tuple #[v', .bool true, .int .i64 0] ∧ L' = T' ++ H') :=
  (tr_rRevokeW n cb H p hC hw hn sl hk k h1 h2).mono fun u L' ⟨v', T', H', e1, e2, e3, e4⟩ => ⟨v', T', H', e1, by rw [show min k (ftKin p.F sl).length = (ftKin p.F sl).length by omega] at e2; exact e2, by rw [e3, decide_eq_true h, if_pos h], e4⟩
end
end Go.Proofs.Ytdodfnjmkpgdbaa
end
section
set_option linter.unusedVariables false
set_option linter.unusedSimpArgs false
set_option linter.unusedSectionVars false
namespace Go.Proofs.Ytdodfnjmkpgdbaa
open Go.SL
theorem setC_radix {l : List DN} {s : SlotM} {c : CapM} (id : Int) : dradix (dsetC l s c) id = dradix l id := by
 unfold dsetC
 cases hd : dfind l s.1 with
 | none => rfl
 | some d =>
  dsimp only
  unfold dradix
  rw [dfind_set (d := d) (d' := { d with caps := d.caps.set s.2.toNat c }) rfl id hd]
  by_cases e : id = s.1
  ·
   rw [if_pos e, e, hd]
  ·
   rw [if_neg e]
theorem dtake_radix {l : List DN} {s : SlotM} (id : Int) : dradix (dtake l s).2.2 id = dradix l id := by
 unfold dtake
 cases dcap? l s with
 | none => rfl
 | some x =>
  dsimp only
  split
  ·
   rfl
  ·
   exact setC_radix id
theorem dput_radix {l : List DN} {s : SlotM} {c : CapM} (id : Int) : dradix (dput l s c).2 id = dradix l id := by
 unfold dput
 cases dcap? l s with
 | none => rfl
 | some x =>
  dsimp only
  split
  ·
   rfl
  ·
   split
   ·
    rfl
   ·
    split
    ·
     rfl
    ·
     exact setC_radix id
inductive Nxt (l : List DN) : List SlotM → SlotM → SlotM → Prop
  | here {way : List SlotM} {s : SlotM} : innerM l way s = none → Nxt l way s s
  | down {way : List SlotM} {s x y : SlotM} : innerM l way s = some x → Nxt l (way ++ [x]) x y → Nxt l way s y
theorem Nxt.fresh {l : List DN} {way : List SlotM} {s y : SlotM} (h : Nxt l way s y) : y = s ∨ y ∉ way := by
 induction h with
 | here _ => exact .inl rfl
 | @down way s x y hin _ ih =>
  rcases ih with rfl | h
  ·
   exact .inr (innerM_some hin).2.1
  ·
   exact .inr fun e => h (List.mem_append_left _ e)
inductive DRun (way : List SlotM) (s : SlotM) : TS → Bool → TS → Prop
  | spent {t : TS} : t.n = 0 → DRun way s t false t
  | last {t : TS} : t.n ≠ 0 → Nxt t.p.l way s s → DRun way s t true (stepT t s)
  | more {t t' : TS} {y : SlotM} {b : Bool} : t.n ≠ 0 → Nxt t.p.l way s y → y ≠ s → DRun way s (stepT t y) b t' → DRun way s t b t'
theorem stepT_pre (p : PS) (pre told : List CapM) (n : Nat) (s : SlotM) : stepT ⟨p, pre ++ told, n⟩ s = ⟨(stepT ⟨p, told, n⟩ s).p, pre ++ (stepT ⟨p, told, n⟩ s).told, (stepT ⟨p, told, n⟩ s).n⟩ := by
 unfold stepT; dsimp only
 congr 1
 split
 ·
  rw [List.append_assoc]
 ·
  rfl
theorem DRun.told {way : List SlotM} {s : SlotM} {t t' : TS} {b : Bool} (h : DRun way s t b t') (pre : List CapM) : DRun way s ⟨t.p, pre ++ t.told, t.n⟩ b ⟨t'.p, pre ++ t'.told, t'.n⟩ := by
 induction h with
 | spent h0 => exact .spent h0
 | @last t h0 hn =>
  have := DRun.last (way := way) (s := s) (t := ⟨t.p, pre ++ t.told, t.n⟩) h0 hn
  rw [stepT_pre] at this; exact this
 | @more t t' y b h0 hn hy _ ih =>
  refine .more (y := y) h0 hn hy ?_
  rw [stepT_pre]; exact ih
theorem DRun.zero {way : List SlotM} {s : SlotM} {t t' : TS} {b : Bool} (h : DRun way s t b t') : b = false → t'.n = 0 := by
 induction h with
 | spent h0 => exact fun _ => h0
 | last _ _ => exact fun e => by cases e
 | more _ _ _ _ ih => exact ih
end Go.Proofs.Ytdodfnjmkpgdbaa
end
section
set_option linter.unusedVariables false
set_option linter.unusedSimpArgs false
set_option linter.unusedSectionVars false
namespace Go.Proofs.Ytdodfnjmkpgdbaa
open Go.SL
theorem dget_in {l : List DN} (h : HasS l) {s : SlotM} (hr : dradix l s.1 ≠ 0) (h0 : 0 ≤ s.2) (h1 : s.2 < 2 ^ (dradix l s.1).toNat) : (dget l s).2 = 0 := by
 obtain ⟨S, hR⟩ := h
 unfold dradix at hr h1
 cases e : dfind l s.1 with
 | none => rw [e] at hr; exact absurd rfl hr
 | some d =>
  rw [e] at h1
  obtain ⟨n, _, h2, h3, h4, _⟩ := rel_find hR e
  dsimp only at h1
  rw [Int.toNat_natCast, h2] at h1
  have h5 : s.2 < d.caps.length := by rw [h4]; exact_mod_cast h1
  unfold dget dcap?
  rw [e]
  dsimp only
  rw [if_pos ⟨h0, h5⟩, List.getElem?_eq_getElem (by omega)]
theorem dget_off {l : List DN} (h : HasS l) {s : SlotM} (hk : (dget l s).1.kind ≠ 0) : dradix l s.1 ≠ 0 ∧ 0 ≤ s.2 ∧ s.2 < 2 ^ (dradix l s.1).toNat := by
 obtain ⟨S, hR⟩ := h
 unfold dget at hk
 cases e : dcap? l s with
 | none => rw [e] at hk; exact absurd rfl hk
 | some c =>
  obtain ⟨d, hd, hs, _⟩ := dcap_some e
  obtain ⟨n, _, h2, h3, h4, hw⟩ := rel_find hR hd
  have := hw.lo
  unfold dradix
  rw [hd]
  dsimp only
  rw [Int.toNat_natCast, h2]
  refine ⟨by omega, hs.1, ?_⟩
  have h5 := hs.2
  rw [h4] at h5; exact_mod_cast h5
theorem fin_inj {p : PS} (h : POk p) {s : SlotM} (hk : (dget p.l s).1.kind ≠ 0) (hi : ∀ x, (dget p.l x).1.kind = (dget p.l s).1.kind → (dget p.l x).1.object = (dget p.l s).1.object → x = s) : fin p.l s := by
 refine ⟨hk, ?_⟩
 have hm := (mem_dfull h.rel).2 hk
 unfold dcount
 rw [(List.perm_cons_erase hm).countP_eq, List.countP_cons, if_pos (by simp)]
 have : ((dfull p.l).erase s).countP (fun z => decide ((dget p.l z).1.kind = (dget p.l s).1.kind) && decide ((dget p.l z).1.object = (dget p.l s).1.object)) = 0 := by
  rw [List.countP_eq_zero]
  intro z hz hq
  rw [Bool.and_eq_true, decide_eq_true_eq, decide_eq_true_eq] at hq
  have e := hi z hq.1 hq.2
  subst e
  rw [(dfull_nodup h.rel).erase_eq_filter] at hz
  have := (List.mem_filter.1 hz).2
  simp at this
 omega
structure ChI (n m : Nat) (p : PS) : Prop where
  ok : POk p
  mn : m ≤ n
  r0 : dradix p.l 0 = 2
  rin : ∀ id : Nat, 1 ≤ id → id ≤ m → dradix p.l id = 2
  rout : ∀ id : Nat, m < id → id ≤ n → dradix p.l id = 0
  link : ∀ id : Nat, 1 ≤ id → id ≤ m → (dget p.l ((id : Int) - 1, 1)).1 = ⟨2, id, 0, 0, 0, 0⟩
  only : ∀ s : SlotM, (dget p.l s).1.kind ≠ 0 → (∃ id : Nat, 1 ≤ id ∧ id ≤ m ∧ s = ((id : Int) - 1, 1)) ∨ ((dget p.l s).1.kind = 6 ∧ ∃ id : Nat, 1 ≤ id ∧ id ≤ m ∧ s.1 = id)
  inj : ∀ s x : SlotM, (dget p.l s).1.kind ≠ 0 → (dget p.l x).1.kind = (dget p.l s).1.kind → (dget p.l x).1.object = (dget p.l s).1.object → x = s
theorem ChI.fin {n m : Nat} {p : PS} (h : ChI n m p) {s : SlotM} (hk : (dget p.l s).1.kind ≠ 0) : fin p.l s := fin_inj h.ok hk fun x => h.inj s x hk
end Go.Proofs.Ytdodfnjmkpgdbaa
end
section
set_option linter.unusedVariables false
set_option linter.unusedSimpArgs false
set_option linter.unusedSectionVars false
namespace Go.Proofs.Ytdodfnjmkpgdbaa
open Go.SL
theorem full_all {p : PS} (h : POk p) : (dfull p.l).length = p.F.all.length := ((List.perm_ext_iff_of_nodup (dfull_nodup h.rel) h.nd).2 fun x => by rw [mem_dfull h.rel, h.on]).length_eq
def cpC : CapM := ⟨4, 7, 7, 0, 0, 0⟩
structure CoI (n : Nat) (p : PS) : Prop where
  wok : WOk p
  rad : dradix p.l 0 = 4
  get : ∀ x : SlotM, (dget p.l x).1 = if x.1 = 0 ∧ 0 ≤ x.2 ∧ x.2 < n then cpC else CapM.zero
  root : ∃ c, p.F = .cons (0, 0) c .nil
  len : p.F.all.length = n
theorem co_derive : derive cpC 7 0 0 0 = (cpC, 0) := by kernel_rfl
theorem CoI.copy {n : Nat} {p : PS} (h : CoI n p) (hn : n < 16) {k : Nat} (hk : k < n) : (mCopy p (0, (k : Int)) (0, (n : Int)) 7).1 = 0 ∧ CoI (n + 1) (mCopy p (0, (k : Int)) (0, (n : Int)) 7).2 := by
 have hgk : (dget p.l (0, (k : Int))).1 = cpC := (h.get _).trans (if_pos ⟨rfl, Int.natCast_nonneg k, Int.ofNat_lt.2 hk⟩)
 have hgn : (dget p.l (0, (n : Int))).1 = CapM.zero := by rw [h.get, if_neg (fun e => absurd e.2.2 (Int.lt_irrefl _))]
 have hkk : (dget p.l (0, (k : Int))).1.kind ≠ 0 := by rw [hgk]; decide
 have hkn : (dget p.l (0, (n : Int))).1.kind = 0 := by rw [hgn]
 have hen : (dget p.l (0, (n : Int))).2 = 0 := dget_in h.wok.ok.rel (by show dradix p.l 0 ≠ 0; rw [h.rad]; decide) (by show (0 : Int) ≤ n; omega) (by show (n : Int) < 2 ^ (dradix p.l 0).toNat; rw [h.rad]; show (n : Int) < 16; omega)
 have hs := src_iff.2 hkk
 have hb : (mBoth p (0, (k : Int)) (0, (n : Int))).2 = 0 := by
  unfold mBoth; dsimp only
  rw [if_pos hs]
  unfold mPlace
  rw [if_neg (fun e => e.2 hkn)]; exact hen
 obtain ⟨e1, _⟩ := both_ok hb
 rw [hgk] at e1
 have hput : (dput p.l (0, (n : Int)) cpC).1 = 0 := (put_iff h.wok.ok.rel).2 ⟨hen, hkn, by kernel_rfl, by decide⟩
 have hm : mCopy p (0, (k : Int)) (0, (n : Int)) 7 = (0, ⟨(dput p.l (0, (n : Int)) cpC).2, p.F.addc (0, (k : Int)) (0, (n : Int))⟩) := by
  unfold mCopy mMint
  rw [if_neg (by rw [hb]; decide), e1, hgk, show cpC.guard = 0 from rfl, show cpC.bits = 0 from rfl, co_derive, if_neg (by decide)]
  unfold mChild
  rw [if_neg (by rw [hb]; decide), hput, if_pos rfl, child_F h.wok.ok hkk hkn]
 have hw := h.wok.copy (0, (k : Int)) (0, (n : Int)) (r := 7) (by unfold i64R; decide)
 rw [hm] at hw ⊢
 refine ⟨rfl, hw, by rw [← h.rad]; exact dput_radix 0, fun x => ?_, ?_, ?_⟩
 ·
  show (dget (dput p.l (0, (n : Int)) cpC).2 x).1 = _
  rw [put_get h.wok.ok.rel hput]
  by_cases e : x = (0, (n : Int))
  ·
   rw [if_pos e, if_pos (by rw [e]; exact ⟨rfl, by show (0 : Int) ≤ n; omega, by show (n : Int) < ((n + 1 : Nat) : Int); omega⟩)]
  ·
   rw [if_neg e, h.get]
   by_cases e2 : x.1 = 0 ∧ 0 ≤ x.2 ∧ x.2 < n
   ·
    rw [if_pos e2, if_pos ⟨e2.1, e2.2.1, by have := e2.2.2; omega⟩]
   ·
    rw [if_neg e2, if_neg (fun e3 => e2 ⟨e3.1, e3.2.1, by
     have h4 := e3.2.2
     have h5 : x.2 ≠ n := fun h6 => e (Prod.ext e3.1 h6)
     omega⟩)]
 ·
  obtain ⟨c, hc⟩ := h.root
  rw [hc]
  show ∃ c', Fo.addc _ _ (Fo.cons (0, 0) c .nil) = _
  by_cases e : ((0 : Int), (0 : Int)) = (0, (k : Int))
  ·
   exact ⟨_, by unfold Fo.addc; rw [if_pos e]⟩
  ·
   exact ⟨_, by rw [Fo.addc, if_neg e]; rfl⟩
 ·
  show (Fo.all (p.F.addc _ _)).length = _
  rw [(Fo.all_addc_perm h.wok.ok.nd ((h.wok.ok.on _).2 hkk)).length_eq, List.length_append, h.len]; rfl
end Go.Proofs.Ytdodfnjmkpgdbaa
end
section
set_option linter.unusedVariables false
set_option linter.unusedSimpArgs false
set_option linter.unusedSectionVars false
namespace Go.Proofs.Ytdodfnjmkpgdbaa
open Go.SL
theorem child_radix {p : PS} {o s : SlotM} {c : CapM} (id : Int) : dradix (mChild p o s c).2.l id = dradix p.l id := by
 unfold mChild
 split
 ·
  rfl
 ·
  exact dput_radix id
theorem mint_radix {p : PS} {s d : SlotM} {r b g n : Int} (id : Int) : dradix (mMint p s d r b g n).2.l id = dradix p.l id := by
 unfold mMint
 split
 ·
  rfl
 ·
  split
  ·
   rfl
  ·
   exact child_radix id
theorem move_radix {p : PS} {s d : SlotM} (id : Int) : dradix (mMove p s d).2.l id = dradix p.l id := by
 unfold mMove
 dsimp only
 split
 ·
  exact (dput_radix id).trans (dtake_radix id)
 ·
  rfl
theorem actR_radix {p : PS} {x : OpC} (id : Int) : dradix (actR p x).l id = dradix p.l id := by
 unfold actR
 split
 ·
  exact dput_radix id
 ·
  split
  ·
   exact mint_radix id
  ·
   split
   ·
    exact mint_radix id
   ·
    split
    ·
     exact move_radix id
    ·
     rfl
theorem madeTo_radix (l : List OpR) (id : Int) : ∀ i, dradix (madeTo l i).l id = dradix (nodesP 3).l id
  | 0 => rfl
  | i + 1 => by
    unfold madeTo
    split
    · exact madeTo_radix l id i
    · exact (actR_radix id).trans (madeTo_radix l id i)
theorem nodes3_ids : (nodesP 3).l.map (fun d => (d.id, d.rad)) = [(0, 3), (1, 3), (2, 3)] := by kernel_rfl
theorem nodes3_radix {id : Int} (h : dradix (nodesP 3).l id ≠ 0) : (id = 0 ∨ id = 1 ∨ id = 2) ∧ dradix (nodesP 3).l id = 3 := by
 unfold dradix at h ⊢
 cases e : dfind (nodesP 3).l id with
 | none => rw [e] at h; exact absurd rfl h
 | some d =>
  obtain ⟨_, _, _, hid⟩ := dfind_some e
  have hm : (d.id, d.rad) ∈ (nodesP 3).l.map (fun d => (d.id, d.rad)) := List.mem_map.2 ⟨d, dfind_mem e, rfl⟩
  rw [nodes3_ids] at hm
  simp only [List.mem_cons, Prod.mk.injEq, List.not_mem_nil, or_false] at hm
  dsimp only
  omega
def slots24 : List SlotM := [(0, 0), (0, 1), (0, 2), (0, 3), (0, 4), (0, 5), (0, 6), (0, 7), (1, 0), (1, 1), (1, 2), (1, 3), (1, 4), (1, 5), (1, 6), (1, 7), (2, 0), (2, 1), (2, 2), (2, 3), (2, 4), (2, 5), (2, 6), (2, 7)]
theorem mem24 {s : SlotM} (h1 : s.1 = 0 ∨ s.1 = 1 ∨ s.1 = 2) (h2 : 0 ≤ s.2) (h3 : s.2 < 8) : s ∈ slots24 := by
 obtain ⟨x, y⟩ := s
 have hy : y = 0 ∨ y = 1 ∨ y = 2 ∨ y = 3 ∨ y = 4 ∨ y = 5 ∨ y = 6 ∨ y = 7 := by dsimp only at h2 h3; omega
 dsimp only at h1
 rcases h1 with rfl | rfl | rfl <;> rcases hy with rfl | rfl | rfl | rfl | rfl | rfl | rfl | rfl <;> decide
theorem len_le_of {l : List SlotM} : ∀ {m : List SlotM}, l.Nodup → (∀ s, s ∈ l → s ∈ m) → l.length ≤ m.length := by
 induction l with
 | nil => exact fun _ _ => Nat.zero_le _
 | cons a l ih =>
  intro m hn hs
  rw [List.nodup_cons] at hn
  have ha := hs a (List.mem_cons_self ..)
  have h1 := ih (m := m.erase a) hn.2 fun s h => (List.mem_erase_of_ne (fun e : s = a => hn.1 (by rw [← e]; exact h))).2 (hs s (List.mem_cons_of_mem _ h))
  rw [List.length_erase_of_mem ha] at h1
  have := List.length_pos_of_mem ha
  rw [List.length_cons]; omega
theorem full24 {p : PS} (h : POk p) (hr : ∀ id, dradix p.l id = dradix (nodesP 3).l id) : (dfull p.l).length ≤ 24 := by
 have : (dfull p.l).length ≤ slots24.length := by
  refine len_le_of (dfull_nodup h.rel) fun s hs => ?_
  obtain ⟨h1, h2, h3⟩ := dget_off h.rel ((mem_dfull h.rel).1 hs)
  rw [hr] at h1 h3
  obtain ⟨h4, h5⟩ := nodes3_radix h1
  rw [h5] at h3
  exact mem24 h4 h2 h3
 exact this
theorem madeP_radix (l : List OpR) (id : Int) : dradix (madeP l).l id = dradix (nodesP 3).l id := madeTo_radix l id _
theorem made_full {l : List OpR} (h : POk (madeP l)) : (dfull (madeP l).l).length ≤ 24 := full24 h (madeP_radix l)
theorem made_kin {p : PS} (h : POk p) (s : SlotM) : (ftKin p.F s).length ≤ (dfull p.l).length := by
 rw [full_all h]; exact ftKin_len p.F s
end Go.Proofs.Ytdodfnjmkpgdbaa
end
section
set_option linter.unusedVariables false
set_option linter.unusedSimpArgs false
namespace Go.SL
section
variable {P : Program} {W : World} {ops : Array Oper} {Q : Exit → Act → World → Prop} {n : Nat} {D : List Deferred} {S : Hp} {fuel : Nat} {listed : Array Bool} {E : Env} {L : Hp}
theorem AnyH.splitb {t : Nat} {b : Bool} (hl : look t E = some (.bool b)) (ht : b = true → AnyH P W ops Q n D S fuel listed ((t, .bool true) :: E) L) (hf : b = false → AnyH P W ops Q n D S fuel listed ((t, .bool false) :: E) L) :
    AnyH P W ops Q n D S fuel listed E L := by
  cases b
  · exact .setE hl rfl (hf rfl)
  · exact .setE hl rfl (ht rfl)
theorem AnyH.skipu {d : Nat} {op : Op} {ty : TypeId} {pos : String} {aft : Array Edge} {j t : Nat} {b : Bool} (i : Nat) (hi : ops[i]? = some ⟨some d, op, ty, pos, aft, some (j, b)⟩) (hsel : Region.noSelect ops = true) (hf : Region.free .any ops listed i = true) (hr : (Region.ready .any ops listed).contains i = true)
    (hQ : PanicsFree Q) (h1 : (ops[j]?).bind (·.dst) = some t) (h2 : look t E = some undef) [hS : HeldSub L S] (hd : Nat.blt d n = true)
    (hn : AnyH P W ops Q n D S fuel (listed.setIfInBounds i true) ((d, undef) :: E) L) : AnyH P W ops Q n D S (fuel + 1) listed E L := by
  unfold AnyH at hn ⊢
  exact fun a w hs ho => wpAnyH_take hi hsel hf hr (fun c a w => hQ c a _ undef w) (.inr ⟨wanted_undef (o := ⟨some d, op, ty, pos, aft, some (j, b)⟩) rfl h1 h2 hs, rfl⟩) (ho.heldSub hS) (hn _ w (hs.put hd) ho)
end
section
variable {P : Program} {W : World} {n : Nat} {D : List Deferred} {E : Env} {L : Hp} {d : Nat} {ty : TypeId} {pos : String} {aft : Array Edge} {g : Option (Nat × Bool)} {T : TypeId}
theorem ef_makeMapE {κ : Type} [DecidableEq κ] (enc : κ → Value) {x : Option Operand} (hd : Nat.blt d n = true) (hx : x = none) :
    Ef P W n D ⟨some d, .makeMap T x, ty, pos, aft, g⟩ E L (fun E' L' => ∃ b, E' = (d, .map (some b)) :: E ∧ L' = (b, mapO enc [] 0) :: L) := ef_makeMap hd hx
end
end Go.SL
end
section
set_option linter.unusedVariables false
set_option linter.unusedSimpArgs false
set_option linter.unusedSectionVars false
namespace Go.Proofs.Ytdodfnjmkpgdbaa
open Go.SL
def WasM (l : List DN) (row : List SlotM) (M : List (SlotM × Value × Nat)) (i : Nat) : Prop := ∀ j z, j < i → row[j]? = some z → mget z M = some (dget l z).1.v
theorem WasM.step {l : List DN} {row : List SlotM} {M : List (SlotM × Value × Nat)} {i t : Nat} {z : SlotM} (h : WasM l row M i) (hz : row[i]? = some z) : WasM l row (mput z (dget l z).1.v t M) (i + 1) := by
 intro j y hj hy
 rw [mget_mput]
 split
 ·
  rename_i e; subst e; rfl
 rename_i e
 rcases Nat.lt_succ_iff_lt_or_eq.1 hj with hj | rfl
 ·
  exact h j y hj hy
 rw [hz] at hy; cases hy; exact absurd rfl e
theorem mine_step {z x : SlotM} {row : List SlotM} {k : Nat} {m m2 : Bool} (hx : row[k]? = some x) (hm : m = decide (z ∈ row.take k)) (h : m2 = (m || decide (x = z))) : m2 = decide (z ∈ row.take (k + 1)) := by
 rw [h, hm, List.take_add_one, hx]
 by_cases e : z ∈ row.take k
 ·
  simp [e]
 by_cases e2 : x = z
 ·
  simp [e2]
 simp [e, e2, Ne.symm e2]
theorem tr_rev1000 {n cb : Nat} {H : Hp} {p : PS} (hC : CapsH n p cb H) (hw : WOk p) (hn : n ≤ 2 ^ 19) {sl : SlotM} (hk : (dget p.l sl).1.kind ≠ 0) (h : (ftKin p.F sl).length ≤ 1000) : Tr Try.prog 37 [cpP cb, slotV sl, .int .i64 1000] H (fun u L' => ∃ v' T' H', Slc 24 6 v' 0 [] T' ∧ CapsH n (revS p sl (ftKin p.F sl).length) cb H' ∧ u = .tuple #[v', .bool true, .int .i64 0] ∧ L' = T' ++ H') :=
  tr_revT hC hw hn hk (k := 1000) (by decide) (by decide) h
set_option maxHeartbeats 16000000 in
theorem tr_revokeOthers (G : Hp) (a : Option Addr) (c : Nat) (l : List OpR) (ha : ArgS G 19 a (l.map OpR.cells)) (hrg : ∀ o, o ∈ l → OpC.Rg o.o) (hl : l.length ≤ maxLen) (sl : SlotM) : TrR Try.prog 11 [.slice a l.length c, slotV sl] (G) (.bool true) := by
 have hw0 : WOk (madeP l) := madeTo_wok hrg _
 have h24 := made_full hw0.ok
 have hkle := made_kin hw0.ok sl
 refine Tr.enter Try.func11 rfl Try.ntmps11 rfl (fun W F => ?_)
 refine Wp.app ?_
 refine Wp.seq ?_
 refine Wp.region ?_
 refine Ops.ef rfl (ef_boxK rfl rfl) ?_
 rintro _ _ ⟨b1, rfl, rfl⟩
 refine Ops.pv (pv_assign rfl) rfl ?_
 refine Ops.nil ?_
 refine Ends.seq ?_
 refine Wp.seq ?_
 refine Wp.seq ?_
 refine Wp.region ?_
 refine Ops.ef rfl (ef_callr (tr_rworks) rfl rfl) ?_
 rintro _ _ ⟨rfl, rfl⟩
 refine Ops.pv (pv_not rfl) rfl ?_
 refine Ops.nil ?_
 refine Ends.seq ?_
 refine Wp.cond_false rfl ?_
 refine Wp.skip ?_
 refine Ends.seq ?_
 refine Wp.seq ?_
 refine Wp.region ?_
 refine Ops.pv (pv_move rfl) rfl ?_
 refine Ops.ef rfl (ef_call (tr_rmade G a c l ha hl) rfl rfl) ?_
 rintro _ _ ⟨_, _, ⟨cb, H0, rfl, hC0, rfl⟩, rfl, rfl⟩
 refine Ops.app ?_
 obtain ⟨sb, tb, Ls, Lt, hS, hT, rfl⟩ := hC0
 rw [List.cons_append, List.append_assoc]
 refine Ops.pv (pv_assign rfl) rfl ?_
 refine Ops.nil ?_
 refine Ends.seq ?_
 refine Wp.cutK (σ := Nat) [(3, _), (5, _)] (fun s => [(6, .pointer (some ⟨s, 0, none⟩)), (7, .int .i64 (dget (madeP l).l sl).2)]) (fun s => (s, .cells (dget (madeP l).l sl).1.cells.toArray 24) :: (b1, .cells [.int .i64 sl.1, .int .i64 sl.2].toArray 38) :: (cBlk cb sb tb :: (Ls ++ (Lt ++ (G ++ F))))) (fun s => True) ⟨rfl, rfl, trivial⟩ (fun _ KK hC0 => ?_) ?_
 ·
  dsimp only [List.cons_append, List.nil_append] at hC0
  refine AnyH.start ((b1, .cells [.int .i64 sl.1, .int .i64 sl.2].toArray 38) :: cBlk cb sb tb :: []) 13 rfl ?_
  refine Tk 0 rfl rfl (pv_move rfl) rfl ?_
  refine Tk 1 rfl rfl (pv_nilCheck rfl) rfl ?_
  refine Tk 2 rfl rfl (pv_fieldAddr0 rfl rfl) rfl ?_
  refine Tk 3 rfl rfl (pv_fieldAddr0 rfl rfl) rfl ?_
  refine Tk 4 rfl rfl (pv_load rfl rfl rfl) rfl ?_
  refine Tk 5 rfl rfl (pv_loadK [_, _] rfl rfl rfl ⟨rfl, rfl, trivial⟩) rfl ?_
  refine AnyH.two 6 10 (by kernel_rfl) ?_ ?_
  ·
   refine Turn.ef rfl rfl (ef_callr (sf_get hS sl) rfl rfl) ?_ ?_
   ·
    rintro _ _ ⟨rfl, rfl⟩; infer_instance
   rintro _ _ ⟨rfl, rfl⟩
   refine Tk 7 rfl rfl (pv_move rfl) rfl ?_
   refine Tk 8 rfl rfl (pv_extract rfl rfl) rfl ?_
   refine Tk 9 rfl rfl (pv_extract rfl rfl) rfl ?_
   refine AnyH.one 10 (by kernel_rfl) ?_
   refine Turn.ef rfl rfl (ef_allocK tyZ24 rfl) ?_ ?_
   ·
    rintro _ _ ⟨b2, rfl, rfl⟩; infer_instance
   rintro _ _ ⟨b2, rfl, rfl⟩
   refine AnyH.one 11 (by kernel_rfl) ?_
   refine Turn.ef rfl rfl (ef_storeK rfl rfl rfl rfl) ?_ ?_
   ·
    rintro _ _ ⟨rfl, rfl⟩; infer_instance
   rintro _ _ ⟨rfl, rfl⟩
   refine Tk 12 rfl rfl (pv_assign rfl) rfl ?_
   refine AnyH.done (by kernel_rfl) ?_
   refine Ends.goes ?_
   refine Goes.back (hC0 b2 trivial) ⟨rfl, rfl, rfl, rfl, trivial⟩
  refine Turn.ef rfl rfl (ef_allocK tyZ24 rfl) ?_ ?_
  ·
   rintro _ _ ⟨b3, rfl, rfl⟩; infer_instance
  rintro _ _ ⟨b3, rfl, rfl⟩
  refine AnyH.one 6 (by kernel_rfl) ?_
  refine Turn.ef rfl rfl (ef_callr (sf_get hS sl) rfl rfl) ?_ ?_
  ·
   rintro _ _ ⟨rfl, rfl⟩; infer_instance
  rintro _ _ ⟨rfl, rfl⟩
  refine Tk 7 rfl rfl (pv_move rfl) rfl ?_
  refine Tk 8 rfl rfl (pv_extract rfl rfl) rfl ?_
  refine Tk 9 rfl rfl (pv_extract rfl rfl) rfl ?_
  refine AnyH.one 11 (by kernel_rfl) ?_
  refine Turn.ef rfl rfl (ef_storeK rfl rfl rfl rfl) ?_ ?_
  ·
   rintro _ _ ⟨rfl, rfl⟩; infer_instance
  rintro _ _ ⟨rfl, rfl⟩
  refine Tk 12 rfl rfl (pv_assign rfl) rfl ?_
  refine AnyH.done (by kernel_rfl) ?_
  refine Ends.goes ?_
  refine Goes.back (hC0 b3 trivial) ⟨rfl, rfl, rfl, rfl, trivial⟩
 rintro bw _
 dsimp only [List.cons_append, List.nil_append] at ⊢
 refine Wp.seq ?_
 refine Wp.seq ?_
 refine Wp.region ?_
 refine Ops.pv (pv_move rfl) rfl ?_
 refine Ops.pv (pv_neq rfl rfl) rfl ?_
 refine Ops.pv (pv_move rfl) rfl ?_
 refine Ops.pvcn rfl rfl (fun hg => pv_fieldAddr0 rfl rfl) rfl ?_
 refine Ops.pvcn rfl rfl (fun hg => Pv.setE (t := 40) rfl (cv_pos hg) (pv_load rfl rfl rfl)) rfl ?_
 refine Ops.pvcn rfl rfl (fun hg => Pv.setE (t := 40) rfl (cv_pos hg) (Pv.setE (t := 41) rfl (cv_pos hg) (pv_eql rfl rfl))) rfl ?_
 refine Ops.pv (pv_pick_or rfl rfl) rfl ?_
 refine Ops.nil ?_
 refine Ends.seq ?_
 refine Wp.cond_dect rfl (fun h1 => ?_) (fun h1 => ?_)
 ·
  refine Wp.seq ?_
  refine Wp.region ?_
  refine Ops.pv (pv_assign rfl) rfl ?_
  refine Ops.nil ?_
  refine Ends.seq ?_
  refine Wp.ret ?_
  refine Ends.then_ret ?_
  exact Ends.ret (res1 rfl rfl) ⟨rfl, rfl⟩
 have hk0 : (dget (madeP l).l sl).1.kind ≠ 0 := by intro h; simp_all
 refine Wp.skip ?_
 refine Ends.seq ?_
 refine Wp.seq ?_
 refine Wp.region ?_
 refine Ops.pv (pv_move rfl) rfl ?_
 refine Ops.pv (pv_loadK [_, _] rfl rfl rfl ⟨rfl, rfl, trivial⟩) rfl ?_
 refine Ops.ef rfl (ef_call (tr_mKin _ cb _ _ ⟨_, _, _, _, hS, hT, rfl⟩ (by decide) sl) rfl rfl) ?_
 rintro _ _ ⟨_, _, ⟨C1, hc1, rfl⟩, rfl, rfl⟩
 refine Ops.app ?_
 obtain ⟨pp1, qq1, rfl⟩ := hc1.form
 refine Ops.pv (pv_assign rfl) rfl ?_
 refine Ops.nil ?_
 refine Ends.seq ?_
 refine Wp.seq ?_
 refine Wp.region ?_
 refine Ops.pv (pv_move rfl) rfl ?_
 refine Ops.pv (pv_nilCheck rfl) rfl ?_
 refine Ops.pv (pv_fieldAddr0 rfl rfl) rfl ?_
 refine Ops.pv (pv_fieldAddr0 rfl rfl) rfl ?_
 refine Ops.pv (pv_load rfl rfl rfl) rfl ?_
 refine Ops.ef rfl (ef_call (sf_full hS) rfl rfl) ?_
 rintro _ _ ⟨_, _, ⟨C2, hc2, rfl⟩, rfl, rfl⟩
 refine Ops.app ?_
 obtain ⟨pp2, qq2, rfl⟩ := hc2.form
 refine Ops.pv (pv_assign rfl) rfl ?_
 refine Ops.nil ?_
 refine Ends.seq ?_
 refine Wp.seq ?_
 refine Wp.region ?_
 refine Ops.ef rfl (ef_makeMapE encS rfl rfl) ?_
 rintro _ _ ⟨bm, rfl, rfl⟩
 refine Ops.pv (pv_assign rfl) rfl ?_
 refine Ops.nil ?_
 refine Ends.seq ?_
 refine Wp.seq ?_
 refine Wp.seq ?_
 refine Wp.region ?_
 refine Ops.pv (pv_assign rfl) rfl ?_
 refine Ops.nil ?_
 refine Ends.seq ?_
 refine Wp.block ?_
 refine Wp.loopK (σ := Nat × List (SlotM × Value × Nat) × Nat) [(3, _), (5, _), (8, _), (9, _), (10, _)] (fun s => [(11, .int .i64 s.1)]) (fun s => (bm, mapO encS s.2.1 s.2.2) :: (C2 ++ (C1 ++ ((b1, .cells [.int .i64 sl.1, .int .i64 sl.2].toArray 38) :: (cBlk cb sb tb :: (Ls ++ (Lt ++ (G ++ F)))))))) (fun s => s.1 ≤ (dfull (madeP l).l).length ∧ WasM (madeP l).l (dfull (madeP l).l) s.2.1 s.1) (fun s => (dfull (madeP l).l).length - s.1) (0, [], 0) ⟨Nat.zero_le _, fun j z hj => absurd hj (Nat.not_lt_zero j)⟩ ⟨rfl, rfl, rfl, rfl, rfl, trivial⟩ ⟨rfl, trivial⟩ (by intro w ho; (try dsimp only [List.nil_append, List.cons_append]); exact Drop.own ho) ?_
 rintro ⟨i, Mw, clk⟩ KK ⟨hi, hWas⟩ hK
 dsimp only [List.cons_append, List.nil_append] at hK ⊢
 dsimp only at hi hWas ⊢
 refine Wp.seq ?_
 refine Wp.seq ?_
 refine Wp.region ?_
 refine Ops.pv (pv_move rfl) rfl ?_
 refine Ops.pv (pv_move rfl) rfl ?_
 refine Ops.pv (pv_len_slice (T := 41) rfl rfl) rfl ?_
 refine Ops.pv (pv_lss rfl rfl) rfl ?_
 refine Ops.nil ?_
 refine Ends.seq ?_
 refine Wp.cond_dect rfl (fun h2 => ?_) (fun h2 => ?_)
 ·
  obtain ⟨b5, o5, cap5, cc5, T5, f5, hv5, hbv5, hr5⟩ := hc2.view.open (by omega)
  cases hv5
  obtain ⟨z, hz⟩ : ∃ s, (dfull (madeP l).l)[i]? = some s := ⟨_, List.getElem?_eq_getElem (by omega)⟩
  have hrez := hr5.sub (i := i * 2) (l := 2)
  rw [slots_reads hz] at hrez
  refine Wp.skip ?_
  refine Ends.seq ?_
  refine Wp.seq ?_
  refine Wp.block ?_
  refine Wp.cutK (σ := Nat) [(3, _), (5, _), (8, _), (9, _), (10, _), (11, _)] (fun s => [(12, .pointer (some ⟨s, 0, none⟩))]) (fun s => (s, .cells (dget (madeP l).l z).1.cells.toArray 24) :: (bm, mapO encS Mw clk) :: (C2 ++ (C1 ++ ((b1, .cells [.int .i64 sl.1, .int .i64 sl.2].toArray 38) :: (cBlk cb sb tb :: (Ls ++ (Lt ++ (G ++ F)))))))) (fun s => True) ⟨rfl, rfl, rfl, rfl, rfl, rfl, trivial⟩ (fun _ KK hC0 => ?_) ?_
  ·
   dsimp only [List.cons_append, List.nil_append] at hC0
   refine AnyH.start (C2 ++ (cBlk cb sb tb :: [])) 16 rfl ?_
   refine Tk 0 rfl rfl (pv_move rfl) rfl ?_
   refine Tk 1 rfl rfl (pv_nilCheck rfl) rfl ?_
   refine Tk 2 rfl rfl (pv_fieldAddr0 rfl rfl) rfl ?_
   refine Tk 3 rfl rfl (pv_fieldAddr0 rfl rfl) rfl ?_
   refine Tk 4 rfl rfl (pv_load rfl rfl rfl) rfl ?_
   refine Tk 5 rfl rfl (pv_move rfl) rfl ?_
   refine Tk 6 rfl rfl (pv_move rfl) rfl ?_
   refine Tk 7 rfl rfl (pv_indexAddr (i := i) rfl rfl rfl (by omega)) rfl ?_
   refine Tk 8 rfl rfl (pv_loadK [.int .i64 z.1, .int .i64 z.2] rfl rfl rfl hrez) rfl ?_
   refine AnyH.two 9 13 (by kernel_rfl) ?_ ?_
   ·
    refine Turn.ef rfl rfl (ef_callr (sf_get hS z) rfl rfl) ?_ ?_
    ·
     rintro _ _ ⟨rfl, rfl⟩; infer_instance
    rintro _ _ ⟨rfl, rfl⟩
    refine Tk 10 rfl rfl (pv_move rfl) rfl ?_
    refine Tk 11 rfl rfl (pv_extract rfl rfl) rfl ?_
    refine Tk 12 rfl rfl (pv_extract rfl rfl) rfl ?_
    refine AnyH.one 13 (by kernel_rfl) ?_
    refine Turn.ef rfl rfl (ef_allocK tyZ24 rfl) ?_ ?_
    ·
     rintro _ _ ⟨b4, rfl, rfl⟩; infer_instance
    rintro _ _ ⟨b4, rfl, rfl⟩
    refine AnyH.one 14 (by kernel_rfl) ?_
    refine Turn.ef rfl rfl (ef_storeK rfl rfl rfl rfl) ?_ ?_
    ·
     rintro _ _ ⟨rfl, rfl⟩; infer_instance
    rintro _ _ ⟨rfl, rfl⟩
    refine Tk 15 rfl rfl (pv_assign rfl) rfl ?_
    refine AnyH.done (by kernel_rfl) ?_
    refine Ends.goes ?_
    refine Goes.back (hC0 b4 trivial) ⟨rfl, rfl, rfl, rfl, rfl, rfl, rfl, trivial⟩
   refine Turn.ef rfl rfl (ef_allocK tyZ24 rfl) ?_ ?_
   ·
    rintro _ _ ⟨b5, rfl, rfl⟩; infer_instance
   rintro _ _ ⟨b5, rfl, rfl⟩
   refine AnyH.one 9 (by kernel_rfl) ?_
   refine Turn.ef rfl rfl (ef_callr (sf_get hS z) rfl rfl) ?_ ?_
   ·
    rintro _ _ ⟨rfl, rfl⟩; infer_instance
   rintro _ _ ⟨rfl, rfl⟩
   refine Tk 10 rfl rfl (pv_move rfl) rfl ?_
   refine Tk 11 rfl rfl (pv_extract rfl rfl) rfl ?_
   refine Tk 12 rfl rfl (pv_extract rfl rfl) rfl ?_
   refine AnyH.one 14 (by kernel_rfl) ?_
   refine Turn.ef rfl rfl (ef_storeK rfl rfl rfl rfl) ?_ ?_
   ·
    rintro _ _ ⟨rfl, rfl⟩; infer_instance
   rintro _ _ ⟨rfl, rfl⟩
   refine Tk 15 rfl rfl (pv_assign rfl) rfl ?_
   refine AnyH.done (by kernel_rfl) ?_
   refine Ends.goes ?_
   refine Goes.back (hC0 b5 trivial) ⟨rfl, rfl, rfl, rfl, rfl, rfl, rfl, trivial⟩
  rintro bw _
  dsimp only [List.cons_append, List.nil_append] at ⊢
  refine AnyH.start ((bw, .cells (dget (madeP l).l z).1.cells.toArray 24) :: C2) 7 rfl ?_
  refine Tk 0 rfl rfl (pv_move rfl) rfl ?_
  refine Tk 1 rfl rfl (pv_move rfl) rfl ?_
  refine Tk 2 rfl rfl (pv_move rfl) rfl ?_
  refine Tk 3 rfl rfl (pv_indexAddr (i := i) rfl rfl rfl (by omega)) rfl ?_
  refine Tk 4 rfl rfl (pv_loadK [.int .i64 z.1, .int .i64 z.2] rfl rfl rfl hrez) rfl ?_
  refine Tk 5 rfl rfl (pv_loadK [_, _, _, _, _, _] rfl rfl rfl ⟨rfl, rfl, rfl, rfl, rfl, rfl, trivial⟩) rfl ?_
  refine AnyH.one 6 (by kernel_rfl) ?_
  refine Turn.ef rfl rfl (ef_mapUpdate_s (v := (dget (madeP l).l z).1.v) z rfl rfl rfl) ?_ ?_
  ·
   rintro _ _ ⟨rfl, rfl⟩; infer_instance
  rintro _ _ ⟨rfl, rfl⟩
  refine AnyH.done (by kernel_rfl) ?_
  refine Ends.block_normal ?_
  refine Ends.seq ?_
  refine Wp.region ?_
  refine Ops.pv (pv_move rfl) rfl ?_
  refine Ops.pv (pv_add rfl rfl (w64n (k := i + 1) (by omega) (by omega))) rfl ?_
  refine Ops.pv (pv_assign rfl) rfl ?_
  refine Ops.nil ?_
  refine Ends.goes ?_
  refine Goes.back (hK (i + 1, mput z (dget (madeP l).l z).1.v clk Mw, mclk z Mw clk) ⟨by dsimp only; omega, hWas.step hz⟩ (by dsimp only; omega)) ⟨rfl, rfl, rfl, rfl, rfl, rfl, trivial⟩
 refine Wp.exit ?_
 refine Ends.then_exit ?_
 refine Ends.then_exit ?_
 refine Ends.block_hit ?_
 refine Ends.seq ?_
 refine Wp.seq ?_
 refine Wp.region ?_
 refine Ops.pv (pv_move rfl) rfl ?_
 refine Ops.pv (pv_loadK [_, _] rfl rfl rfl ⟨rfl, rfl, trivial⟩) rfl ?_
 refine Ops.ef rfl (ef_call (tr_rev1000 ⟨_, _, _, _, hS, hT, rfl⟩ hw0 (by decide) hk0 (by omega)) rfl rfl) ?_
 rintro _ _ ⟨_, _, ⟨v2, T2, H2, hs2, ⟨sb3, tb3, Ls3, Lt3, hS3, hT3, rfl⟩, rfl, rfl⟩, rfl, rfl⟩
 refine Ops.app ?_
 try rw [List.cons_append, List.append_assoc]
 obtain ⟨pz, qz, rfl⟩ := hs2.form
 refine Ops.pv (pv_move rfl) rfl ?_
 refine Ops.pv (pv_extract rfl rfl) rfl ?_
 refine Ops.pv (pv_extract rfl rfl) rfl ?_
 refine Ops.pv (pv_extract rfl rfl) rfl ?_
 refine Ops.pv (pv_assign rfl) rfl ?_
 refine Ops.pv (pv_assign rfl) rfl ?_
 refine Ops.pv (pv_assign rfl) rfl ?_
 refine Ops.nil ?_
 refine Ends.seq ?_
 refine Wp.seq ?_
 refine Wp.seq ?_
 refine Wp.region ?_
 refine Ops.pv (pv_assign rfl) rfl ?_
 refine Ops.nil ?_
 refine Ends.seq ?_
 refine Wp.block ?_
 obtain ⟨n0, hn0⟩ : ∃ q, q = i := ⟨_, rfl⟩
 have hWas : WasM (madeP l).l (dfull (madeP l).l) Mw (dfull (madeP l).l).length := by rw [show (dfull (madeP l).l).length = i by omega]; exact hWas
 clear hi hn0
 refine Wp.loopK (σ := Nat) [(5, _), (8, _), (9, _), (10, _), (14, _)] (fun s => [(17, .int .i64 s)]) (fun s => (bm, mapO encS Mw clk) :: (C2 ++ (C1 ++ (T2 ++ (cBlk cb sb3 tb3 :: (Ls3 ++ (Lt3 ++ (G ++ F)))))))) (fun s => s ≤ (dfull (madeP l).l).length) (fun s => (dfull (madeP l).l).length - s) 0 (Nat.zero_le _) ⟨rfl, rfl, rfl, rfl, rfl, trivial⟩ ⟨rfl, trivial⟩ (by intro w ho; (try dsimp only [List.nil_append, List.cons_append]); exact Drop.own ho) ?_
 rintro i KK hi hK
 dsimp only [List.cons_append, List.nil_append] at hK ⊢
 refine Wp.seq ?_
 refine Wp.seq ?_
 refine Wp.region ?_
 refine Ops.pv (pv_move rfl) rfl ?_
 refine Ops.pv (pv_move rfl) rfl ?_
 refine Ops.pv (pv_len_slice (T := 41) rfl rfl) rfl ?_
 refine Ops.pv (pv_lss rfl rfl) rfl ?_
 refine Ops.nil ?_
 refine Ends.seq ?_
 refine Wp.cond_dect rfl (fun h3 => ?_) (fun h3 => ?_)
 ·
  obtain ⟨b5, o5, cap5, cc5, T5, f5, hv5, hbv5, hr5⟩ := hc2.view.open (by omega)
  cases hv5
  obtain ⟨z, hz⟩ : ∃ s, (dfull (madeP l).l)[i]? = some s := ⟨_, List.getElem?_eq_getElem (by omega)⟩
  have hrez := hr5.sub (i := i * 2) (l := 2)
  rw [slots_reads hz] at hrez
  have hzk0 : (dget (madeP l).l z).1.kind ≠ 0 := (mem_dfull hw0.ok.rel).1 (List.mem_of_getElem? hz)
  have hz0 : (dget (madeP l).l z).2 = 0 := dget_le hzk0
  refine Wp.skip ?_
  refine Ends.seq ?_
  refine Wp.seq ?_
  refine Wp.block ?_
  refine Wp.seq ?_
  refine Wp.region ?_
  refine Ops.pv (pv_assign rfl) rfl ?_
  refine Ops.nil ?_
  refine Ends.seq ?_
  refine Wp.seq ?_
  refine Wp.seq ?_
  refine Wp.region ?_
  refine Ops.pv (pv_assign rfl) rfl ?_
  refine Ops.nil ?_
  refine Ends.seq ?_
  refine Wp.block ?_
  refine Wp.loopK (σ := Nat × Bool) [(5, _), (8, _), (9, _), (10, _), (14, _), (17, _)] (fun s => [(18, .bool s.2), (19, .int .i64 s.1)]) (fun s => (bm, mapO encS Mw clk) :: (C2 ++ (C1 ++ (T2 ++ (cBlk cb sb3 tb3 :: (Ls3 ++ (Lt3 ++ (G ++ F)))))))) (fun s => s.1 ≤ (ftKin (madeP l).F sl).length ∧ s.2 = decide (z ∈ (ftKin (madeP l).F sl).take s.1)) (fun s => (ftKin (madeP l).F sl).length - s.1) (0, false) ⟨Nat.zero_le _, by simp⟩ ⟨rfl, rfl, rfl, rfl, rfl, rfl, trivial⟩ ⟨rfl, rfl, trivial⟩ (by intro w ho; (try dsimp only [List.nil_append, List.cons_append]); exact Drop.own ho) ?_
  rintro ⟨k, m⟩ KK ⟨hk, hm⟩ hK1
  dsimp only [List.cons_append, List.nil_append] at hK1 ⊢
  dsimp only at hk hm ⊢
  refine Wp.seq ?_
  refine Wp.seq ?_
  refine Wp.region ?_
  refine Ops.pv (pv_move rfl) rfl ?_
  refine Ops.pv (pv_move rfl) rfl ?_
  refine Ops.pv (pv_len_slice (T := 41) rfl rfl) rfl ?_
  refine Ops.pv (pv_lss rfl rfl) rfl ?_
  refine Ops.nil ?_
  refine Ends.seq ?_
  refine Wp.cond_dect rfl (fun h4 => ?_) (fun h4 => ?_)
  ·
   obtain ⟨b6, o6, cap6, cc6, T6, f6, hv6, hbv6, hr6⟩ := hc1.view.open (by omega)
   cases hv6
   obtain ⟨x, hx⟩ : ∃ s, (ftKin (madeP l).F sl)[k]? = some s := ⟨_, List.getElem?_eq_getElem (by omega)⟩
   have hrex := hr6.sub (i := k * 2) (l := 2)
   rw [slots_reads hx] at hrex
   refine Wp.skip ?_
   refine Ends.seq ?_
   refine Wp.seq ?_
   refine Wp.block ?_
   refine AnyH.start (C1 ++ C2) 13 rfl ?_
   refine Tk 0 rfl rfl (pv_move rfl) rfl ?_
   refine Tk 1 rfl rfl (pv_move rfl) rfl ?_
   refine AnyH.splitb (t := 99) rfl (fun h5 => ?_) (fun h5 => ?_)
   ·
    refine Ts 2 rfl ⟨_, _, rfl, rfl, rfl⟩ rfl ?_
    refine Ts 3 rfl ⟨_, _, rfl, rfl, rfl⟩ rfl ?_
    refine Ts 4 rfl ⟨_, _, rfl, rfl, rfl⟩ rfl ?_
    refine Ts 5 rfl ⟨_, _, rfl, rfl, rfl⟩ rfl ?_
    refine Ts 6 rfl ⟨_, _, rfl, rfl, rfl⟩ rfl ?_
    refine Ts 7 rfl ⟨_, _, rfl, rfl, rfl⟩ rfl ?_
    refine Ts 8 rfl ⟨_, _, rfl, rfl, rfl⟩ rfl ?_
    refine Ts 9 rfl ⟨_, _, rfl, rfl, rfl⟩ rfl ?_
    refine Ts 10 rfl ⟨_, _, rfl, rfl, rfl⟩ rfl ?_
    refine Tk 11 rfl rfl (pv_pick_true rfl rfl) rfl ?_
    refine Tk 12 rfl rfl (pv_assign rfl) rfl ?_
    refine AnyH.done (by kernel_rfl) ?_
    refine Ends.block_normal ?_
    refine Ends.seq ?_
    refine Wp.region ?_
    refine Ops.pv (pv_move rfl) rfl ?_
    refine Ops.pv (pv_add rfl rfl (w64n (k := k + 1) (by omega) (by omega))) rfl ?_
    refine Ops.pv (pv_assign rfl) rfl ?_
    refine Ops.nil ?_
    refine Ends.goes ?_
    refine Goes.back (hK1 (k + 1, true) ⟨by dsimp only; omega, mine_step hx hm (by simp_all)⟩ (by dsimp only; omega)) ⟨rfl, rfl, rfl, rfl, rfl, rfl, rfl, rfl, trivial⟩
   refine Tk 2 rfl ⟨_, _, rfl, rfl, rfl⟩ (pv_move rfl) rfl ?_
   refine Tk 3 rfl ⟨_, _, rfl, rfl, rfl⟩ (pv_move rfl) rfl ?_
   refine Tk 4 rfl ⟨_, _, rfl, rfl, rfl⟩ (pv_indexAddr (i := k) rfl rfl rfl (by omega)) rfl ?_
   refine Tk 5 rfl ⟨_, _, rfl, rfl, rfl⟩ (pv_loadK [.int .i64 x.1, .int .i64 x.2] rfl rfl rfl hrex) rfl ?_
   refine Tk 6 rfl ⟨_, _, rfl, rfl, rfl⟩ (pv_move rfl) rfl ?_
   refine Tk 7 rfl ⟨_, _, rfl, rfl, rfl⟩ (pv_move rfl) rfl ?_
   refine Tk 8 rfl ⟨_, _, rfl, rfl, rfl⟩ (pv_indexAddr (i := i) rfl rfl rfl (by omega)) rfl ?_
   refine Tk 9 rfl ⟨_, _, rfl, rfl, rfl⟩ (pv_loadK [.int .i64 z.1, .int .i64 z.2] rfl rfl rfl hrez) rfl ?_
   refine Tk 10 rfl ⟨_, _, rfl, rfl, rfl⟩ (pv_eql_slot rfl rfl) rfl ?_
   refine Tk 11 rfl rfl (pv_pick_false rfl rfl) rfl ?_
   refine Tk 12 rfl rfl (pv_assign rfl) rfl ?_
   refine AnyH.done (by kernel_rfl) ?_
   refine Ends.block_normal ?_
   refine Ends.seq ?_
   refine Wp.region ?_
   refine Ops.pv (pv_move rfl) rfl ?_
   refine Ops.pv (pv_add rfl rfl (w64n (k := k + 1) (by omega) (by omega))) rfl ?_
   refine Ops.pv (pv_assign rfl) rfl ?_
   refine Ops.nil ?_
   refine Ends.goes ?_
   refine Goes.back (hK1 (k + 1, decide (x = z)) ⟨by dsimp only; omega, mine_step hx hm (by simp_all)⟩ (by dsimp only; omega)) ⟨rfl, rfl, rfl, rfl, rfl, rfl, rfl, rfl, trivial⟩
  refine Wp.exit ?_
  refine Ends.then_exit ?_
  refine Ends.then_exit ?_
  refine Ends.block_hit ?_
  refine Ends.seq ?_
  refine Wp.seq ?_
  refine Wp.seq ?_
  refine Wp.region ?_
  refine Ops.pv (pv_assign rfl) rfl ?_
  refine Ops.nil ?_
  refine Ends.seq ?_
  refine Wp.block ?_
  have hmz : m = decide (z ∈ ftKin (madeP l).F sl) := by rw [hm, show k = (ftKin (madeP l).F sl).length by omega, List.take_length]
  clear hm hk
  refine Wp.loopK (σ := Nat × Bool) [(5, _), (8, _), (9, _), (10, _), (14, _), (17, _)] (fun s => [(18, .bool s.2), (20, .int .i64 s.1)]) (fun s => (bm, mapO encS Mw clk) :: (C2 ++ (C1 ++ (T2 ++ (cBlk cb sb3 tb3 :: (Ls3 ++ (Lt3 ++ (G ++ F)))))))) (fun s => s.1 = 0 ∧ s.2 = decide (z ∈ ftKin (madeP l).F sl)) (fun s => 0) (0, m) ⟨rfl, hmz⟩ ⟨rfl, rfl, rfl, rfl, rfl, rfl, trivial⟩ ⟨rfl, rfl, trivial⟩ (by intro w ho; (try dsimp only [List.nil_append, List.cons_append]); exact Drop.own ho) ?_
  rintro ⟨k2, m2⟩ KK ⟨hk2, hm2⟩ hK1
  dsimp only [List.cons_append, List.nil_append] at hK1 ⊢
  dsimp only at hk2 hm2 ⊢
  refine Wp.seq ?_
  refine Wp.seq ?_
  refine Wp.region ?_
  refine Ops.pv (pv_move rfl) rfl ?_
  refine Ops.pv (pv_move rfl) rfl ?_
  refine Ops.pv (pv_len_slice (T := 63) rfl rfl) rfl ?_
  refine Ops.pv (pv_lss rfl rfl) rfl ?_
  refine Ops.nil ?_
  refine Ends.seq ?_
  refine Wp.cond_dect rfl (fun h6 => (by exfalso; omega)) (fun h6 => ?_)
  refine Wp.exit ?_
  refine Ends.then_exit ?_
  refine Ends.then_exit ?_
  refine Ends.block_hit ?_
  refine Ends.seq ?_
  refine Wp.cutK (σ := Nat) [(5, _), (8, _), (9, _), (10, _), (14, _), (17, _), (18, _)] (fun s => [(21, .pointer (some ⟨s, 0, none⟩)), (22, .int .i64 (dget (revS (madeP l) sl (ftKin (madeP l).F sl).length).l z).2)]) (fun s => (s, .cells (dget (revS (madeP l) sl (ftKin (madeP l).F sl).length).l z).1.cells.toArray 24) :: (bm, mapO encS Mw clk) :: (C2 ++ (C1 ++ (T2 ++ (cBlk cb sb3 tb3 :: (Ls3 ++ (Lt3 ++ (G ++ F)))))))) (fun s => True) ⟨rfl, rfl, rfl, rfl, rfl, rfl, rfl, trivial⟩ (fun _ KK hC0 => ?_) ?_
  ·
   dsimp only [List.cons_append, List.nil_append] at hC0
   refine AnyH.start (C2 ++ (cBlk cb sb3 tb3 :: [])) 16 rfl ?_
   refine Tk 0 rfl rfl (pv_move rfl) rfl ?_
   refine Tk 1 rfl rfl (pv_nilCheck rfl) rfl ?_
   refine Tk 2 rfl rfl (pv_fieldAddr0 rfl rfl) rfl ?_
   refine Tk 3 rfl rfl (pv_fieldAddr0 rfl rfl) rfl ?_
   refine Tk 4 rfl rfl (pv_load rfl rfl rfl) rfl ?_
   refine Tk 5 rfl rfl (pv_move rfl) rfl ?_
   refine Tk 6 rfl rfl (pv_move rfl) rfl ?_
   refine Tk 7 rfl rfl (pv_indexAddr (i := i) rfl rfl rfl (by omega)) rfl ?_
   refine Tk 8 rfl rfl (pv_loadK [.int .i64 z.1, .int .i64 z.2] rfl rfl rfl hrez) rfl ?_
   refine AnyH.two 9 13 (by kernel_rfl) ?_ ?_
   ·
    refine Turn.ef rfl rfl (ef_callr (sf_get hS3 z) rfl rfl) ?_ ?_
    ·
     rintro _ _ ⟨rfl, rfl⟩; infer_instance
    rintro _ _ ⟨rfl, rfl⟩
    refine Tk 10 rfl rfl (pv_move rfl) rfl ?_
    refine Tk 11 rfl rfl (pv_extract rfl rfl) rfl ?_
    refine Tk 12 rfl rfl (pv_extract rfl rfl) rfl ?_
    refine AnyH.one 13 (by kernel_rfl) ?_
    refine Turn.ef rfl rfl (ef_allocK tyZ24 rfl) ?_ ?_
    ·
     rintro _ _ ⟨b6, rfl, rfl⟩; infer_instance
    rintro _ _ ⟨b6, rfl, rfl⟩
    refine AnyH.one 14 (by kernel_rfl) ?_
    refine Turn.ef rfl rfl (ef_storeK rfl rfl rfl rfl) ?_ ?_
    ·
     rintro _ _ ⟨rfl, rfl⟩; infer_instance
    rintro _ _ ⟨rfl, rfl⟩
    refine Tk 15 rfl rfl (pv_assign rfl) rfl ?_
    refine AnyH.done (by kernel_rfl) ?_
    refine Ends.goes ?_
    refine Goes.back (hC0 b6 trivial) ⟨rfl, rfl, rfl, rfl, rfl, rfl, rfl, rfl, rfl, trivial⟩
   refine Turn.ef rfl rfl (ef_allocK tyZ24 rfl) ?_ ?_
   ·
    rintro _ _ ⟨b7, rfl, rfl⟩; infer_instance
   rintro _ _ ⟨b7, rfl, rfl⟩
   refine AnyH.one 9 (by kernel_rfl) ?_
   refine Turn.ef rfl rfl (ef_callr (sf_get hS3 z) rfl rfl) ?_ ?_
   ·
    rintro _ _ ⟨rfl, rfl⟩; infer_instance
   rintro _ _ ⟨rfl, rfl⟩
   refine Tk 10 rfl rfl (pv_move rfl) rfl ?_
   refine Tk 11 rfl rfl (pv_extract rfl rfl) rfl ?_
   refine Tk 12 rfl rfl (pv_extract rfl rfl) rfl ?_
   refine AnyH.one 14 (by kernel_rfl) ?_
   refine Turn.ef rfl rfl (ef_storeK rfl rfl rfl rfl) ?_ ?_
   ·
    rintro _ _ ⟨rfl, rfl⟩; infer_instance
   rintro _ _ ⟨rfl, rfl⟩
   refine Tk 15 rfl rfl (pv_assign rfl) rfl ?_
   refine AnyH.done (by kernel_rfl) ?_
   refine Ends.goes ?_
   refine Goes.back (hC0 b7 trivial) ⟨rfl, rfl, rfl, rfl, rfl, rfl, rfl, rfl, rfl, trivial⟩
  rintro bw _
  dsimp only [List.cons_append, List.nil_append] at ⊢
  refine Wp.seq ?_
  refine AnyH.start ((bw, .cells (dget (revS (madeP l) sl (ftKin (madeP l).F sl).length).l z).1.cells.toArray 24) :: (bm, mapO encS Mw clk) :: C2) 16 rfl ?_
  refine Tk 0 rfl rfl (pv_move rfl) rfl ?_
  refine Tk 1 rfl rfl (pv_not rfl) rfl ?_
  refine Tk 2 rfl rfl (pv_move rfl) rfl ?_
  refine AnyH.splitb (t := 153) rfl (fun h7 => ?_) (fun h7 => ?_)
  ·
   have hzk : z ∉ ftKin (madeP l).F sl := by intro hz9; simp_all
   have hqz : dget (revS (madeP l) sl (ftKin (madeP l).F sl).length).l z = dget (madeP l).l z := by rw [revS_get _ hw0, if_neg (fun e => hzk (List.mem_of_mem_drop e))]
   refine Tk 3 rfl ⟨_, _, rfl, rfl, rfl⟩ (pv_move rfl) rfl ?_
   refine Tk 4 rfl ⟨_, _, rfl, rfl, rfl⟩ ((pv_neq rfl rfl).fls (fun h => h (by rw [hqz]; exact hz0))) rfl ?_
   refine Tk 5 rfl ⟨_, _, rfl, rfl, rfl⟩ (pv_move rfl) rfl ?_
   refine Tk 6 rfl ⟨_, _, rfl, rfl, rfl⟩ (pv_loadK [_, _, _, _, _, _] rfl rfl rfl ⟨rfl, rfl, rfl, rfl, rfl, rfl, trivial⟩) rfl ?_
   refine Tk 7 rfl ⟨_, _, rfl, rfl, rfl⟩ (pv_move rfl) rfl ?_
   refine Tk 8 rfl ⟨_, _, rfl, rfl, rfl⟩ (pv_move rfl) rfl ?_
   refine Tk 9 rfl ⟨_, _, rfl, rfl, rfl⟩ (pv_move rfl) rfl ?_
   refine Tk 10 rfl ⟨_, _, rfl, rfl, rfl⟩ (pv_indexAddr (i := i) rfl rfl rfl (by omega)) rfl ?_
   refine Tk 11 rfl ⟨_, _, rfl, rfl, rfl⟩ (pv_loadK [.int .i64 z.1, .int .i64 z.2] rfl rfl rfl hrez) rfl ?_
   refine Tk 12 rfl ⟨_, _, rfl, rfl, rfl⟩ (pv_lookup_s z rfl rfl (r := (dget (madeP l).l z).1.v) (by rw [hWas i z (by omega) hz]; rfl)) rfl ?_
   refine Tk 13 rfl ⟨_, _, rfl, rfl, rfl⟩ (pv_neq_cap (a := (dget (revS (madeP l) sl (ftKin (madeP l).F sl).length).l z).1) (b := (dget (madeP l).l z).1) rfl rfl) rfl ?_
   refine Tk 14 rfl ⟨_, _, rfl, rfl, rfl⟩ (pv_pick_false rfl rfl) rfl ?_
   refine Tk 15 rfl rfl (pv_pick_true rfl rfl) rfl ?_
   refine AnyH.done (by kernel_rfl) ?_
   refine Ends.seq ?_
   refine Wp.cond_dect rfl (fun h166 => (by exfalso; rw [hqz] at h166; exact h166 rfl)) (fun h166 => ?_)
   refine Wp.skip ?_
   refine Ends.block_normal ?_
   refine Ends.seq ?_
   refine Wp.region ?_
   refine Ops.pv (pv_move rfl) rfl ?_
   refine Ops.pv (pv_add rfl rfl (w64n (k := i + 1) (by omega) (by omega))) rfl ?_
   refine Ops.pv (pv_assign rfl) rfl ?_
   refine Ops.nil ?_
   refine Ends.goes ?_
   refine Goes.back (hK (i + 1) (by omega) (by omega)) ⟨rfl, rfl, rfl, rfl, rfl, rfl, trivial⟩
  refine Ts 3 rfl ⟨_, _, rfl, rfl, rfl⟩ rfl ?_
  refine Ts 4 rfl ⟨_, _, rfl, rfl, rfl⟩ rfl ?_
  refine Ts 5 rfl ⟨_, _, rfl, rfl, rfl⟩ rfl ?_
  refine AnyH.skipu 6 rfl (by kernel_rfl) (by kernel_rfl) (by kernel_rfl) PF.pf rfl rfl rfl ?_
  refine AnyH.skipu 7 rfl (by kernel_rfl) (by kernel_rfl) (by kernel_rfl) PF.pf rfl rfl rfl ?_
  refine AnyH.skipu 8 rfl (by kernel_rfl) (by kernel_rfl) (by kernel_rfl) PF.pf rfl rfl rfl ?_
  refine AnyH.skipu 9 rfl (by kernel_rfl) (by kernel_rfl) (by kernel_rfl) PF.pf rfl rfl rfl ?_
  refine AnyH.skipu 10 rfl (by kernel_rfl) (by kernel_rfl) (by kernel_rfl) PF.pf rfl rfl rfl ?_
  refine AnyH.skipu 11 rfl (by kernel_rfl) (by kernel_rfl) (by kernel_rfl) PF.pf rfl rfl rfl ?_
  refine AnyH.skipu 12 rfl (by kernel_rfl) (by kernel_rfl) (by kernel_rfl) PF.pf rfl rfl rfl ?_
  refine AnyH.skipu 13 rfl (by kernel_rfl) (by kernel_rfl) (by kernel_rfl) PF.pf rfl rfl rfl ?_
  refine Ts 14 rfl ⟨_, _, rfl, rfl, rfl⟩ rfl ?_
  refine Tk 15 rfl rfl (pv_pick_false rfl rfl) rfl ?_
  refine AnyH.done (by kernel_rfl) ?_
  refine Ends.seq ?_
  refine Wp.cond_false rfl ?_
  refine Wp.skip ?_
  refine Ends.block_normal ?_
  refine Ends.seq ?_
  refine Wp.region ?_
  refine Ops.pv (pv_move rfl) rfl ?_
  refine Ops.pv (pv_add rfl rfl (w64n (k := i + 1) (by omega) (by omega))) rfl ?_
  refine Ops.pv (pv_assign rfl) rfl ?_
  refine Ops.nil ?_
  refine Ends.goes ?_
  refine Goes.back (hK (i + 1) (by omega) (by omega)) ⟨rfl, rfl, rfl, rfl, rfl, rfl, trivial⟩
 refine Wp.exit ?_
 refine Ends.then_exit ?_
 refine Ends.then_exit ?_
 refine Ends.block_hit ?_
 refine Ends.seq ?_
 refine Wp.seq ?_
 refine Wp.region ?_
 refine Ops.pv (pv_assign rfl) rfl ?_
 refine Ops.nil ?_
 refine Ends.seq ?_
 refine Wp.ret ?_
 exact Ends.ret (res1 rfl rfl) ⟨rfl, rfl⟩
end Go.Proofs.Ytdodfnjmkpgdbaa
end
section
set_option linter.unusedVariables false
set_option linter.unusedSimpArgs false
namespace Go.Proofs.Ytdodfnjmkpgdbaa
open Go.SL
theorem as_opR {x : List Value} (h : FlatV [some .i64, some .i64, some .i64, some .i64, some .i64, some .i64, some .i64, some .i64, some .i64, some .i64, some .u64, some .u64, some .i64, some .i64, some .i64, some .u64, some .u64, some .i64, some .i64] x) : ∃ o : OpR, x = o.cells ∧ OpC.Rg o.o := by
 obtain ⟨a0, l, rfl, _, h⟩ := h.int
 obtain ⟨a1, l, rfl, _, h⟩ := h.int
 obtain ⟨a2, l, rfl, _, h⟩ := h.int
 obtain ⟨a3, l, rfl, _, h⟩ := h.int
 obtain ⟨a4, l, rfl, _, h⟩ := h.int
 obtain ⟨a5, l, rfl, _, h⟩ := h.int
 obtain ⟨a6, l, rfl, _, h⟩ := h.int
 obtain ⟨a7, l, rfl, _, h⟩ := h.int
 obtain ⟨a8, l, rfl, _, h⟩ := h.int
 obtain ⟨a9, l, rfl, w9, h⟩ := h.int
 obtain ⟨a10, l, rfl, w10, h⟩ := h.int
 obtain ⟨a11, l, rfl, w11, h⟩ := h.int
 obtain ⟨a12, l, rfl, _, h⟩ := h.int
 obtain ⟨a13, l, rfl, _, h⟩ := h.int
 obtain ⟨a14, l, rfl, w14, h⟩ := h.int
 obtain ⟨a15, l, rfl, w15, h⟩ := h.int
 obtain ⟨a16, l, rfl, w16, h⟩ := h.int
 obtain ⟨a17, l, rfl, _, h⟩ := h.int
 obtain ⟨a18, l, rfl, _, h⟩ := h.int
 obtain rfl := h.nil
 exact ⟨⟨⟨a0, (a1, a2), (a3, a4), (a5, a6), ⟨a7, a8, a9, a10, a11, a12⟩, a13, a14, a15, a16, a17⟩, a18⟩, rfl, ⟨wfI w9, wfU w10, wfU w11⟩, wfI w14, wfU w15, wfU w16⟩
theorem as_opRs {els : List (List Value)} (h : ∀ x, x ∈ els → FlatV [some .i64, some .i64, some .i64, some .i64, some .i64, some .i64, some .i64, some .i64, some .i64, some .i64, some .u64, some .u64, some .i64, some .i64, some .i64, some .u64, some .u64, some .i64, some .i64] x) : ∃ l : List OpR, els = l.map OpR.cells ∧ ∀ o, o ∈ l → (fun o : OpR => OpC.Rg o.o) o :=
  map_of fun x hx => as_opR (h x hx)
theorem as_slot11 {cs : Array Value} (h : FlatV [some .i64, some .i64] cs.toList) : ∃ s : SlotM, cs = #[.int .i64 s.1, .int .i64 s.2] ∧ (fun _ => True) s := by
 obtain ⟨a, l, e, _, h⟩ := h.int
 obtain ⟨b, m, e2, _, h⟩ := h.int
 obtain rfl := h.nil
 refine ⟨(a, b), ?_, trivial⟩
 apply Array.ext'
 rw [e, e2]
end Go.Proofs.Ytdodfnjmkpgdbaa
end
