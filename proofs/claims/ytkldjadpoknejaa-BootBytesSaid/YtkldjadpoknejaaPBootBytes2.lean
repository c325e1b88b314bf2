/- BootBytes. Laid together by pack.py out of the texts in wip. -/
import Derived.Test.YtkldjadpoknejaaPBootBytes1
set_option linter.unusedVariables false
set_option linter.unusedSimpArgs false
set_option linter.unusedSectionVars false
section
set_option linter.unusedVariables false
set_option linter.unusedSimpArgs false
set_option linter.unusedSectionVars false
namespace Go.Proofs.Ytkldjadpoknejaa
open Go.SL
set_option maxHeartbeats 2000000 in
theorem tr_flagW (k : Nat) (left : List UInt8) (bs : List UInt8) (pa : Option Addr) (ca : Nat) (Kb : Hp) (hb : Slc 5 1 (.slice pa bs.length ca) bs.length (bC bs) Kb) (hl : bs.length ≤ 2 ^ 39) (vb vo : Nat) (cc : List Value) (Tv : TypeId) (bb : Bool) (hv : nth cc vo = some (.bool bb)) : TrE Try.prog 42 [kP k, .pointer (some ⟨vb, vo, none⟩)] ((k, .cells [.bool false, .pointer (some ⟨k, 1, none⟩), .slice pa bs.length ca, sV left].toArray 84) :: (Kb ++ [(vb, .cells cc.toArray Tv)])) (fun u L' => u = .tuple #[] ∧ ∃ pa' ca' Kb', Slc 5 1 (.slice pa' (bs ++ leB 1 (if bb = true then 1 else 0)).length ca') (bs ++ leB 1 (if bb = true then 1 else 0)).length (bC (bs ++ leB 1 (if bb = true then 1 else 0))) Kb' ∧ L' = (k, .cells [.bool false, .pointer (some ⟨k, 1, none⟩), .slice pa' (bs ++ leB 1 (if bb = true then 1 else 0)).length ca', sV left].toArray 84) :: (Kb' ++ [(vb, .cells cc.toArray Tv)])) (fun c L' => c = badC ∧ False ∧ L' = []) := by
 refine TrE.enter Try.func42 rfl Try.ntmps42 rfl (fun W F => ?_)
 refine Wp.app ?_
 refine Wr ?_
 refine Ops.ef rfl (ef_alloc1 tyZ57 rfl rfl) ?_
 rintro _ _ ⟨b1, rfl, rfl⟩
 refine Ops.ef rfl (ef_store1 rfl rfl (by first | rfl | assumption) (by first | rfl | assumption)) ?_
 rintro _ _ ⟨rfl, rfl⟩
 refine On ?_
 refine Wp.seq ?_
 refine Wr ?_
 refine Om1 rfl rfl ?_
 refine Ops.pv (pv_nilCheck rfl) rfl ?_
 refine Ops.pv (pv_load rfl rfl hv) rfl ?_
 refine On ?_
 refine Wp.cond_t rfl (fun h1 => ?_) (fun h1 => ?_)
 ·
  obtain rfl : bb = true := by assumption
  refine Wp.region ?_
  refine Ops.ef rfl (ef_store1 rfl rfl (by first | rfl | assumption) (by first | rfl | assumption)) ?_
  rintro _ _ ⟨rfl, rfl⟩
  refine On ?_
  refine Wr ?_
  refine Om1 rfl rfl ?_
  refine Ops.efx rfl (efx_call (tr_wordW k left bs pa ca Kb hb hl b1 0 [.int .u64 1] 57 1 rfl 1 (by decide) (by decide)) rfl rfl) ?_ ?_
  ·
   rintro _ _ ⟨_, ⟨rfl, hno, rfl⟩, rfl⟩
   exact absurd (.inr (by decide)) hno
  rintro _ _ ⟨_, _, ⟨rfl, _, pa2, ca2, Kb2, hb2, rfl⟩, rfl, rfl⟩
  refine Ops.app ?_
  refine On ?_
  refine Wp.seq ?_
  refine Wr ?_
  refine Ol1 rfl rfl rfl rfl ?_
  refine Ops.pv ((pv_gtr rfl rfl).fls (by first | exact fun h => h rfl | decide | omega | assumption)) rfl ?_
  refine On ?_
  refine Wp.cond_false rfl ?_
  refine Wp.skip ?_
  refine Ends.seq ?_
  refine Wp.region ?_
  refine Om1 rfl rfl ?_
  refine Ol1 rfl rfl rfl rfl ?_
  refine Ops.pv (pv_eql rfl rfl) rfl ?_
  refine Ops.pv (pv_nilCheck rfl) rfl ?_
  refine Ops.ef rfl (ef_store1 (hset := setL_same hv) rfl rfl rfl rfl) ?_
  rintro _ _ ⟨rfl, rfl⟩
  refine Ops.nil ?_
  exact Ends.finE (L' := (k, .cells [.bool false, .pointer (some ⟨k, 1, none⟩), .slice pa2 (bs ++ leB 1 1).length ca2, sV left].toArray 84) :: (Kb2 ++ [(vb, .cells cc.toArray Tv)])) (res0 rfl) ⟨rfl, pa2, ca2, Kb2, hb2, rfl⟩
 obtain rfl : bb = false := by assumption
 refine Wp.skip ?_
 refine Ends.seq ?_
 refine Wr ?_
 refine Om1 rfl rfl ?_
 refine Ops.efx rfl (efx_call (tr_wordW k left bs pa ca Kb hb hl b1 0 [.int .u64 0] 57 0 rfl 1 (by decide) (by decide)) rfl rfl) ?_ ?_
 ·
  rintro _ _ ⟨_, ⟨rfl, hno, rfl⟩, rfl⟩
  exact absurd (.inr (by decide)) hno
 rintro _ _ ⟨_, _, ⟨rfl, _, pa2, ca2, Kb2, hb2, rfl⟩, rfl, rfl⟩
 refine Ops.app ?_
 refine On ?_
 refine Wp.seq ?_
 refine Wr ?_
 refine Ol1 rfl rfl rfl rfl ?_
 refine Ops.pv ((pv_gtr rfl rfl).fls (by first | exact fun h => h rfl | decide | omega | assumption)) rfl ?_
 refine On ?_
 refine Wp.cond_false rfl ?_
 refine Wp.skip ?_
 refine Ends.seq ?_
 refine Wp.region ?_
 refine Om1 rfl rfl ?_
 refine Ol1 rfl rfl rfl rfl ?_
 refine Ops.pv (pv_eql rfl rfl) rfl ?_
 refine Ops.pv (pv_nilCheck rfl) rfl ?_
 refine Ops.ef rfl (ef_store1 (hset := setL_same hv) rfl rfl rfl rfl) ?_
 rintro _ _ ⟨rfl, rfl⟩
 refine Ops.nil ?_
 exact Ends.finE (L' := (k, .cells [.bool false, .pointer (some ⟨k, 1, none⟩), .slice pa2 (bs ++ leB 1 0).length ca2, sV left].toArray 84) :: (Kb2 ++ [(vb, .cells cc.toArray Tv)])) (res0 rfl) ⟨rfl, pa2, ca2, Kb2, hb2, rfl⟩
set_option maxHeartbeats 2000000 in
theorem tr_flagR (k : Nat) (adr bv : Value) (left : List UInt8) (hl : left.length ≤ 2 ^ 40) (h1b : bv.oneCell' = true) (h1a : adr.oneCell' = true) (vb vo : Nat) (cc : List Value) (Tv : TypeId) (bb : Bool) (hv : nth cc vo = some (.bool bb)) : TrE Try.prog 42 [kP k, .pointer (some ⟨vb, vo, none⟩)] ([(k, .cells [.bool true, adr, bv, sV left].toArray 84), (vb, .cells cc.toArray Tv)]) (fun u L' => u = .tuple #[] ∧ ∃ x, rdF .flg left = some (x, left.drop 1) ∧ L' = [(k, .cells [.bool true, adr, bv, sV (left.drop 1)].toArray 84), (vb, .cells (cc.set vo (Fld.flg.cell x)).toArray Tv)]) (fun c L' => c = badC ∧ rdF .flg left = none ∧ L' = []) := by
 refine TrE.enter Try.func42 rfl Try.ntmps42 rfl (fun W F => ?_)
 refine Wp.app ?_
 refine Wr ?_
 refine Ops.ef rfl (ef_alloc1 tyZ57 rfl rfl) ?_
 rintro _ _ ⟨b1, rfl, rfl⟩
 refine Ops.ef rfl (ef_store1 rfl rfl (by first | rfl | assumption) (by first | rfl | assumption)) ?_
 rintro _ _ ⟨rfl, rfl⟩
 refine On ?_
 refine Wp.seq ?_
 refine Wr ?_
 refine Om1 rfl rfl ?_
 refine Ops.pv (pv_nilCheck rfl) rfl ?_
 refine Ops.pv (pv_load rfl rfl hv) rfl ?_
 refine On ?_
 refine Wp.cond_t rfl (fun h1 => ?_) (fun h1 => ?_)
 ·
  obtain rfl : bb = true := by assumption
  refine Wp.region ?_
  refine Ops.ef rfl (ef_store1 rfl rfl (by first | rfl | assumption) (by first | rfl | assumption)) ?_
  rintro _ _ ⟨rfl, rfl⟩
  refine On ?_
  refine Wr ?_
  refine Om1 rfl rfl ?_
  refine Ops.efx rfl (efx_call (tr_wordR k adr bv left hl h1b h1a b1 0 [.int .u64 1] 57 1 rfl 1 (by decide) (by decide)) rfl rfl) ?_ ?_
  ·
   rintro _ _ ⟨_, ⟨rfl, hno, rfl⟩, rfl⟩
   exact ⟨[], ⟨rfl, if_pos hno, rfl⟩, inferInstance⟩
  rintro _ _ ⟨_, _, ⟨rfl, hlen, rfl⟩, rfl, rfl⟩
  refine Ops.app ?_
  have hlt := leV_lt (left.take 1)
  refine On ?_
  refine Wp.seq ?_
  refine Wr ?_
  refine Ol1 rfl rfl rfl rfl ?_
  refine Ops.pv (pv_gtr rfl rfl) rfl ?_
  refine On ?_
  refine Wp.cond_dect rfl (fun h2 => ?_) (fun h2 => ?_)
  ·
   refine Wp.region ?_
   refine Ops.pv (pv_build rfl) rfl ?_
   refine Ops.pv (pv_iface rfl rfl) rfl ?_
   exact Ops.panic rfl ⟨[], ⟨rfl, rdF_bad hlen (by unfold Fld.dec; dsimp only [Fld.wid]; rw [if_neg (by omega)]), rfl⟩, inferInstance⟩
  refine Wp.skip ?_
  refine Ends.seq ?_
  refine Wp.region ?_
  refine Om1 rfl rfl ?_
  refine Ol1 rfl rfl rfl rfl ?_
  refine Ops.pv (pv_eql rfl rfl) rfl ?_
  refine Ops.pv (pv_nilCheck rfl) rfl ?_
  refine Ops.ef rfl (ef_store1 (hset := setL_set (nth_lt hv)) rfl rfl rfl rfl) ?_
  rintro _ _ ⟨rfl, rfl⟩
  refine Ops.nil ?_
  have hx : rdF .flg left = some (((leV (left.take 1) : Nat) : Int), left.drop 1) := rdF_of hlen (by unfold Fld.dec; dsimp only [Fld.wid]; rw [if_pos (by omega)])
  exact Ends.finE (L' := [(k, .cells [.bool true, adr, bv, sV (left.drop 1)].toArray 84), (vb, .cells (cc.set vo (.bool (decide (((leV (left.take 1) : Nat) : Int) = 1)))).toArray Tv)]) (res0 rfl) ⟨rfl, _, hx, rfl⟩
 obtain rfl : bb = false := by assumption
 refine Wp.skip ?_
 refine Ends.seq ?_
 refine Wr ?_
 refine Om1 rfl rfl ?_
 refine Ops.efx rfl (efx_call (tr_wordR k adr bv left hl h1b h1a b1 0 [.int .u64 0] 57 0 rfl 1 (by decide) (by decide)) rfl rfl) ?_ ?_
 ·
  rintro _ _ ⟨_, ⟨rfl, hno, rfl⟩, rfl⟩
  exact ⟨[], ⟨rfl, if_pos hno, rfl⟩, inferInstance⟩
 rintro _ _ ⟨_, _, ⟨rfl, hlen, rfl⟩, rfl, rfl⟩
 refine Ops.app ?_
 have hlt := leV_lt (left.take 1)
 refine On ?_
 refine Wp.seq ?_
 refine Wr ?_
 refine Ol1 rfl rfl rfl rfl ?_
 refine Ops.pv (pv_gtr rfl rfl) rfl ?_
 refine On ?_
 refine Wp.cond_dect rfl (fun h3 => ?_) (fun h3 => ?_)
 ·
  refine Wp.region ?_
  refine Ops.pv (pv_build rfl) rfl ?_
  refine Ops.pv (pv_iface rfl rfl) rfl ?_
  exact Ops.panic rfl ⟨[], ⟨rfl, rdF_bad hlen (by unfold Fld.dec; dsimp only [Fld.wid]; rw [if_neg (by omega)]), rfl⟩, inferInstance⟩
 refine Wp.skip ?_
 refine Ends.seq ?_
 refine Wp.region ?_
 refine Om1 rfl rfl ?_
 refine Ol1 rfl rfl rfl rfl ?_
 refine Ops.pv (pv_eql rfl rfl) rfl ?_
 refine Ops.pv (pv_nilCheck rfl) rfl ?_
 refine Ops.ef rfl (ef_store1 (hset := setL_set (nth_lt hv)) rfl rfl rfl rfl) ?_
 rintro _ _ ⟨rfl, rfl⟩
 refine Ops.nil ?_
 have hx : rdF .flg left = some (((leV (left.take 1) : Nat) : Int), left.drop 1) := rdF_of hlen (by unfold Fld.dec; dsimp only [Fld.wid]; rw [if_pos (by omega)])
 exact Ends.finE (L' := [(k, .cells [.bool true, adr, bv, sV (left.drop 1)].toArray 84), (vb, .cells (cc.set vo (.bool (decide (((leV (left.take 1) : Nat) : Int) = 1)))).toArray Tv)]) (res0 rfl) ⟨rfl, _, hx, rfl⟩
set_option maxHeartbeats 8000000 in
theorem tr_allW1 (cp : Nat) (k : Nat) (left : List UInt8) (bs : List UInt8) (pa : Option Addr) (ca : Nat) (Kb : Hp) (hb : Slc 5 1 (.slice pa bs.length ca) bs.length (bC bs) Kb) (hl : bs.length ≤ 2 ^ 38) (eb off : Nat) (cc : List Value) (Te : TypeId) (a0 a1 a2 : Int) (hrg : rgE fsO [a0, a1, a2]) (hx : Lies cc off (cellsE fsO [a0, a1, a2])) : TrE Try.prog 35 [.pointer (some ⟨eb, off, none⟩), .pointer (some ⟨cp, 0, none⟩)] ((cp, .cells [kP k].toArray 78) :: ((k, .cells [.bool false, .pointer (some ⟨k, 1, none⟩), .slice pa bs.length ca, sV left].toArray 84) :: (Kb ++ [(eb, .cells cc.toArray Te)]))) (fun u L' => u = .tuple #[] ∧ okE fsO [a0, a1, a2] ∧ ∃ pa' ca' Kb', Slc 5 1 (.slice pa' (bs ++ encE fsO [a0, a1, a2]).length ca') (bs ++ encE fsO [a0, a1, a2]).length (bC (bs ++ encE fsO [a0, a1, a2])) Kb' ∧ L' = (cp, .cells [kP k].toArray 78) :: ((k, .cells [.bool false, .pointer (some ⟨k, 1, none⟩), .slice pa' (bs ++ encE fsO [a0, a1, a2]).length ca', sV left].toArray 84) :: (Kb' ++ [(eb, .cells cc.toArray Te)]))) (fun c L' => c = badC ∧ ¬ okE fsO [a0, a1, a2] ∧ L' = []) := by
 have hrg0 := hrg
 simp only [fsO, rgE, Fld.rg, RgI] at hrg
 have hcl := hx.len (by simp [cellsE, fsO])
 simp only [cellsE, fsO, List.zipWith_cons_cons, List.zipWith_nil_left, List.length_cons, List.length_nil] at hcl
 refine TrE.enter Try.func35 rfl Try.ntmps35 rfl (fun W F => ?_)
 refine Wp.app ?_
 refine Wp.seq ?_
 refine AnyH.start ([(cp, .cells [kP k].toArray 78)] : Hp) 12 rfl ?_
 refine Tk 0 rfl rfl (pv_load rfl rfl rfl) rfl ?_
 refine Tk 1 rfl rfl (pv_move rfl) rfl ?_
 refine Tk 2 rfl rfl (pv_nilCheck rfl) rfl ?_
 refine Tk 3 rfl rfl (pv_fieldAddr rfl rfl) rfl ?_
 refine Tk 4 rfl rfl (pv_move rfl) rfl ?_
 refine Tk 5 rfl rfl (pv_nilCheck rfl) rfl ?_
 refine Tk 6 rfl rfl (pv_fieldAddr rfl rfl) rfl ?_
 refine Tk 7 rfl rfl (pv_move rfl) rfl ?_
 refine Tk 8 rfl rfl (pv_nilCheck rfl) rfl ?_
 refine Tk 9 rfl rfl (pv_fieldAddr rfl rfl) rfl ?_
 refine AnyH.one 10 (by kernel_rfl) ?_
 refine Turn.ef rfl rfl (ef_buildSliceN [.pointer none, .pointer none, .pointer none] [(0, 1), (1, 1), (2, 1)] rfl (by kernel_rfl) (by first | decide | rfl) rfl rfl rfl) ?_ ?_
 ·
  rintro _ _ ⟨b1, rfl, rfl⟩; infer_instance
 rintro _ _ ⟨b1, rfl, rfl⟩
 refine AnyH.one 11 (by kernel_rfl) ?_
 refine Turn.efx rfl rfl (efx_call (tr_twoW k left (bs) pa ca Kb hb b1 120 [.pointer (some ⟨eb, off + 0, none⟩), .pointer (some ⟨eb, off + 1, none⟩), .pointer (some ⟨eb, off + 2, none⟩)] eb (off + 0) cc Te [a0, a1, a2] rfl (hx.ints [] rfl) (by intro y hy; simp only [List.mem_cons, List.not_mem_nil, or_false] at hy; unfold RgI; omega) (by simp) (by first | omega | (simp only [List.length_set]; omega)) (by simp only [List.length_append, encT_len, leB_len, List.length_cons, List.length_nil]; omega)) rfl rfl) ?_ ?_ ?_
 ·
  rintro _ _ ⟨_, ⟨rfl, hno, rfl⟩, rfl⟩
  exact ⟨[], ⟨rfl, fun ho => hno (by simp only [fsO, okE, Fld.ok] at ho; intro y hy; simp only [List.mem_cons, List.not_mem_nil, or_false] at hy; omega), rfl⟩, inferInstance⟩
 ·
  rintro _ _ ⟨_, _, ⟨rfl, hok1, pa1, ca1, Kb1, hs1, rfl⟩, rfl, rfl⟩; infer_instance
 rintro _ _ ⟨_, _, ⟨rfl, hok1, pa1, ca1, Kb1, hs1, rfl⟩, rfl, rfl⟩
 refine AnyH.app ?_
 refine AnyH.done (by kernel_rfl) ?_
 refine Ends.seq ?_
 refine Wr ?_
 refine Om1 rfl rfl ?_
 refine Ops.pv (pv_nilCheck rfl) rfl ?_
 refine Ops.pv (pv_fieldAddr rfl rfl) rfl ?_
 refine Ops.pv (pv_load rfl rfl (hx.at_ 2 rfl)) rfl ?_
 refine Ops.pv (pv_geq rfl rfl) rfl ?_
 refine On ?_
 refine Wp.cond_dect rfl (fun h1 => ?_) (fun h1 => ?_)
 ·
  refine Wp.region ?_
  refine Ops.pv (pv_build rfl) rfl ?_
  refine Ops.pv (pv_iface rfl rfl) rfl ?_
  exact Ops.panic rfl ⟨[], ⟨rfl, fun ho => by simp only [fsO, okE, Fld.ok] at ho; omega, rfl⟩, inferInstance⟩
 refine Wp.skip ?_
 have hbe : bs ++ encE fsO [a0, a1, a2] = bs ++ encT [a0, a1, a2] := by simp [fsO, encE, encT, Fld.enc]
 have hoe : okE fsO [a0, a1, a2] := by simp only [fsO, okE, Fld.ok, and_true, true_and]; simp only [okT, List.forall_mem_cons, List.not_mem_nil, false_implies, implies_true, and_true] at hok1; omega
 rw [hbe]
 exact Ends.finE (L' := (cp, .cells [kP k].toArray 78) :: ((k, .cells [.bool false, .pointer (some ⟨k, 1, none⟩), .slice pa1 (bs ++ encT [a0, a1, a2]).length ca1, sV left].toArray 84) :: (Kb1 ++ [(eb, .cells cc.toArray Te)]))) (res0 rfl) ⟨rfl, hoe, pa1, ca1, Kb1, hs1, rfl⟩
set_option maxHeartbeats 8000000 in
theorem tr_allW2 (cp : Nat) (k : Nat) (left : List UInt8) (bs : List UInt8) (pa : Option Addr) (ca : Nat) (Kb : Hp) (hb : Slc 5 1 (.slice pa bs.length ca) bs.length (bC bs) Kb) (hl : bs.length ≤ 2 ^ 38) (eb off : Nat) (cc : List Value) (Te : TypeId) (a0 a1 a2 a3 a4 a5 a6 a7 : Int) (hrg : rgE fsP [a0, a1, a2, a3, a4, a5, a6, a7]) (hx : Lies cc off (cellsE fsP [a0, a1, a2, a3, a4, a5, a6, a7])) : TrE Try.prog 38 [.pointer (some ⟨eb, off, none⟩), .pointer (some ⟨cp, 0, none⟩)] ((cp, .cells [kP k].toArray 78) :: ((k, .cells [.bool false, .pointer (some ⟨k, 1, none⟩), .slice pa bs.length ca, sV left].toArray 84) :: (Kb ++ [(eb, .cells cc.toArray Te)]))) (fun u L' => u = .tuple #[] ∧ okE fsP [a0, a1, a2, a3, a4, a5, a6, a7] ∧ ∃ pa' ca' Kb', Slc 5 1 (.slice pa' (bs ++ encE fsP [a0, a1, a2, a3, a4, a5, a6, a7]).length ca') (bs ++ encE fsP [a0, a1, a2, a3, a4, a5, a6, a7]).length (bC (bs ++ encE fsP [a0, a1, a2, a3, a4, a5, a6, a7])) Kb' ∧ L' = (cp, .cells [kP k].toArray 78) :: ((k, .cells [.bool false, .pointer (some ⟨k, 1, none⟩), .slice pa' (bs ++ encE fsP [a0, a1, a2, a3, a4, a5, a6, a7]).length ca', sV left].toArray 84) :: (Kb' ++ [(eb, .cells cc.toArray Te)]))) (fun c L' => c = badC ∧ ¬ okE fsP [a0, a1, a2, a3, a4, a5, a6, a7] ∧ L' = []) := by
 have hrg0 := hrg
 simp only [fsP, rgE, Fld.rg, RgI] at hrg
 obtain ⟨n5, rfl⟩ : ∃ q : Nat, a5 = (q : Int) := ⟨a5.toNat, by omega⟩
 obtain ⟨n6, rfl⟩ : ∃ q : Nat, a6 = (q : Int) := ⟨a6.toNat, by omega⟩
 have hcl := hx.len (by simp [cellsE, fsP])
 simp only [cellsE, fsP, List.zipWith_cons_cons, List.zipWith_nil_left, List.length_cons, List.length_nil] at hcl
 refine TrE.enter Try.func38 rfl Try.ntmps38 rfl (fun W F => ?_)
 refine Wp.app ?_
 refine Wp.seq ?_
 refine AnyH.start ([(cp, .cells [kP k].toArray 78)] : Hp) 23 rfl ?_
 refine Tk 0 rfl rfl (pv_load rfl rfl rfl) rfl ?_
 refine Tk 1 rfl rfl (pv_move rfl) rfl ?_
 refine Tk 2 rfl rfl (pv_nilCheck rfl) rfl ?_
 refine Tk 3 rfl rfl (pv_fieldAddr rfl rfl) rfl ?_
 refine Tk 4 rfl rfl (pv_fieldAddr rfl rfl) rfl ?_
 refine Tk 5 rfl rfl (pv_move rfl) rfl ?_
 refine Tk 6 rfl rfl (pv_nilCheck rfl) rfl ?_
 refine Tk 7 rfl rfl (pv_fieldAddr rfl rfl) rfl ?_
 refine Tk 8 rfl rfl (pv_fieldAddr rfl rfl) rfl ?_
 refine Tk 9 rfl rfl (pv_move rfl) rfl ?_
 refine Tk 10 rfl rfl (pv_nilCheck rfl) rfl ?_
 refine Tk 11 rfl rfl (pv_fieldAddr rfl rfl) rfl ?_
 refine Tk 12 rfl rfl (pv_fieldAddr rfl rfl) rfl ?_
 refine Tk 13 rfl rfl (pv_move rfl) rfl ?_
 refine Tk 14 rfl rfl (pv_nilCheck rfl) rfl ?_
 refine Tk 15 rfl rfl (pv_fieldAddr rfl rfl) rfl ?_
 refine Tk 16 rfl rfl (pv_fieldAddr rfl rfl) rfl ?_
 refine Tk 17 rfl rfl (pv_move rfl) rfl ?_
 refine Tk 18 rfl rfl (pv_nilCheck rfl) rfl ?_
 refine Tk 19 rfl rfl (pv_fieldAddr rfl rfl) rfl ?_
 refine Tk 20 rfl rfl (pv_fieldAddr rfl rfl) rfl ?_
 refine AnyH.one 21 (by kernel_rfl) ?_
 refine Turn.ef rfl rfl (ef_buildSliceN [.pointer none, .pointer none, .pointer none, .pointer none, .pointer none] [(0, 1), (1, 1), (2, 1), (3, 1), (4, 1)] rfl (by kernel_rfl) (by first | decide | rfl) rfl rfl rfl) ?_ ?_
 ·
  rintro _ _ ⟨b1, rfl, rfl⟩; infer_instance
 rintro _ _ ⟨b1, rfl, rfl⟩
 refine AnyH.one 22 (by kernel_rfl) ?_
 refine Turn.efx rfl rfl (efx_call (tr_twoW k left (bs) pa ca Kb hb b1 120 [.pointer (some ⟨eb, off + 0 + 0, none⟩), .pointer (some ⟨eb, off + 0 + 1, none⟩), .pointer (some ⟨eb, off + 2 + 0, none⟩), .pointer (some ⟨eb, off + 2 + 1, none⟩), .pointer (some ⟨eb, off + 2 + 2, none⟩)] eb (off + 0) cc Te [a0, a1, a2, a3, a4] rfl (hx.ints [] rfl) (by intro y hy; simp only [List.mem_cons, List.not_mem_nil, or_false] at hy; unfold RgI; omega) (by simp) (by first | omega | (simp only [List.length_set]; omega)) (by simp only [List.length_append, encT_len, leB_len, List.length_cons, List.length_nil]; omega)) rfl rfl) ?_ ?_ ?_
 ·
  rintro _ _ ⟨_, ⟨rfl, hno, rfl⟩, rfl⟩
  exact ⟨[], ⟨rfl, fun ho => hno (by simp only [fsP, okE, Fld.ok] at ho; intro y hy; simp only [List.mem_cons, List.not_mem_nil, or_false] at hy; omega), rfl⟩, inferInstance⟩
 ·
  rintro _ _ ⟨_, _, ⟨rfl, hok1, pa1, ca1, Kb1, hs1, rfl⟩, rfl, rfl⟩; infer_instance
 rintro _ _ ⟨_, _, ⟨rfl, hok1, pa1, ca1, Kb1, hs1, rfl⟩, rfl, rfl⟩
 refine AnyH.app ?_
 refine AnyH.done (by kernel_rfl) ?_
 refine Ends.seq ?_
 refine Wp.seq ?_
 refine AnyH.start ([(cp, .cells [kP k].toArray 78)] : Hp) 6 rfl ?_
 refine Tk 0 rfl rfl (pv_load rfl rfl rfl) rfl ?_
 refine Tk 1 rfl rfl (pv_move rfl) rfl ?_
 refine Tk 2 rfl rfl (pv_nilCheck rfl) rfl ?_
 refine Tk 3 rfl rfl (pv_fieldAddr rfl rfl) rfl ?_
 refine Tk 4 rfl rfl (pv_fieldAddr rfl rfl) rfl ?_
 refine AnyH.one 5 (by kernel_rfl) ?_
 refine Turn.efx rfl rfl (efx_call (tr_wordW k left (bs ++ encT [a0, a1, a2, a3, a4]) pa1 ca1 Kb1 hs1 (by simp only [List.length_append, encT_len, leB_len, List.length_cons, List.length_nil]; omega) eb (off + 2 + 3) cc Te n5 (hx.at_ 5 rfl) 4 (by decide) (by decide)) rfl rfl) ?_ ?_ ?_
 ·
  rintro _ _ ⟨_, ⟨rfl, hno, rfl⟩, rfl⟩
  exact ⟨[], ⟨rfl, fun ho => hno (by simp only [fsP, okE, Fld.ok] at ho; first | exact .inl rfl | (right; omega)), rfl⟩, inferInstance⟩
 ·
  rintro _ _ ⟨_, _, ⟨rfl, hok2, pa2, ca2, Kb2, hs2, rfl⟩, rfl, rfl⟩; infer_instance
 rintro _ _ ⟨_, _, ⟨rfl, hok2, pa2, ca2, Kb2, hs2, rfl⟩, rfl, rfl⟩
 refine AnyH.app ?_
 refine AnyH.done (by kernel_rfl) ?_
 refine Ends.seq ?_
 refine Wp.seq ?_
 refine AnyH.start ([(cp, .cells [kP k].toArray 78)] : Hp) 6 rfl ?_
 refine Tk 0 rfl rfl (pv_load rfl rfl rfl) rfl ?_
 refine Tk 1 rfl rfl (pv_move rfl) rfl ?_
 refine Tk 2 rfl rfl (pv_nilCheck rfl) rfl ?_
 refine Tk 3 rfl rfl (pv_fieldAddr rfl rfl) rfl ?_
 refine Tk 4 rfl rfl (pv_fieldAddr rfl rfl) rfl ?_
 refine AnyH.one 5 (by kernel_rfl) ?_
 refine Turn.efx rfl rfl (efx_call (tr_wordW k left (bs ++ encT [a0, a1, a2, a3, a4] ++ leB 4 n5) pa2 ca2 Kb2 hs2 (by simp only [List.length_append, encT_len, leB_len, List.length_cons, List.length_nil]; omega) eb (off + 2 + 4) cc Te n6 (hx.at_ 6 rfl) 4 (by decide) (by decide)) rfl rfl) ?_ ?_ ?_
 ·
  rintro _ _ ⟨_, ⟨rfl, hno, rfl⟩, rfl⟩
  exact ⟨[], ⟨rfl, fun ho => hno (by simp only [fsP, okE, Fld.ok] at ho; first | exact .inl rfl | (right; omega)), rfl⟩, inferInstance⟩
 ·
  rintro _ _ ⟨_, _, ⟨rfl, hok3, pa3, ca3, Kb3, hs3, rfl⟩, rfl, rfl⟩; infer_instance
 rintro _ _ ⟨_, _, ⟨rfl, hok3, pa3, ca3, Kb3, hs3, rfl⟩, rfl, rfl⟩
 refine AnyH.app ?_
 refine AnyH.done (by kernel_rfl) ?_
 refine Ends.seq ?_
 refine AnyH.start ([(cp, .cells [kP k].toArray 78)] : Hp) 7 rfl ?_
 refine Tk 0 rfl rfl (pv_load rfl rfl rfl) rfl ?_
 refine Tk 1 rfl rfl (pv_move rfl) rfl ?_
 refine Tk 2 rfl rfl (pv_nilCheck rfl) rfl ?_
 refine Tk 3 rfl rfl (pv_fieldAddr rfl rfl) rfl ?_
 refine Tk 4 rfl rfl (pv_fieldAddr rfl rfl) rfl ?_
 refine AnyH.one 5 (by kernel_rfl) ?_
 refine Turn.ef rfl rfl (ef_buildSlice1 (k := 1) rfl rfl rfl rfl rfl) ?_ ?_
 ·
  rintro _ _ ⟨b2, rfl, rfl⟩; infer_instance
 rintro _ _ ⟨b2, rfl, rfl⟩
 refine AnyH.one 6 (by kernel_rfl) ?_
 refine Turn.efx rfl rfl (efx_call (tr_twoW k left (bs ++ encT [a0, a1, a2, a3, a4] ++ leB 4 n5 ++ leB 4 n6) pa3 ca3 Kb3 hs3 b2 120 [.pointer (some ⟨eb, off + 2 + 5, none⟩)] eb (off + 7) cc Te [a7] rfl (hx.ints [.int .i64 a0, .int .i64 a1, .int .i64 a2, .int .i64 a3, .int .i64 a4, .int .u64 (n5 : Int), .int .u64 (n6 : Int)] rfl) (by intro y hy; simp only [List.mem_cons, List.not_mem_nil, or_false] at hy; unfold RgI; omega) (by simp) (by first | omega | (simp only [List.length_set]; omega)) (by simp only [List.length_append, encT_len, leB_len, List.length_cons, List.length_nil]; omega)) rfl rfl) ?_ ?_ ?_
 ·
  rintro _ _ ⟨_, ⟨rfl, hno, rfl⟩, rfl⟩
  exact ⟨[], ⟨rfl, fun ho => hno (by simp only [fsP, okE, Fld.ok] at ho; intro y hy; simp only [List.mem_cons, List.not_mem_nil, or_false] at hy; omega), rfl⟩, inferInstance⟩
 ·
  rintro _ _ ⟨_, _, ⟨rfl, hok4, pa4, ca4, Kb4, hs4, rfl⟩, rfl, rfl⟩; infer_instance
 rintro _ _ ⟨_, _, ⟨rfl, hok4, pa4, ca4, Kb4, hs4, rfl⟩, rfl, rfl⟩
 refine AnyH.app ?_
 refine AnyH.done (by kernel_rfl) ?_
 have hbe : bs ++ encE fsP [a0, a1, a2, a3, a4, (n5 : Int), (n6 : Int), a7] = bs ++ encT [a0, a1, a2, a3, a4] ++ leB 4 n5 ++ leB 4 n6 ++ encT [a7] := by simp [fsP, encE, encT, Fld.enc]
 have hoe : okE fsP [a0, a1, a2, a3, a4, (n5 : Int), (n6 : Int), a7] := by simp only [fsP, okE, Fld.ok, and_true, true_and]; simp only [okT, List.forall_mem_cons, List.not_mem_nil, false_implies, implies_true, and_true] at hok1; simp only [okT, List.forall_mem_cons, List.not_mem_nil, false_implies, implies_true, and_true] at hok4; omega
 rw [hbe]
 exact Ends.finE (L' := (cp, .cells [kP k].toArray 78) :: ((k, .cells [.bool false, .pointer (some ⟨k, 1, none⟩), .slice pa4 (bs ++ encT [a0, a1, a2, a3, a4] ++ leB 4 n5 ++ leB 4 n6 ++ encT [a7]).length ca4, sV left].toArray 84) :: (Kb4 ++ [(eb, .cells cc.toArray Te)]))) (res0 rfl) ⟨rfl, hoe, pa4, ca4, Kb4, hs4, rfl⟩
set_option maxHeartbeats 8000000 in
theorem tr_allW3 (cp : Nat) (k : Nat) (left : List UInt8) (bs : List UInt8) (pa : Option Addr) (ca : Nat) (Kb : Hp) (hb : Slc 5 1 (.slice pa bs.length ca) bs.length (bC bs) Kb) (hl : bs.length ≤ 2 ^ 38) (eb off : Nat) (cc : List Value) (Te : TypeId) (a0 a1 a2 a3 : Int) (hrg : rgE fsM [a0, a1, a2, a3]) (hx : Lies cc off (cellsE fsM [a0, a1, a2, a3])) : TrE Try.prog 41 [.pointer (some ⟨eb, off, none⟩), .pointer (some ⟨cp, 0, none⟩)] ((cp, .cells [kP k].toArray 78) :: ((k, .cells [.bool false, .pointer (some ⟨k, 1, none⟩), .slice pa bs.length ca, sV left].toArray 84) :: (Kb ++ [(eb, .cells cc.toArray Te)]))) (fun u L' => u = .tuple #[] ∧ okE fsM [a0, a1, a2, a3] ∧ ∃ pa' ca' Kb', Slc 5 1 (.slice pa' (bs ++ encE fsM [a0, a1, a2, a3]).length ca') (bs ++ encE fsM [a0, a1, a2, a3]).length (bC (bs ++ encE fsM [a0, a1, a2, a3])) Kb' ∧ L' = (cp, .cells [kP k].toArray 78) :: ((k, .cells [.bool false, .pointer (some ⟨k, 1, none⟩), .slice pa' (bs ++ encE fsM [a0, a1, a2, a3]).length ca', sV left].toArray 84) :: (Kb' ++ [(eb, .cells cc.toArray Te)]))) (fun c L' => c = badC ∧ ¬ okE fsM [a0, a1, a2, a3] ∧ L' = []) := by
 have hrg0 := hrg
 simp only [fsM, rgE, Fld.rg, RgI] at hrg
 have hcl := hx.len (by simp [cellsE, fsM])
 simp only [cellsE, fsM, List.zipWith_cons_cons, List.zipWith_nil_left, List.length_cons, List.length_nil] at hcl
 refine TrE.enter Try.func41 rfl Try.ntmps41 rfl (fun W F => ?_)
 refine Wp.app ?_
 refine Wp.seq ?_
 refine AnyH.start ([(cp, .cells [kP k].toArray 78)] : Hp) 12 rfl ?_
 refine Tk 0 rfl rfl (pv_load rfl rfl rfl) rfl ?_
 refine Tk 1 rfl rfl (pv_move rfl) rfl ?_
 refine Tk 2 rfl rfl (pv_nilCheck rfl) rfl ?_
 refine Tk 3 rfl rfl (pv_fieldAddr rfl rfl) rfl ?_
 refine Tk 4 rfl rfl (pv_move rfl) rfl ?_
 refine Tk 5 rfl rfl (pv_nilCheck rfl) rfl ?_
 refine Tk 6 rfl rfl (pv_fieldAddr rfl rfl) rfl ?_
 refine Tk 7 rfl rfl (pv_move rfl) rfl ?_
 refine Tk 8 rfl rfl (pv_nilCheck rfl) rfl ?_
 refine Tk 9 rfl rfl (pv_fieldAddr rfl rfl) rfl ?_
 refine AnyH.one 10 (by kernel_rfl) ?_
 refine Turn.ef rfl rfl (ef_buildSliceN [.pointer none, .pointer none, .pointer none] [(0, 1), (1, 1), (2, 1)] rfl (by kernel_rfl) (by first | decide | rfl) rfl rfl rfl) ?_ ?_
 ·
  rintro _ _ ⟨b1, rfl, rfl⟩; infer_instance
 rintro _ _ ⟨b1, rfl, rfl⟩
 refine AnyH.one 11 (by kernel_rfl) ?_
 refine Turn.efx rfl rfl (efx_call (tr_twoW k left (bs) pa ca Kb hb b1 120 [.pointer (some ⟨eb, off + 0, none⟩), .pointer (some ⟨eb, off + 1, none⟩), .pointer (some ⟨eb, off + 2, none⟩)] eb (off + 0) cc Te [a0, a1, a2] rfl (hx.ints [] rfl) (by intro y hy; simp only [List.mem_cons, List.not_mem_nil, or_false] at hy; unfold RgI; omega) (by simp) (by first | omega | (simp only [List.length_set]; omega)) (by simp only [List.length_append, encT_len, leB_len, List.length_cons, List.length_nil]; omega)) rfl rfl) ?_ ?_ ?_
 ·
  rintro _ _ ⟨_, ⟨rfl, hno, rfl⟩, rfl⟩
  exact ⟨[], ⟨rfl, fun ho => hno (by simp only [fsM, okE, Fld.ok] at ho; intro y hy; simp only [List.mem_cons, List.not_mem_nil, or_false] at hy; omega), rfl⟩, inferInstance⟩
 ·
  rintro _ _ ⟨_, _, ⟨rfl, hok1, pa1, ca1, Kb1, hs1, rfl⟩, rfl, rfl⟩; infer_instance
 rintro _ _ ⟨_, _, ⟨rfl, hok1, pa1, ca1, Kb1, hs1, rfl⟩, rfl, rfl⟩
 refine AnyH.app ?_
 refine AnyH.done (by kernel_rfl) ?_
 refine Ends.seq ?_
 refine AnyH.start ([(cp, .cells [kP k].toArray 78)] : Hp) 5 rfl ?_
 refine Tk 0 rfl rfl (pv_load rfl rfl rfl) rfl ?_
 refine Tk 1 rfl rfl (pv_move rfl) rfl ?_
 refine Tk 2 rfl rfl (pv_nilCheck rfl) rfl ?_
 refine Tk 3 rfl rfl (pv_fieldAddr rfl rfl) rfl ?_
 refine AnyH.one 4 (by kernel_rfl) ?_
 refine Turn.efx rfl rfl (efx_call (tr_flagW k left (bs ++ encT [a0, a1, a2]) pa1 ca1 Kb1 hs1 (by simp only [List.length_append, encT_len, leB_len, List.length_cons, List.length_nil]; omega) eb (off + 3) cc Te (decide (a3 = 1)) (hx.at_ 3 rfl)) rfl rfl) ?_ ?_ ?_
 ·
  rintro _ _ ⟨_, ⟨rfl, hno, rfl⟩, rfl⟩
  exact absurd hno id
 ·
  rintro _ _ ⟨_, _, ⟨rfl, pa2, ca2, Kb2, hs2, rfl⟩, rfl, rfl⟩; infer_instance
 rintro _ _ ⟨_, _, ⟨rfl, pa2, ca2, Kb2, hs2, rfl⟩, rfl, rfl⟩
 refine AnyH.app ?_
 refine AnyH.done (by kernel_rfl) ?_
 have hbe : bs ++ encE fsM [a0, a1, a2, a3] = bs ++ encT [a0, a1, a2] ++ leB 1 (if decide (a3 = 1) = true then 1 else 0) := by simp [fsM, encE, encT, Fld.enc, flg_enc hrg.2.2.2.1]
 have hoe : okE fsM [a0, a1, a2, a3] := by simp only [fsM, okE, Fld.ok, and_true, true_and]; simp only [okT, List.forall_mem_cons, List.not_mem_nil, false_implies, implies_true, and_true] at hok1; omega
 rw [hbe]
 exact Ends.finE (L' := (cp, .cells [kP k].toArray 78) :: ((k, .cells [.bool false, .pointer (some ⟨k, 1, none⟩), .slice pa2 (bs ++ encT [a0, a1, a2] ++ leB 1 (if decide (a3 = 1) = true then 1 else 0)).length ca2, sV left].toArray 84) :: (Kb2 ++ [(eb, .cells cc.toArray Te)]))) (res0 rfl) ⟨rfl, hoe, pa2, ca2, Kb2, hs2, rfl⟩
set_option maxHeartbeats 8000000 in
theorem tr_allW4 (cp : Nat) (k : Nat) (left : List UInt8) (bs : List UInt8) (pa : Option Addr) (ca : Nat) (Kb : Hp) (hb : Slc 5 1 (.slice pa bs.length ca) bs.length (bC bs) Kb) (hl : bs.length ≤ 2 ^ 38) (eb off : Nat) (cc : List Value) (Te : TypeId) (a0 a1 a2 : Int) (hrg : rgE fsF [a0, a1, a2]) (hx : Lies cc off (cellsE fsF [a0, a1, a2])) : TrE Try.prog 44 [.pointer (some ⟨eb, off, none⟩), .pointer (some ⟨cp, 0, none⟩)] ((cp, .cells [kP k].toArray 78) :: ((k, .cells [.bool false, .pointer (some ⟨k, 1, none⟩), .slice pa bs.length ca, sV left].toArray 84) :: (Kb ++ [(eb, .cells cc.toArray Te)]))) (fun u L' => u = .tuple #[] ∧ okE fsF [a0, a1, a2] ∧ ∃ pa' ca' Kb', Slc 5 1 (.slice pa' (bs ++ encE fsF [a0, a1, a2]).length ca') (bs ++ encE fsF [a0, a1, a2]).length (bC (bs ++ encE fsF [a0, a1, a2])) Kb' ∧ L' = (cp, .cells [kP k].toArray 78) :: ((k, .cells [.bool false, .pointer (some ⟨k, 1, none⟩), .slice pa' (bs ++ encE fsF [a0, a1, a2]).length ca', sV left].toArray 84) :: (Kb' ++ [(eb, .cells cc.toArray Te)]))) (fun c L' => c = badC ∧ ¬ okE fsF [a0, a1, a2] ∧ L' = []) := by
 have hrg0 := hrg
 simp only [fsF, rgE, Fld.rg, RgI] at hrg
 obtain ⟨n2, rfl⟩ : ∃ q : Nat, a2 = (q : Int) := ⟨a2.toNat, by omega⟩
 have hcl := hx.len (by simp [cellsE, fsF])
 simp only [cellsE, fsF, List.zipWith_cons_cons, List.zipWith_nil_left, List.length_cons, List.length_nil] at hcl
 refine TrE.enter Try.func44 rfl Try.ntmps44 rfl (fun W F => ?_)
 refine Wp.app ?_
 refine Wp.seq ?_
 refine AnyH.start ([(cp, .cells [kP k].toArray 78)] : Hp) 9 rfl ?_
 refine Tk 0 rfl rfl (pv_load rfl rfl rfl) rfl ?_
 refine Tk 1 rfl rfl (pv_move rfl) rfl ?_
 refine Tk 2 rfl rfl (pv_nilCheck rfl) rfl ?_
 refine Tk 3 rfl rfl (pv_fieldAddr rfl rfl) rfl ?_
 refine Tk 4 rfl rfl (pv_move rfl) rfl ?_
 refine Tk 5 rfl rfl (pv_nilCheck rfl) rfl ?_
 refine Tk 6 rfl rfl (pv_fieldAddr rfl rfl) rfl ?_
 refine AnyH.one 7 (by kernel_rfl) ?_
 refine Turn.ef rfl rfl (ef_buildSlice2 rfl rfl rfl rfl rfl rfl) ?_ ?_
 ·
  rintro _ _ ⟨b1, rfl, rfl⟩; infer_instance
 rintro _ _ ⟨b1, rfl, rfl⟩
 refine AnyH.one 8 (by kernel_rfl) ?_
 refine Turn.efx rfl rfl (efx_call (tr_twoW k left (bs) pa ca Kb hb b1 120 [.pointer (some ⟨eb, off + 0, none⟩), .pointer (some ⟨eb, off + 1, none⟩)] eb (off + 0) cc Te [a0, a1] rfl (hx.ints [] rfl) (by intro y hy; simp only [List.mem_cons, List.not_mem_nil, or_false] at hy; unfold RgI; omega) (by simp) (by first | omega | (simp only [List.length_set]; omega)) (by simp only [List.length_append, encT_len, leB_len, List.length_cons, List.length_nil]; omega)) rfl rfl) ?_ ?_ ?_
 ·
  rintro _ _ ⟨_, ⟨rfl, hno, rfl⟩, rfl⟩
  exact ⟨[], ⟨rfl, fun ho => hno (by simp only [fsF, okE, Fld.ok] at ho; intro y hy; simp only [List.mem_cons, List.not_mem_nil, or_false] at hy; omega), rfl⟩, inferInstance⟩
 ·
  rintro _ _ ⟨_, _, ⟨rfl, hok1, pa1, ca1, Kb1, hs1, rfl⟩, rfl, rfl⟩; infer_instance
 rintro _ _ ⟨_, _, ⟨rfl, hok1, pa1, ca1, Kb1, hs1, rfl⟩, rfl, rfl⟩
 refine AnyH.app ?_
 refine AnyH.done (by kernel_rfl) ?_
 refine Ends.seq ?_
 refine AnyH.start ([(cp, .cells [kP k].toArray 78)] : Hp) 5 rfl ?_
 refine Tk 0 rfl rfl (pv_load rfl rfl rfl) rfl ?_
 refine Tk 1 rfl rfl (pv_move rfl) rfl ?_
 refine Tk 2 rfl rfl (pv_nilCheck rfl) rfl ?_
 refine Tk 3 rfl rfl (pv_fieldAddr rfl rfl) rfl ?_
 refine AnyH.one 4 (by kernel_rfl) ?_
 refine Turn.efx rfl rfl (efx_call (tr_wordW k left (bs ++ encT [a0, a1]) pa1 ca1 Kb1 hs1 (by simp only [List.length_append, encT_len, leB_len, List.length_cons, List.length_nil]; omega) eb (off + 2) cc Te n2 (hx.at_ 2 rfl) 8 (by decide) (by decide)) rfl rfl) ?_ ?_ ?_
 ·
  rintro _ _ ⟨_, ⟨rfl, hno, rfl⟩, rfl⟩
  exact ⟨[], ⟨rfl, fun ho => hno (by simp only [fsF, okE, Fld.ok] at ho; first | exact .inl rfl | (right; omega)), rfl⟩, inferInstance⟩
 ·
  rintro _ _ ⟨_, _, ⟨rfl, hok2, pa2, ca2, Kb2, hs2, rfl⟩, rfl, rfl⟩; infer_instance
 rintro _ _ ⟨_, _, ⟨rfl, hok2, pa2, ca2, Kb2, hs2, rfl⟩, rfl, rfl⟩
 refine AnyH.app ?_
 refine AnyH.done (by kernel_rfl) ?_
 have hbe : bs ++ encE fsF [a0, a1, (n2 : Int)] = bs ++ encT [a0, a1] ++ leB 8 n2 := by simp [fsF, encE, encT, Fld.enc]
 have hoe : okE fsF [a0, a1, (n2 : Int)] := by simp only [fsF, okE, Fld.ok, and_true, true_and]; simp only [okT, List.forall_mem_cons, List.not_mem_nil, false_implies, implies_true, and_true] at hok1; omega
 rw [hbe]
 exact Ends.finE (L' := (cp, .cells [kP k].toArray 78) :: ((k, .cells [.bool false, .pointer (some ⟨k, 1, none⟩), .slice pa2 (bs ++ encT [a0, a1] ++ leB 8 n2).length ca2, sV left].toArray 84) :: (Kb2 ++ [(eb, .cells cc.toArray Te)]))) (res0 rfl) ⟨rfl, hoe, pa2, ca2, Kb2, hs2, rfl⟩
set_option maxHeartbeats 8000000 in
theorem tr_allW5 (cp : Nat) (k : Nat) (left : List UInt8) (bs : List UInt8) (pa : Option Addr) (ca : Nat) (Kb : Hp) (hb : Slc 5 1 (.slice pa bs.length ca) bs.length (bC bs) Kb) (hl : bs.length ≤ 2 ^ 38) (eb off : Nat) (cc : List Value) (Te : TypeId) (a0 a1 a2 a3 a4 a5 a6 a7 : Int) (hrg : rgE fsT [a0, a1, a2, a3, a4, a5, a6, a7]) (hx : Lies cc off (cellsE fsT [a0, a1, a2, a3, a4, a5, a6, a7])) : TrE Try.prog 46 [.pointer (some ⟨eb, off, none⟩), .pointer (some ⟨cp, 0, none⟩)] ((cp, .cells [kP k].toArray 78) :: ((k, .cells [.bool false, .pointer (some ⟨k, 1, none⟩), .slice pa bs.length ca, sV left].toArray 84) :: (Kb ++ [(eb, .cells cc.toArray Te)]))) (fun u L' => u = .tuple #[] ∧ okE fsT [a0, a1, a2, a3, a4, a5, a6, a7] ∧ ∃ pa' ca' Kb', Slc 5 1 (.slice pa' (bs ++ encE fsT [a0, a1, a2, a3, a4, a5, a6, a7]).length ca') (bs ++ encE fsT [a0, a1, a2, a3, a4, a5, a6, a7]).length (bC (bs ++ encE fsT [a0, a1, a2, a3, a4, a5, a6, a7])) Kb' ∧ L' = (cp, .cells [kP k].toArray 78) :: ((k, .cells [.bool false, .pointer (some ⟨k, 1, none⟩), .slice pa' (bs ++ encE fsT [a0, a1, a2, a3, a4, a5, a6, a7]).length ca', sV left].toArray 84) :: (Kb' ++ [(eb, .cells cc.toArray Te)]))) (fun c L' => c = badC ∧ ¬ okE fsT [a0, a1, a2, a3, a4, a5, a6, a7] ∧ L' = []) := by
 have hrg0 := hrg
 simp only [fsT, rgE, Fld.rg, RgI] at hrg
 obtain ⟨n5, rfl⟩ : ∃ q : Nat, a5 = (q : Int) := ⟨a5.toNat, by omega⟩
 have h7 := hx.at_ 7 rfl
 have h7l := nth_lt h7
 have hx8 : Lies (cc.set (off + 7) (.int .i64 (a7 + 1))) (off + 7) (intC [a7 + 1] ++ []) := fun j v hv => by
  match j, hv with
  | 0, hv => cases hv; exact nth_set h7l
 have hcl := hx.len (by simp [cellsE, fsT])
 simp only [cellsE, fsT, List.zipWith_cons_cons, List.zipWith_nil_left, List.length_cons, List.length_nil] at hcl
 refine TrE.enter Try.func46 rfl Try.ntmps46 rfl (fun W F => ?_)
 refine Wp.app ?_
 refine Wp.seq ?_
 refine AnyH.start ([(cp, .cells [kP k].toArray 78)] : Hp) 18 rfl ?_
 refine Tk 0 rfl rfl (pv_load rfl rfl rfl) rfl ?_
 refine Tk 1 rfl rfl (pv_move rfl) rfl ?_
 refine Tk 2 rfl rfl (pv_nilCheck rfl) rfl ?_
 refine Tk 3 rfl rfl (pv_fieldAddr rfl rfl) rfl ?_
 refine Tk 4 rfl rfl (pv_move rfl) rfl ?_
 refine Tk 5 rfl rfl (pv_nilCheck rfl) rfl ?_
 refine Tk 6 rfl rfl (pv_fieldAddr rfl rfl) rfl ?_
 refine Tk 7 rfl rfl (pv_move rfl) rfl ?_
 refine Tk 8 rfl rfl (pv_nilCheck rfl) rfl ?_
 refine Tk 9 rfl rfl (pv_fieldAddr rfl rfl) rfl ?_
 refine Tk 10 rfl rfl (pv_move rfl) rfl ?_
 refine Tk 11 rfl rfl (pv_nilCheck rfl) rfl ?_
 refine Tk 12 rfl rfl (pv_fieldAddr rfl rfl) rfl ?_
 refine Tk 13 rfl rfl (pv_move rfl) rfl ?_
 refine Tk 14 rfl rfl (pv_nilCheck rfl) rfl ?_
 refine Tk 15 rfl rfl (pv_fieldAddr rfl rfl) rfl ?_
 refine AnyH.one 16 (by kernel_rfl) ?_
 refine Turn.ef rfl rfl (ef_buildSliceN [.pointer none, .pointer none, .pointer none, .pointer none, .pointer none] [(0, 1), (1, 1), (2, 1), (3, 1), (4, 1)] rfl (by kernel_rfl) (by first | decide | rfl) rfl rfl rfl) ?_ ?_
 ·
  rintro _ _ ⟨b1, rfl, rfl⟩; infer_instance
 rintro _ _ ⟨b1, rfl, rfl⟩
 refine AnyH.one 17 (by kernel_rfl) ?_
 refine Turn.efx rfl rfl (efx_call (tr_twoW k left (bs) pa ca Kb hb b1 120 [.pointer (some ⟨eb, off + 0, none⟩), .pointer (some ⟨eb, off + 1, none⟩), .pointer (some ⟨eb, off + 2, none⟩), .pointer (some ⟨eb, off + 3, none⟩), .pointer (some ⟨eb, off + 4, none⟩)] eb (off + 0) cc Te [a0, a1, a2, a3, a4] rfl (hx.ints [] rfl) (by intro y hy; simp only [List.mem_cons, List.not_mem_nil, or_false] at hy; unfold RgI; omega) (by simp) (by first | omega | (simp only [List.length_set]; omega)) (by simp only [List.length_append, encT_len, leB_len, List.length_cons, List.length_nil]; omega)) rfl rfl) ?_ ?_ ?_
 ·
  rintro _ _ ⟨_, ⟨rfl, hno, rfl⟩, rfl⟩
  exact ⟨[], ⟨rfl, fun ho => hno (by simp only [fsT, okE, Fld.ok] at ho; intro y hy; simp only [List.mem_cons, List.not_mem_nil, or_false] at hy; omega), rfl⟩, inferInstance⟩
 ·
  rintro _ _ ⟨_, _, ⟨rfl, hok1, pa1, ca1, Kb1, hs1, rfl⟩, rfl, rfl⟩; infer_instance
 rintro _ _ ⟨_, _, ⟨rfl, hok1, pa1, ca1, Kb1, hs1, rfl⟩, rfl, rfl⟩
 refine AnyH.app ?_
 refine AnyH.done (by kernel_rfl) ?_
 refine Ends.seq ?_
 refine Wp.seq ?_
 refine AnyH.start ([(cp, .cells [kP k].toArray 78)] : Hp) 5 rfl ?_
 refine Tk 0 rfl rfl (pv_load rfl rfl rfl) rfl ?_
 refine Tk 1 rfl rfl (pv_move rfl) rfl ?_
 refine Tk 2 rfl rfl (pv_nilCheck rfl) rfl ?_
 refine Tk 3 rfl rfl (pv_fieldAddr rfl rfl) rfl ?_
 refine AnyH.one 4 (by kernel_rfl) ?_
 refine Turn.efx rfl rfl (efx_call (tr_wordW k left (bs ++ encT [a0, a1, a2, a3, a4]) pa1 ca1 Kb1 hs1 (by simp only [List.length_append, encT_len, leB_len, List.length_cons, List.length_nil]; omega) eb (off + 5) cc Te n5 (hx.at_ 5 rfl) 4 (by decide) (by decide)) rfl rfl) ?_ ?_ ?_
 ·
  rintro _ _ ⟨_, ⟨rfl, hno, rfl⟩, rfl⟩
  exact ⟨[], ⟨rfl, fun ho => hno (by simp only [fsT, okE, Fld.ok] at ho; first | exact .inl rfl | (right; omega)), rfl⟩, inferInstance⟩
 ·
  rintro _ _ ⟨_, _, ⟨rfl, hok2, pa2, ca2, Kb2, hs2, rfl⟩, rfl, rfl⟩; infer_instance
 rintro _ _ ⟨_, _, ⟨rfl, hok2, pa2, ca2, Kb2, hs2, rfl⟩, rfl, rfl⟩
 refine AnyH.app ?_
 refine AnyH.done (by kernel_rfl) ?_
 refine Ends.seq ?_
 refine Wp.seq ?_
 refine AnyH.start ([(cp, .cells [kP k].toArray 78)] : Hp) 6 rfl ?_
 refine Tk 0 rfl rfl (pv_load rfl rfl rfl) rfl ?_
 refine Tk 1 rfl rfl (pv_move rfl) rfl ?_
 refine Tk 2 rfl rfl (pv_nilCheck rfl) rfl ?_
 refine Tk 3 rfl rfl (pv_fieldAddr rfl rfl) rfl ?_
 refine AnyH.one 4 (by kernel_rfl) ?_
 refine Turn.ef rfl rfl (ef_buildSlice1 (k := 1) rfl rfl rfl rfl rfl) ?_ ?_
 ·
  rintro _ _ ⟨b2, rfl, rfl⟩; infer_instance
 rintro _ _ ⟨b2, rfl, rfl⟩
 refine AnyH.one 5 (by kernel_rfl) ?_
 refine Turn.efx rfl rfl (efx_call (tr_twoW k left (bs ++ encT [a0, a1, a2, a3, a4] ++ leB 4 n5) pa2 ca2 Kb2 hs2 b2 120 [.pointer (some ⟨eb, off + 6, none⟩)] eb (off + 6) cc Te [a6] rfl (hx.ints [.int .i64 a0, .int .i64 a1, .int .i64 a2, .int .i64 a3, .int .i64 a4, .int .u64 (n5 : Int)] rfl) (by intro y hy; simp only [List.mem_cons, List.not_mem_nil, or_false] at hy; unfold RgI; omega) (by simp) (by first | omega | (simp only [List.length_set]; omega)) (by simp only [List.length_append, encT_len, leB_len, List.length_cons, List.length_nil]; omega)) rfl rfl) ?_ ?_ ?_
 ·
  rintro _ _ ⟨_, ⟨rfl, hno, rfl⟩, rfl⟩
  exact ⟨[], ⟨rfl, fun ho => hno (by simp only [fsT, okE, Fld.ok] at ho; intro y hy; simp only [List.mem_cons, List.not_mem_nil, or_false] at hy; omega), rfl⟩, inferInstance⟩
 ·
  rintro _ _ ⟨_, _, ⟨rfl, hok3, pa3, ca3, Kb3, hs3, rfl⟩, rfl, rfl⟩; infer_instance
 rintro _ _ ⟨_, _, ⟨rfl, hok3, pa3, ca3, Kb3, hs3, rfl⟩, rfl, rfl⟩
 refine AnyH.app ?_
 refine AnyH.done (by kernel_rfl) ?_
 refine Ends.seq ?_
 refine Wp.seq ?_
 refine Wr ?_
 refine Om1 rfl rfl ?_
 refine Ops.pv (pv_nilCheck rfl) rfl ?_
 refine Ops.pv (pv_fieldAddr rfl rfl) rfl ?_
 refine Ops.pv (pv_load rfl rfl (hx.at_ 7 rfl)) rfl ?_
 refine Ops.pv (pv_gtr rfl rfl) rfl ?_
 refine On ?_
 refine Wp.cond_dect rfl (fun h1 => ?_) (fun h1 => ?_)
 ·
  refine Wp.region ?_
  refine Ops.pv (pv_build rfl) rfl ?_
  refine Ops.pv (pv_iface rfl rfl) rfl ?_
  exact Ops.panic rfl ⟨[], ⟨rfl, fun ho => by simp only [fsT, okE, Fld.ok] at ho; omega, rfl⟩, inferInstance⟩
 have h7r : a7 ≤ 65534 := by omega
 refine Wp.skip ?_
 refine Ends.seq ?_
 refine Wr ?_
 refine Om1 rfl rfl ?_
 refine Ops.pv (pv_nilCheck rfl) rfl ?_
 refine Ops.pv (pv_fieldAddr rfl rfl) rfl ?_
 refine Ops.pv (pv_load rfl rfl (hx.at_ 7 rfl)) rfl ?_
 refine Ops.pv (pv_add rfl rfl (r := a7 + 1) (w64 (by omega) (by omega))) rfl ?_
 refine Ops.pv (pv_nilCheck rfl) rfl ?_
 refine Ops.pv (pv_fieldAddr rfl rfl) rfl ?_
 refine Ops.ef rfl (ef_store1 (hset := setL_set h7l) rfl rfl rfl rfl) ?_
 rintro _ _ ⟨rfl, rfl⟩
 refine On ?_
 refine Wp.seq ?_
 refine AnyH.start ([(cp, .cells [kP k].toArray 78)] : Hp) 6 rfl ?_
 refine Tk 0 rfl rfl (pv_load rfl rfl rfl) rfl ?_
 refine Tk 1 rfl rfl (pv_move rfl) rfl ?_
 refine Tk 2 rfl rfl (pv_nilCheck rfl) rfl ?_
 refine Tk 3 rfl rfl (pv_fieldAddr rfl rfl) rfl ?_
 refine AnyH.one 4 (by kernel_rfl) ?_
 refine Turn.ef rfl rfl (ef_buildSlice1 (k := 1) rfl rfl rfl rfl rfl) ?_ ?_
 ·
  rintro _ _ ⟨b3, rfl, rfl⟩; infer_instance
 rintro _ _ ⟨b3, rfl, rfl⟩
 refine AnyH.one 5 (by kernel_rfl) ?_
 refine Turn.efx rfl rfl (efx_call (tr_twoW k left (bs ++ encT [a0, a1, a2, a3, a4] ++ leB 4 n5 ++ encT [a6]) pa3 ca3 Kb3 hs3 b3 120 [.pointer (some ⟨eb, off + 7, none⟩)] eb (off + 7) (cc.set (off + 7) (.int .i64 (a7 + 1))) Te [a7 + 1] rfl (hx8.ints [] rfl) (by intro y hy; simp only [List.mem_cons, List.not_mem_nil, or_false] at hy; unfold RgI; omega) (by simp) (by first | omega | (simp only [List.length_set]; omega)) (by simp only [List.length_append, encT_len, leB_len, List.length_cons, List.length_nil]; omega)) rfl rfl) ?_ ?_ ?_
 ·
  rintro _ _ ⟨_, ⟨rfl, hno, rfl⟩, rfl⟩
  exact ⟨[], ⟨rfl, fun ho => hno (by simp only [fsT, okE, Fld.ok] at ho; intro y hy; simp only [List.mem_cons, List.not_mem_nil, or_false] at hy; omega), rfl⟩, inferInstance⟩
 ·
  rintro _ _ ⟨_, _, ⟨rfl, hok4, pa4, ca4, Kb4, hs4, rfl⟩, rfl, rfl⟩; infer_instance
 rintro _ _ ⟨_, _, ⟨rfl, hok4, pa4, ca4, Kb4, hs4, rfl⟩, rfl, rfl⟩
 refine AnyH.app ?_
 refine AnyH.done (by kernel_rfl) ?_
 refine Ends.seq ?_
 refine Wp.region ?_
 refine Om1 rfl rfl ?_
 refine Ops.pv (pv_nilCheck rfl) rfl ?_
 refine Ops.pv (pv_fieldAddr rfl rfl) rfl ?_
 refine Ops.pv (pv_load rfl rfl (nth_set h7l)) rfl ?_
 refine Ops.pv (pv_sub rfl rfl (r := a7) (by rw [show a7 + 1 - 1 = a7 by omega]; exact w64 (by omega) (by omega))) rfl ?_
 refine Ops.pv (pv_nilCheck rfl) rfl ?_
 refine Ops.pv (pv_fieldAddr rfl rfl) rfl ?_
 refine Ops.ef rfl (ef_store1 (hset := setL_set2s h7 h7l) rfl rfl rfl rfl) ?_
 rintro _ _ ⟨rfl, rfl⟩
 refine Ops.nil ?_
 have hbe : bs ++ encE fsT [a0, a1, a2, a3, a4, (n5 : Int), a6, a7] = bs ++ encT [a0, a1, a2, a3, a4] ++ leB 4 n5 ++ encT [a6] ++ encT [a7 + 1] := by simp [fsT, encE, encT, Fld.enc]
 have hoe : okE fsT [a0, a1, a2, a3, a4, (n5 : Int), a6, a7] := by simp only [fsT, okE, Fld.ok, and_true, true_and]; simp only [okT, List.forall_mem_cons, List.not_mem_nil, false_implies, implies_true, and_true] at hok1; simp only [okT, List.forall_mem_cons, List.not_mem_nil, false_implies, implies_true, and_true] at hok3; simp only [okT, List.forall_mem_cons, List.not_mem_nil, false_implies, implies_true, and_true] at hok4; omega
 rw [hbe]
 exact Ends.finE (L' := (cp, .cells [kP k].toArray 78) :: ((k, .cells [.bool false, .pointer (some ⟨k, 1, none⟩), .slice pa4 (bs ++ encT [a0, a1, a2, a3, a4] ++ leB 4 n5 ++ encT [a6] ++ encT [a7 + 1]).length ca4, sV left].toArray 84) :: (Kb4 ++ [(eb, .cells cc.toArray Te)]))) (res0 rfl) ⟨rfl, hoe, pa4, ca4, Kb4, hs4, rfl⟩
set_option maxHeartbeats 8000000 in
theorem tr_allW6 (cp : Nat) (k : Nat) (left : List UInt8) (bs : List UInt8) (pa : Option Addr) (ca : Nat) (Kb : Hp) (hb : Slc 5 1 (.slice pa bs.length ca) bs.length (bC bs) Kb) (hl : bs.length ≤ 2 ^ 38) (eb off : Nat) (cc : List Value) (Te : TypeId) (a0 a1 a2 a3 : Int) (hrg : rgE fsW [a0, a1, a2, a3]) (hx : Lies cc off (cellsE fsW [a0, a1, a2, a3])) : TrE Try.prog 48 [.pointer (some ⟨eb, off, none⟩), .pointer (some ⟨cp, 0, none⟩)] ((cp, .cells [kP k].toArray 78) :: ((k, .cells [.bool false, .pointer (some ⟨k, 1, none⟩), .slice pa bs.length ca, sV left].toArray 84) :: (Kb ++ [(eb, .cells cc.toArray Te)]))) (fun u L' => u = .tuple #[] ∧ okE fsW [a0, a1, a2, a3] ∧ ∃ pa' ca' Kb', Slc 5 1 (.slice pa' (bs ++ encE fsW [a0, a1, a2, a3]).length ca') (bs ++ encE fsW [a0, a1, a2, a3]).length (bC (bs ++ encE fsW [a0, a1, a2, a3])) Kb' ∧ L' = (cp, .cells [kP k].toArray 78) :: ((k, .cells [.bool false, .pointer (some ⟨k, 1, none⟩), .slice pa' (bs ++ encE fsW [a0, a1, a2, a3]).length ca', sV left].toArray 84) :: (Kb' ++ [(eb, .cells cc.toArray Te)]))) (fun c L' => c = badC ∧ ¬ okE fsW [a0, a1, a2, a3] ∧ L' = []) := by
 have hrg0 := hrg
 simp only [fsW, rgE, Fld.rg, RgI] at hrg
 obtain ⟨n3, rfl⟩ : ∃ q : Nat, a3 = (q : Int) := ⟨a3.toNat, by omega⟩
 have hcl := hx.len (by simp [cellsE, fsW])
 simp only [cellsE, fsW, List.zipWith_cons_cons, List.zipWith_nil_left, List.length_cons, List.length_nil] at hcl
 refine TrE.enter Try.func48 rfl Try.ntmps48 rfl (fun W F => ?_)
 refine Wp.app ?_
 refine Wp.seq ?_
 refine AnyH.start ([(cp, .cells [kP k].toArray 78)] : Hp) 12 rfl ?_
 refine Tk 0 rfl rfl (pv_load rfl rfl rfl) rfl ?_
 refine Tk 1 rfl rfl (pv_move rfl) rfl ?_
 refine Tk 2 rfl rfl (pv_nilCheck rfl) rfl ?_
 refine Tk 3 rfl rfl (pv_fieldAddr rfl rfl) rfl ?_
 refine Tk 4 rfl rfl (pv_move rfl) rfl ?_
 refine Tk 5 rfl rfl (pv_nilCheck rfl) rfl ?_
 refine Tk 6 rfl rfl (pv_fieldAddr rfl rfl) rfl ?_
 refine Tk 7 rfl rfl (pv_move rfl) rfl ?_
 refine Tk 8 rfl rfl (pv_nilCheck rfl) rfl ?_
 refine Tk 9 rfl rfl (pv_fieldAddr rfl rfl) rfl ?_
 refine AnyH.one 10 (by kernel_rfl) ?_
 refine Turn.ef rfl rfl (ef_buildSliceN [.pointer none, .pointer none, .pointer none] [(0, 1), (1, 1), (2, 1)] rfl (by kernel_rfl) (by first | decide | rfl) rfl rfl rfl) ?_ ?_
 ·
  rintro _ _ ⟨b1, rfl, rfl⟩; infer_instance
 rintro _ _ ⟨b1, rfl, rfl⟩
 refine AnyH.one 11 (by kernel_rfl) ?_
 refine Turn.efx rfl rfl (efx_call (tr_twoW k left (bs) pa ca Kb hb b1 120 [.pointer (some ⟨eb, off + 0, none⟩), .pointer (some ⟨eb, off + 1, none⟩), .pointer (some ⟨eb, off + 2, none⟩)] eb (off + 0) cc Te [a0, a1, a2] rfl (hx.ints [] rfl) (by intro y hy; simp only [List.mem_cons, List.not_mem_nil, or_false] at hy; unfold RgI; omega) (by simp) (by first | omega | (simp only [List.length_set]; omega)) (by simp only [List.length_append, encT_len, leB_len, List.length_cons, List.length_nil]; omega)) rfl rfl) ?_ ?_ ?_
 ·
  rintro _ _ ⟨_, ⟨rfl, hno, rfl⟩, rfl⟩
  exact ⟨[], ⟨rfl, fun ho => hno (by simp only [fsW, okE, Fld.ok] at ho; intro y hy; simp only [List.mem_cons, List.not_mem_nil, or_false] at hy; omega), rfl⟩, inferInstance⟩
 ·
  rintro _ _ ⟨_, _, ⟨rfl, hok1, pa1, ca1, Kb1, hs1, rfl⟩, rfl, rfl⟩; infer_instance
 rintro _ _ ⟨_, _, ⟨rfl, hok1, pa1, ca1, Kb1, hs1, rfl⟩, rfl, rfl⟩
 refine AnyH.app ?_
 refine AnyH.done (by kernel_rfl) ?_
 refine Ends.seq ?_
 refine AnyH.start ([(cp, .cells [kP k].toArray 78)] : Hp) 5 rfl ?_
 refine Tk 0 rfl rfl (pv_load rfl rfl rfl) rfl ?_
 refine Tk 1 rfl rfl (pv_move rfl) rfl ?_
 refine Tk 2 rfl rfl (pv_nilCheck rfl) rfl ?_
 refine Tk 3 rfl rfl (pv_fieldAddr rfl rfl) rfl ?_
 refine AnyH.one 4 (by kernel_rfl) ?_
 refine Turn.efx rfl rfl (efx_call (tr_wordW k left (bs ++ encT [a0, a1, a2]) pa1 ca1 Kb1 hs1 (by simp only [List.length_append, encT_len, leB_len, List.length_cons, List.length_nil]; omega) eb (off + 3) cc Te n3 (hx.at_ 3 rfl) 4 (by decide) (by decide)) rfl rfl) ?_ ?_ ?_
 ·
  rintro _ _ ⟨_, ⟨rfl, hno, rfl⟩, rfl⟩
  exact ⟨[], ⟨rfl, fun ho => hno (by simp only [fsW, okE, Fld.ok] at ho; first | exact .inl rfl | (right; omega)), rfl⟩, inferInstance⟩
 ·
  rintro _ _ ⟨_, _, ⟨rfl, hok2, pa2, ca2, Kb2, hs2, rfl⟩, rfl, rfl⟩; infer_instance
 rintro _ _ ⟨_, _, ⟨rfl, hok2, pa2, ca2, Kb2, hs2, rfl⟩, rfl, rfl⟩
 refine AnyH.app ?_
 refine AnyH.done (by kernel_rfl) ?_
 have hbe : bs ++ encE fsW [a0, a1, a2, (n3 : Int)] = bs ++ encT [a0, a1, a2] ++ leB 4 n3 := by simp [fsW, encE, encT, Fld.enc]
 have hoe : okE fsW [a0, a1, a2, (n3 : Int)] := by simp only [fsW, okE, Fld.ok, and_true, true_and]; simp only [okT, List.forall_mem_cons, List.not_mem_nil, false_implies, implies_true, and_true] at hok1; omega
 rw [hbe]
 exact Ends.finE (L' := (cp, .cells [kP k].toArray 78) :: ((k, .cells [.bool false, .pointer (some ⟨k, 1, none⟩), .slice pa2 (bs ++ encT [a0, a1, a2] ++ leB 4 n3).length ca2, sV left].toArray 84) :: (Kb2 ++ [(eb, .cells cc.toArray Te)]))) (res0 rfl) ⟨rfl, hoe, pa2, ca2, Kb2, hs2, rfl⟩
set_option maxHeartbeats 8000000 in
theorem tr_allW7 (cp : Nat) (k : Nat) (left : List UInt8) (bs : List UInt8) (pa : Option Addr) (ca : Nat) (Kb : Hp) (hb : Slc 5 1 (.slice pa bs.length ca) bs.length (bC bs) Kb) (hl : bs.length ≤ 2 ^ 38) (eb off : Nat) (cc : List Value) (Te : TypeId) (a0 a1 : Int) (hrg : rgE fsS [a0, a1]) (hx : Lies cc off (cellsE fsS [a0, a1])) : TrE Try.prog 50 [.pointer (some ⟨eb, off, none⟩), .pointer (some ⟨cp, 0, none⟩)] ((cp, .cells [kP k].toArray 78) :: ((k, .cells [.bool false, .pointer (some ⟨k, 1, none⟩), .slice pa bs.length ca, sV left].toArray 84) :: (Kb ++ [(eb, .cells cc.toArray Te)]))) (fun u L' => u = .tuple #[] ∧ okE fsS [a0, a1] ∧ ∃ pa' ca' Kb', Slc 5 1 (.slice pa' (bs ++ encE fsS [a0, a1]).length ca') (bs ++ encE fsS [a0, a1]).length (bC (bs ++ encE fsS [a0, a1])) Kb' ∧ L' = (cp, .cells [kP k].toArray 78) :: ((k, .cells [.bool false, .pointer (some ⟨k, 1, none⟩), .slice pa' (bs ++ encE fsS [a0, a1]).length ca', sV left].toArray 84) :: (Kb' ++ [(eb, .cells cc.toArray Te)]))) (fun c L' => c = badC ∧ ¬ okE fsS [a0, a1] ∧ L' = []) := by
 have hrg0 := hrg
 simp only [fsS, rgE, Fld.rg, RgI] at hrg
 have hcl := hx.len (by simp [cellsE, fsS])
 simp only [cellsE, fsS, List.zipWith_cons_cons, List.zipWith_nil_left, List.length_cons, List.length_nil] at hcl
 refine TrE.enter Try.func50 rfl Try.ntmps50 rfl (fun W F => ?_)
 refine Wp.app ?_
 refine AnyH.start ([(cp, .cells [kP k].toArray 78)] : Hp) 9 rfl ?_
 refine Tk 0 rfl rfl (pv_load rfl rfl rfl) rfl ?_
 refine Tk 1 rfl rfl (pv_move rfl) rfl ?_
 refine Tk 2 rfl rfl (pv_nilCheck rfl) rfl ?_
 refine Tk 3 rfl rfl (pv_fieldAddr rfl rfl) rfl ?_
 refine Tk 4 rfl rfl (pv_move rfl) rfl ?_
 refine Tk 5 rfl rfl (pv_nilCheck rfl) rfl ?_
 refine Tk 6 rfl rfl (pv_fieldAddr rfl rfl) rfl ?_
 refine AnyH.one 7 (by kernel_rfl) ?_
 refine Turn.ef rfl rfl (ef_buildSlice2 rfl rfl rfl rfl rfl rfl) ?_ ?_
 ·
  rintro _ _ ⟨b1, rfl, rfl⟩; infer_instance
 rintro _ _ ⟨b1, rfl, rfl⟩
 refine AnyH.one 8 (by kernel_rfl) ?_
 refine Turn.efx rfl rfl (efx_call (tr_twoW k left (bs) pa ca Kb hb b1 120 [.pointer (some ⟨eb, off + 0, none⟩), .pointer (some ⟨eb, off + 1, none⟩)] eb (off + 0) cc Te [a0, a1] rfl (hx.ints [] rfl) (by intro y hy; simp only [List.mem_cons, List.not_mem_nil, or_false] at hy; unfold RgI; omega) (by simp) (by first | omega | (simp only [List.length_set]; omega)) (by simp only [List.length_append, encT_len, leB_len, List.length_cons, List.length_nil]; omega)) rfl rfl) ?_ ?_ ?_
 ·
  rintro _ _ ⟨_, ⟨rfl, hno, rfl⟩, rfl⟩
  exact ⟨[], ⟨rfl, fun ho => hno (by simp only [fsS, okE, Fld.ok] at ho; intro y hy; simp only [List.mem_cons, List.not_mem_nil, or_false] at hy; omega), rfl⟩, inferInstance⟩
 ·
  rintro _ _ ⟨_, _, ⟨rfl, hok1, pa1, ca1, Kb1, hs1, rfl⟩, rfl, rfl⟩; infer_instance
 rintro _ _ ⟨_, _, ⟨rfl, hok1, pa1, ca1, Kb1, hs1, rfl⟩, rfl, rfl⟩
 refine AnyH.app ?_
 refine AnyH.done (by kernel_rfl) ?_
 have hbe : bs ++ encE fsS [a0, a1] = bs ++ encT [a0, a1] := by simp [fsS, encE, encT, Fld.enc]
 have hoe : okE fsS [a0, a1] := by simp only [fsS, okE, Fld.ok, and_true, true_and]; simp only [okT, List.forall_mem_cons, List.not_mem_nil, false_implies, implies_true, and_true] at hok1; omega
 rw [hbe]
 exact Ends.finE (L' := (cp, .cells [kP k].toArray 78) :: ((k, .cells [.bool false, .pointer (some ⟨k, 1, none⟩), .slice pa1 (bs ++ encT [a0, a1]).length ca1, sV left].toArray 84) :: (Kb1 ++ [(eb, .cells cc.toArray Te)]))) (res0 rfl) ⟨rfl, hoe, pa1, ca1, Kb1, hs1, rfl⟩
end Go.Proofs.Ytkldjadpoknejaa
end
section
set_option linter.unusedVariables false
set_option linter.unusedSimpArgs false
set_option linter.unusedSectionVars false
namespace Go.Proofs.Ytkldjadpoknejaa
open Go.SL
set_option maxHeartbeats 8000000 in
theorem tr_allR1 (cp : Nat) (k : Nat) (adr bv : Value) (left : List UInt8) (hl : left.length ≤ 2 ^ 40) (h1b : bv.oneCell' = true) (h1a : adr.oneCell' = true) (eb off : Nat) (cc : List Value) (Te : TypeId) (hx : Lies cc off (cellsE fsO [0, 0, 0])) : TrE Try.prog 35 [.pointer (some ⟨eb, off, none⟩), .pointer (some ⟨cp, 0, none⟩)] ((cp, .cells [kP k].toArray 78) :: ((k, .cells [.bool true, adr, bv, sV left].toArray 84) :: [(eb, .cells cc.toArray Te)])) (fun u L' => u = .tuple #[] ∧ ∃ e' left', rdE fsO left = some (e', left') ∧ L' = (cp, .cells [kP k].toArray 78) :: ((k, .cells [.bool true, adr, bv, sV left'].toArray 84) :: [(eb, .cells (setAt cc off (cellsE fsO e')).toArray Te)])) (fun c L' => c = badC ∧ rdE fsO left = none ∧ L' = []) := by
 have hcl := hx.len (by simp [cellsE, fsO])
 simp only [cellsE, fsO, List.zipWith_cons_cons, List.zipWith_nil_left, List.length_cons, List.length_nil] at hcl
 refine TrE.enter Try.func35 rfl Try.ntmps35 rfl (fun W F => ?_)
 refine Wp.app ?_
 refine Wp.seq ?_
 refine AnyH.start ([(cp, .cells [kP k].toArray 78)] : Hp) 12 rfl ?_
 refine Tk 0 rfl rfl (pv_load rfl rfl rfl) rfl ?_
 refine Tk 1 rfl rfl (pv_move rfl) rfl ?_
 refine Tk 2 rfl rfl (pv_nilCheck rfl) rfl ?_
 refine Tk 3 rfl rfl (pv_fieldAddr rfl rfl) rfl ?_
 refine Tk 4 rfl rfl (pv_move rfl) rfl ?_
 refine Tk 5 rfl rfl (pv_nilCheck rfl) rfl ?_
 refine Tk 6 rfl rfl (pv_fieldAddr rfl rfl) rfl ?_
 refine Tk 7 rfl rfl (pv_move rfl) rfl ?_
 refine Tk 8 rfl rfl (pv_nilCheck rfl) rfl ?_
 refine Tk 9 rfl rfl (pv_fieldAddr rfl rfl) rfl ?_
 refine AnyH.one 10 (by kernel_rfl) ?_
 refine Turn.ef rfl rfl (ef_buildSliceN [.pointer none, .pointer none, .pointer none] [(0, 1), (1, 1), (2, 1)] rfl (by kernel_rfl) (by first | decide | rfl) rfl rfl rfl) ?_ ?_
 ·
  rintro _ _ ⟨b1, rfl, rfl⟩; infer_instance
 rintro _ _ ⟨b1, rfl, rfl⟩
 refine AnyH.one 11 (by kernel_rfl) ?_
 refine Turn.efx rfl rfl (efx_call (tr_twoR k adr bv left (by (try simp only [List.length_drop]); omega) h1b h1a b1 120 [.pointer (some ⟨eb, off + 0, none⟩), .pointer (some ⟨eb, off + 1, none⟩), .pointer (some ⟨eb, off + 2, none⟩)] eb (off + 0) cc Te ([0, 0, 0] : List Int) rfl (hx.ints [] rfl) (by intro y hy; simp only [List.mem_cons, List.not_mem_nil, or_false] at hy; unfold RgI; omega) (by simp) (by omega)) rfl rfl) ?_ ?_ ?_
 ·
  rintro _ _ ⟨_, ⟨rfl, hno, rfl⟩, rfl⟩
  exact ⟨[], ⟨rfl, (rdE_short (by simp only [widE, fsO, Fld.wid, List.map_cons, List.map_nil, List.sum_cons, List.sum_nil]; (try simp only [List.length_drop, List.length_cons, List.length_nil] at hno); omega)), rfl⟩, inferInstance⟩
 ·
  rintro _ _ ⟨_, _, ⟨rfl, hl1, rfl⟩, rfl, rfl⟩; infer_instance
 rintro _ _ ⟨_, _, ⟨rfl, hl1, rfl⟩, rfl, rfl⟩
 refine AnyH.app ?_
 (try simp only [List.length_drop, List.length_cons, List.length_nil] at hl1)
 rw [show (left.drop (2 * ([0, 0, 0] : List Int).length)) = (((left.drop 2).drop 2).drop 2) by simp [List.drop_drop]]
 refine AnyH.done (by kernel_rfl) ?_
 refine Ends.seq ?_
 refine Wr ?_
 refine Om1 rfl rfl ?_
 refine Ops.pv (pv_nilCheck rfl) rfl ?_
 refine Ops.pv (pv_fieldAddr rfl rfl) rfl ?_
 refine Ops.pv (pv_load rfl rfl (nth_setAt_in (j := 2) (by omega) rfl)) rfl ?_
 refine Ops.pv (pv_geq rfl rfl) rfl ?_
 refine On ?_
 refine Wp.cond_dect rfl (fun h1 => ?_) (fun h1 => ?_)
 ·
  refine Wp.region ?_
  refine Ops.pv (pv_build rfl) rfl ?_
  refine Ops.pv (pv_iface rfl rfl) rfl ?_
  exact Ops.panic rfl ⟨[], ⟨rfl, (rdE_none (rdF_of (s := left) (by simp only [List.length_drop, Fld.wid]; omega) rfl) (rdE_none (rdF_of (s := (left.drop 2)) (by simp only [List.length_drop, Fld.wid]; omega) rfl) (rdE_none' (rdF_bad (s := ((left.drop 2).drop 2)) (by simp only [List.length_drop, Fld.wid]; omega) (if_neg (by simp only [Fld.wid]; omega)))))), rfl⟩, inferInstance⟩
 refine Wp.skip ?_
 have hc : (setAt cc (off + 0) (intC (rdTw ([0, 0, 0] : List Int).length left))) = setAt cc off (cellsE fsO [((leV (left.take 2) : Nat) : Int), ((leV ((left.drop 2).take 2) : Nat) : Int), ((leV (((left.drop 2).drop 2).take 2) : Nat) : Int)]) := rfl
 have hr : rdE fsO left = some ([((leV (left.take 2) : Nat) : Int), ((leV ((left.drop 2).take 2) : Nat) : Int), ((leV (((left.drop 2).drop 2).take 2) : Nat) : Int)], (((left.drop 2).drop 2).drop 2)) := (rdE_some (rdF_of (s := left) (by simp only [List.length_drop, Fld.wid]; omega) rfl) (rdE_some (rdF_of (s := (left.drop 2)) (by simp only [List.length_drop, Fld.wid]; omega) rfl) (rdE_some (rdF_of (s := ((left.drop 2).drop 2)) (by simp only [List.length_drop, Fld.wid]; omega) (if_pos (by simp only [Fld.wid]; omega))) rfl)))
 rw [hc]
 exact Ends.finE (L' := (cp, .cells [kP k].toArray 78) :: ((k, .cells [.bool true, adr, bv, sV (((left.drop 2).drop 2).drop 2)].toArray 84) :: [(eb, .cells (setAt cc off (cellsE fsO [((leV (left.take 2) : Nat) : Int), ((leV ((left.drop 2).take 2) : Nat) : Int), ((leV (((left.drop 2).drop 2).take 2) : Nat) : Int)])).toArray Te)])) (res0 rfl) ⟨rfl, _, _, hr, rfl⟩
set_option maxHeartbeats 8000000 in
theorem tr_allR2 (cp : Nat) (k : Nat) (adr bv : Value) (left : List UInt8) (hl : left.length ≤ 2 ^ 40) (h1b : bv.oneCell' = true) (h1a : adr.oneCell' = true) (eb off : Nat) (cc : List Value) (Te : TypeId) (hx : Lies cc off (cellsE fsP [0, 0, 0, 0, 0, 0, 0, 0])) : TrE Try.prog 38 [.pointer (some ⟨eb, off, none⟩), .pointer (some ⟨cp, 0, none⟩)] ((cp, .cells [kP k].toArray 78) :: ((k, .cells [.bool true, adr, bv, sV left].toArray 84) :: [(eb, .cells cc.toArray Te)])) (fun u L' => u = .tuple #[] ∧ ∃ e' left', rdE fsP left = some (e', left') ∧ L' = (cp, .cells [kP k].toArray 78) :: ((k, .cells [.bool true, adr, bv, sV left'].toArray 84) :: [(eb, .cells (setAt cc off (cellsE fsP e')).toArray Te)])) (fun c L' => c = badC ∧ rdE fsP left = none ∧ L' = []) := by
 have hcl := hx.len (by simp [cellsE, fsP])
 simp only [cellsE, fsP, List.zipWith_cons_cons, List.zipWith_nil_left, List.length_cons, List.length_nil] at hcl
 refine TrE.enter Try.func38 rfl Try.ntmps38 rfl (fun W F => ?_)
 refine Wp.app ?_
 refine Wp.seq ?_
 refine AnyH.start ([(cp, .cells [kP k].toArray 78)] : Hp) 23 rfl ?_
 refine Tk 0 rfl rfl (pv_load rfl rfl rfl) rfl ?_
 refine Tk 1 rfl rfl (pv_move rfl) rfl ?_
 refine Tk 2 rfl rfl (pv_nilCheck rfl) rfl ?_
 refine Tk 3 rfl rfl (pv_fieldAddr rfl rfl) rfl ?_
 refine Tk 4 rfl rfl (pv_fieldAddr rfl rfl) rfl ?_
 refine Tk 5 rfl rfl (pv_move rfl) rfl ?_
 refine Tk 6 rfl rfl (pv_nilCheck rfl) rfl ?_
 refine Tk 7 rfl rfl (pv_fieldAddr rfl rfl) rfl ?_
 refine Tk 8 rfl rfl (pv_fieldAddr rfl rfl) rfl ?_
 refine Tk 9 rfl rfl (pv_move rfl) rfl ?_
 refine Tk 10 rfl rfl (pv_nilCheck rfl) rfl ?_
 refine Tk 11 rfl rfl (pv_fieldAddr rfl rfl) rfl ?_
 refine Tk 12 rfl rfl (pv_fieldAddr rfl rfl) rfl ?_
 refine Tk 13 rfl rfl (pv_move rfl) rfl ?_
 refine Tk 14 rfl rfl (pv_nilCheck rfl) rfl ?_
 refine Tk 15 rfl rfl (pv_fieldAddr rfl rfl) rfl ?_
 refine Tk 16 rfl rfl (pv_fieldAddr rfl rfl) rfl ?_
 refine Tk 17 rfl rfl (pv_move rfl) rfl ?_
 refine Tk 18 rfl rfl (pv_nilCheck rfl) rfl ?_
 refine Tk 19 rfl rfl (pv_fieldAddr rfl rfl) rfl ?_
 refine Tk 20 rfl rfl (pv_fieldAddr rfl rfl) rfl ?_
 refine AnyH.one 21 (by kernel_rfl) ?_
 refine Turn.ef rfl rfl (ef_buildSliceN [.pointer none, .pointer none, .pointer none, .pointer none, .pointer none] [(0, 1), (1, 1), (2, 1), (3, 1), (4, 1)] rfl (by kernel_rfl) (by first | decide | rfl) rfl rfl rfl) ?_ ?_
 ·
  rintro _ _ ⟨b1, rfl, rfl⟩; infer_instance
 rintro _ _ ⟨b1, rfl, rfl⟩
 refine AnyH.one 22 (by kernel_rfl) ?_
 refine Turn.efx rfl rfl (efx_call (tr_twoR k adr bv left (by (try simp only [List.length_drop]); omega) h1b h1a b1 120 [.pointer (some ⟨eb, off + 0 + 0, none⟩), .pointer (some ⟨eb, off + 0 + 1, none⟩), .pointer (some ⟨eb, off + 2 + 0, none⟩), .pointer (some ⟨eb, off + 2 + 1, none⟩), .pointer (some ⟨eb, off + 2 + 2, none⟩)] eb (off + 0) cc Te ([0, 0, 0, 0, 0] : List Int) rfl (hx.ints [] rfl) (by intro y hy; simp only [List.mem_cons, List.not_mem_nil, or_false] at hy; unfold RgI; omega) (by simp) (by omega)) rfl rfl) ?_ ?_ ?_
 ·
  rintro _ _ ⟨_, ⟨rfl, hno, rfl⟩, rfl⟩
  exact ⟨[], ⟨rfl, (rdE_short (by simp only [widE, fsP, Fld.wid, List.map_cons, List.map_nil, List.sum_cons, List.sum_nil]; (try simp only [List.length_drop, List.length_cons, List.length_nil] at hno); omega)), rfl⟩, inferInstance⟩
 ·
  rintro _ _ ⟨_, _, ⟨rfl, hl1, rfl⟩, rfl, rfl⟩; infer_instance
 rintro _ _ ⟨_, _, ⟨rfl, hl1, rfl⟩, rfl, rfl⟩
 refine AnyH.app ?_
 (try simp only [List.length_drop, List.length_cons, List.length_nil] at hl1)
 rw [show (left.drop (2 * ([0, 0, 0, 0, 0] : List Int).length)) = (((((left.drop 2).drop 2).drop 2).drop 2).drop 2) by simp [List.drop_drop]]
 refine AnyH.done (by kernel_rfl) ?_
 refine Ends.seq ?_
 refine Wp.seq ?_
 refine AnyH.start ([(cp, .cells [kP k].toArray 78)] : Hp) 6 rfl ?_
 refine Tk 0 rfl rfl (pv_load rfl rfl rfl) rfl ?_
 refine Tk 1 rfl rfl (pv_move rfl) rfl ?_
 refine Tk 2 rfl rfl (pv_nilCheck rfl) rfl ?_
 refine Tk 3 rfl rfl (pv_fieldAddr rfl rfl) rfl ?_
 refine Tk 4 rfl rfl (pv_fieldAddr rfl rfl) rfl ?_
 refine AnyH.one 5 (by kernel_rfl) ?_
 refine Turn.efx rfl rfl (efx_call (tr_wordR k adr bv (((((left.drop 2).drop 2).drop 2).drop 2).drop 2) (by (try simp only [List.length_drop]); omega) h1b h1a eb (off + 2 + 3) (setAt cc (off + 0) (intC (rdTw ([0, 0, 0, 0, 0] : List Int).length left))) Te 0 (by rw [nth_setAt (Nat.le_trans (m := cc.length) (by simp only [intC_len, rdTw_len, List.length_cons, List.length_nil]; omega) (Nat.le_of_eq (Eq.symm rfl))) (by simp only [intC_len, rdTw_len, List.length_cons, List.length_nil]; omega)]; exact hx.at_ 5 rfl) 4 (by decide) (by decide)) rfl rfl) ?_ ?_ ?_
 ·
  rintro _ _ ⟨_, ⟨rfl, hno, rfl⟩, rfl⟩
  exact ⟨[], ⟨rfl, (rdE_short (by simp only [widE, fsP, Fld.wid, List.map_cons, List.map_nil, List.sum_cons, List.sum_nil]; (try simp only [List.length_drop, List.length_cons, List.length_nil] at hno); omega)), rfl⟩, inferInstance⟩
 ·
  rintro _ _ ⟨_, _, ⟨rfl, hl2, rfl⟩, rfl, rfl⟩; infer_instance
 rintro _ _ ⟨_, _, ⟨rfl, hl2, rfl⟩, rfl, rfl⟩
 refine AnyH.app ?_
 (try simp only [List.length_drop] at hl2)
 refine AnyH.done (by kernel_rfl) ?_
 refine Ends.seq ?_
 refine Wp.seq ?_
 refine AnyH.start ([(cp, .cells [kP k].toArray 78)] : Hp) 6 rfl ?_
 refine Tk 0 rfl rfl (pv_load rfl rfl rfl) rfl ?_
 refine Tk 1 rfl rfl (pv_move rfl) rfl ?_
 refine Tk 2 rfl rfl (pv_nilCheck rfl) rfl ?_
 refine Tk 3 rfl rfl (pv_fieldAddr rfl rfl) rfl ?_
 refine Tk 4 rfl rfl (pv_fieldAddr rfl rfl) rfl ?_
 refine AnyH.one 5 (by kernel_rfl) ?_
 refine Turn.efx rfl rfl (efx_call (tr_wordR k adr bv ((((((left.drop 2).drop 2).drop 2).drop 2).drop 2).drop 4) (by (try simp only [List.length_drop]); omega) h1b h1a eb (off + 2 + 4) ((setAt cc (off + 0) (intC (rdTw ([0, 0, 0, 0, 0] : List Int).length left))).set (off + 2 + 3) (.int .u64 (leV ((((((left.drop 2).drop 2).drop 2).drop 2).drop 2).take 4) : Nat))) Te 0 (by rw [nth_set_ne (by omega), nth_setAt (Nat.le_trans (m := cc.length) (by simp only [intC_len, rdTw_len, List.length_cons, List.length_nil]; omega) (Nat.le_of_eq (Eq.symm rfl))) (by simp only [intC_len, rdTw_len, List.length_cons, List.length_nil]; omega)]; exact hx.at_ 6 rfl) 4 (by decide) (by decide)) rfl rfl) ?_ ?_ ?_
 ·
  rintro _ _ ⟨_, ⟨rfl, hno, rfl⟩, rfl⟩
  exact ⟨[], ⟨rfl, (rdE_short (by simp only [widE, fsP, Fld.wid, List.map_cons, List.map_nil, List.sum_cons, List.sum_nil]; (try simp only [List.length_drop, List.length_cons, List.length_nil] at hno); omega)), rfl⟩, inferInstance⟩
 ·
  rintro _ _ ⟨_, _, ⟨rfl, hl3, rfl⟩, rfl, rfl⟩; infer_instance
 rintro _ _ ⟨_, _, ⟨rfl, hl3, rfl⟩, rfl, rfl⟩
 refine AnyH.app ?_
 (try simp only [List.length_drop] at hl3)
 refine AnyH.done (by kernel_rfl) ?_
 refine Ends.seq ?_
 refine AnyH.start ([(cp, .cells [kP k].toArray 78)] : Hp) 7 rfl ?_
 refine Tk 0 rfl rfl (pv_load rfl rfl rfl) rfl ?_
 refine Tk 1 rfl rfl (pv_move rfl) rfl ?_
 refine Tk 2 rfl rfl (pv_nilCheck rfl) rfl ?_
 refine Tk 3 rfl rfl (pv_fieldAddr rfl rfl) rfl ?_
 refine Tk 4 rfl rfl (pv_fieldAddr rfl rfl) rfl ?_
 refine AnyH.one 5 (by kernel_rfl) ?_
 refine Turn.ef rfl rfl (ef_buildSlice1 (k := 1) rfl rfl rfl rfl rfl) ?_ ?_
 ·
  rintro _ _ ⟨b2, rfl, rfl⟩; infer_instance
 rintro _ _ ⟨b2, rfl, rfl⟩
 refine AnyH.one 6 (by kernel_rfl) ?_
 refine Turn.efx rfl rfl (efx_call (tr_twoR k adr bv (((((((left.drop 2).drop 2).drop 2).drop 2).drop 2).drop 4).drop 4) (by (try simp only [List.length_drop]); omega) h1b h1a b2 120 [.pointer (some ⟨eb, off + 2 + 5, none⟩)] eb (off + 7) (((setAt cc (off + 0) (intC (rdTw ([0, 0, 0, 0, 0] : List Int).length left))).set (off + 2 + 3) (.int .u64 (leV ((((((left.drop 2).drop 2).drop 2).drop 2).drop 2).take 4) : Nat))).set (off + 2 + 4) (.int .u64 (leV (((((((left.drop 2).drop 2).drop 2).drop 2).drop 2).drop 4).take 4) : Nat))) Te ([0] : List Int) rfl (one_hcc (by rw [nth_set_ne (by omega), nth_set_ne (by omega), nth_setAt (Nat.le_trans (m := cc.length) (by simp only [intC_len, rdTw_len, List.length_cons, List.length_nil]; omega) (Nat.le_of_eq (Eq.symm rfl))) (by simp only [intC_len, rdTw_len, List.length_cons, List.length_nil]; omega)]; exact hx.at_ 7 rfl)) (by intro y hy; simp only [List.mem_cons, List.not_mem_nil, or_false] at hy; unfold RgI; omega) (by simp) (Nat.le_trans (m := cc.length) (by omega) (Nat.le_of_eq (Eq.symm (len_set' (len_set' (len_setAt' (k := 5) rfl (by simp only [List.length_append, intC_len, rdTw_len, List.length_cons, List.length_nil]) (by omega)))))))) rfl rfl) ?_ ?_ ?_
 ·
  rintro _ _ ⟨_, ⟨rfl, hno, rfl⟩, rfl⟩
  exact ⟨[], ⟨rfl, (rdE_short (by simp only [widE, fsP, Fld.wid, List.map_cons, List.map_nil, List.sum_cons, List.sum_nil]; (try simp only [List.length_drop, List.length_cons, List.length_nil] at hno); omega)), rfl⟩, inferInstance⟩
 ·
  rintro _ _ ⟨_, _, ⟨rfl, hl4, rfl⟩, rfl, rfl⟩; infer_instance
 rintro _ _ ⟨_, _, ⟨rfl, hl4, rfl⟩, rfl, rfl⟩
 refine AnyH.app ?_
 (try simp only [List.length_drop, List.length_cons, List.length_nil] at hl4)
 rw [show ((((((((left.drop 2).drop 2).drop 2).drop 2).drop 2).drop 4).drop 4).drop (2 * ([0] : List Int).length)) = ((((((((left.drop 2).drop 2).drop 2).drop 2).drop 2).drop 4).drop 4).drop 2) by simp [List.drop_drop]]
 refine AnyH.done (by kernel_rfl) ?_
 have hc : (setAt (((setAt cc (off + 0) (intC (rdTw ([0, 0, 0, 0, 0] : List Int).length left))).set (off + 2 + 3) (.int .u64 (leV ((((((left.drop 2).drop 2).drop 2).drop 2).drop 2).take 4) : Nat))).set (off + 2 + 4) (.int .u64 (leV (((((((left.drop 2).drop 2).drop 2).drop 2).drop 2).drop 4).take 4) : Nat))) (off + 7) (intC (rdTw ([0] : List Int).length (((((((left.drop 2).drop 2).drop 2).drop 2).drop 2).drop 4).drop 4)))) = setAt cc off (cellsE fsP [((leV (left.take 2) : Nat) : Int), ((leV ((left.drop 2).take 2) : Nat) : Int), ((leV (((left.drop 2).drop 2).take 2) : Nat) : Int), ((leV ((((left.drop 2).drop 2).drop 2).take 2) : Nat) : Int), ((leV (((((left.drop 2).drop 2).drop 2).drop 2).take 2) : Nat) : Int), ((leV ((((((left.drop 2).drop 2).drop 2).drop 2).drop 2).take 4) : Nat) : Int), ((leV (((((((left.drop 2).drop 2).drop 2).drop 2).drop 2).drop 4).take 4) : Nat) : Int), ((leV ((((((((left.drop 2).drop 2).drop 2).drop 2).drop 2).drop 4).drop 4).take 2) : Nat) : Int)]) := (setAt_at' (k := 7) (set_at' (k := 6) (set_at' (k := 5) rfl (by simp only [List.length_append, intC_len, rdTw_len, List.length_cons, List.length_nil]) rfl (by omega)) (by simp only [List.length_append, intC_len, rdTw_len, List.length_cons, List.length_nil]) rfl (by omega)) (by simp only [List.length_append, intC_len, rdTw_len, List.length_cons, List.length_nil]) rfl (by simp only [intC_len, rdTw_len, List.length_cons, List.length_nil]; omega))
 have hr : rdE fsP left = some ([((leV (left.take 2) : Nat) : Int), ((leV ((left.drop 2).take 2) : Nat) : Int), ((leV (((left.drop 2).drop 2).take 2) : Nat) : Int), ((leV ((((left.drop 2).drop 2).drop 2).take 2) : Nat) : Int), ((leV (((((left.drop 2).drop 2).drop 2).drop 2).take 2) : Nat) : Int), ((leV ((((((left.drop 2).drop 2).drop 2).drop 2).drop 2).take 4) : Nat) : Int), ((leV (((((((left.drop 2).drop 2).drop 2).drop 2).drop 2).drop 4).take 4) : Nat) : Int), ((leV ((((((((left.drop 2).drop 2).drop 2).drop 2).drop 2).drop 4).drop 4).take 2) : Nat) : Int)], ((((((((left.drop 2).drop 2).drop 2).drop 2).drop 2).drop 4).drop 4).drop 2)) := (rdE_some (rdF_of (s := left) (by simp only [List.length_drop, Fld.wid]; omega) rfl) (rdE_some (rdF_of (s := (left.drop 2)) (by simp only [List.length_drop, Fld.wid]; omega) rfl) (rdE_some (rdF_of (s := ((left.drop 2).drop 2)) (by simp only [List.length_drop, Fld.wid]; omega) rfl) (rdE_some (rdF_of (s := (((left.drop 2).drop 2).drop 2)) (by simp only [List.length_drop, Fld.wid]; omega) rfl) (rdE_some (rdF_of (s := ((((left.drop 2).drop 2).drop 2).drop 2)) (by simp only [List.length_drop, Fld.wid]; omega) rfl) (rdE_some (rdF_of (s := (((((left.drop 2).drop 2).drop 2).drop 2).drop 2)) (by simp only [List.length_drop, Fld.wid]; omega) rfl) (rdE_some (rdF_of (s := ((((((left.drop 2).drop 2).drop 2).drop 2).drop 2).drop 4)) (by simp only [List.length_drop, Fld.wid]; omega) rfl) (rdE_some (rdF_of (s := (((((((left.drop 2).drop 2).drop 2).drop 2).drop 2).drop 4).drop 4)) (by simp only [List.length_drop, Fld.wid]; omega) rfl) rfl))))))))
 rw [hc]
 exact Ends.finE (L' := (cp, .cells [kP k].toArray 78) :: ((k, .cells [.bool true, adr, bv, sV ((((((((left.drop 2).drop 2).drop 2).drop 2).drop 2).drop 4).drop 4).drop 2)].toArray 84) :: [(eb, .cells (setAt cc off (cellsE fsP [((leV (left.take 2) : Nat) : Int), ((leV ((left.drop 2).take 2) : Nat) : Int), ((leV (((left.drop 2).drop 2).take 2) : Nat) : Int), ((leV ((((left.drop 2).drop 2).drop 2).take 2) : Nat) : Int), ((leV (((((left.drop 2).drop 2).drop 2).drop 2).take 2) : Nat) : Int), ((leV ((((((left.drop 2).drop 2).drop 2).drop 2).drop 2).take 4) : Nat) : Int), ((leV (((((((left.drop 2).drop 2).drop 2).drop 2).drop 2).drop 4).take 4) : Nat) : Int), ((leV ((((((((left.drop 2).drop 2).drop 2).drop 2).drop 2).drop 4).drop 4).take 2) : Nat) : Int)])).toArray Te)])) (res0 rfl) ⟨rfl, _, _, hr, rfl⟩
set_option maxHeartbeats 8000000 in
theorem tr_allR3 (cp : Nat) (k : Nat) (adr bv : Value) (left : List UInt8) (hl : left.length ≤ 2 ^ 40) (h1b : bv.oneCell' = true) (h1a : adr.oneCell' = true) (eb off : Nat) (cc : List Value) (Te : TypeId) (hx : Lies cc off (cellsE fsM [0, 0, 0, 0])) : TrE Try.prog 41 [.pointer (some ⟨eb, off, none⟩), .pointer (some ⟨cp, 0, none⟩)] ((cp, .cells [kP k].toArray 78) :: ((k, .cells [.bool true, adr, bv, sV left].toArray 84) :: [(eb, .cells cc.toArray Te)])) (fun u L' => u = .tuple #[] ∧ ∃ e' left', rdE fsM left = some (e', left') ∧ L' = (cp, .cells [kP k].toArray 78) :: ((k, .cells [.bool true, adr, bv, sV left'].toArray 84) :: [(eb, .cells (setAt cc off (cellsE fsM e')).toArray Te)])) (fun c L' => c = badC ∧ rdE fsM left = none ∧ L' = []) := by
 have hcl := hx.len (by simp [cellsE, fsM])
 simp only [cellsE, fsM, List.zipWith_cons_cons, List.zipWith_nil_left, List.length_cons, List.length_nil] at hcl
 refine TrE.enter Try.func41 rfl Try.ntmps41 rfl (fun W F => ?_)
 refine Wp.app ?_
 refine Wp.seq ?_
 refine AnyH.start ([(cp, .cells [kP k].toArray 78)] : Hp) 12 rfl ?_
 refine Tk 0 rfl rfl (pv_load rfl rfl rfl) rfl ?_
 refine Tk 1 rfl rfl (pv_move rfl) rfl ?_
 refine Tk 2 rfl rfl (pv_nilCheck rfl) rfl ?_
 refine Tk 3 rfl rfl (pv_fieldAddr rfl rfl) rfl ?_
 refine Tk 4 rfl rfl (pv_move rfl) rfl ?_
 refine Tk 5 rfl rfl (pv_nilCheck rfl) rfl ?_
 refine Tk 6 rfl rfl (pv_fieldAddr rfl rfl) rfl ?_
 refine Tk 7 rfl rfl (pv_move rfl) rfl ?_
 refine Tk 8 rfl rfl (pv_nilCheck rfl) rfl ?_
 refine Tk 9 rfl rfl (pv_fieldAddr rfl rfl) rfl ?_
 refine AnyH.one 10 (by kernel_rfl) ?_
 refine Turn.ef rfl rfl (ef_buildSliceN [.pointer none, .pointer none, .pointer none] [(0, 1), (1, 1), (2, 1)] rfl (by kernel_rfl) (by first | decide | rfl) rfl rfl rfl) ?_ ?_
 ·
  rintro _ _ ⟨b1, rfl, rfl⟩; infer_instance
 rintro _ _ ⟨b1, rfl, rfl⟩
 refine AnyH.one 11 (by kernel_rfl) ?_
 refine Turn.efx rfl rfl (efx_call (tr_twoR k adr bv left (by (try simp only [List.length_drop]); omega) h1b h1a b1 120 [.pointer (some ⟨eb, off + 0, none⟩), .pointer (some ⟨eb, off + 1, none⟩), .pointer (some ⟨eb, off + 2, none⟩)] eb (off + 0) cc Te ([0, 0, 0] : List Int) rfl (hx.ints [] rfl) (by intro y hy; simp only [List.mem_cons, List.not_mem_nil, or_false] at hy; unfold RgI; omega) (by simp) (by omega)) rfl rfl) ?_ ?_ ?_
 ·
  rintro _ _ ⟨_, ⟨rfl, hno, rfl⟩, rfl⟩
  exact ⟨[], ⟨rfl, (rdE_short (by simp only [widE, fsM, Fld.wid, List.map_cons, List.map_nil, List.sum_cons, List.sum_nil]; (try simp only [List.length_drop, List.length_cons, List.length_nil] at hno); omega)), rfl⟩, inferInstance⟩
 ·
  rintro _ _ ⟨_, _, ⟨rfl, hl1, rfl⟩, rfl, rfl⟩; infer_instance
 rintro _ _ ⟨_, _, ⟨rfl, hl1, rfl⟩, rfl, rfl⟩
 refine AnyH.app ?_
 (try simp only [List.length_drop, List.length_cons, List.length_nil] at hl1)
 rw [show (left.drop (2 * ([0, 0, 0] : List Int).length)) = (((left.drop 2).drop 2).drop 2) by simp [List.drop_drop]]
 refine AnyH.done (by kernel_rfl) ?_
 refine Ends.seq ?_
 refine AnyH.start ([(cp, .cells [kP k].toArray 78)] : Hp) 5 rfl ?_
 refine Tk 0 rfl rfl (pv_load rfl rfl rfl) rfl ?_
 refine Tk 1 rfl rfl (pv_move rfl) rfl ?_
 refine Tk 2 rfl rfl (pv_nilCheck rfl) rfl ?_
 refine Tk 3 rfl rfl (pv_fieldAddr rfl rfl) rfl ?_
 refine AnyH.one 4 (by kernel_rfl) ?_
 refine Turn.efx rfl rfl (efx_call (tr_flagR k adr bv (((left.drop 2).drop 2).drop 2) (by (try simp only [List.length_drop]); omega) h1b h1a eb (off + 3) (setAt cc (off + 0) (intC (rdTw ([0, 0, 0] : List Int).length left))) Te (decide ((0 : Int) = 1)) (by rw [nth_setAt (Nat.le_trans (m := cc.length) (by simp only [intC_len, rdTw_len, List.length_cons, List.length_nil]; omega) (Nat.le_of_eq (Eq.symm rfl))) (by simp only [intC_len, rdTw_len, List.length_cons, List.length_nil]; omega)]; exact hx.at_ 3 rfl)) rfl rfl) ?_ ?_ ?_
 ·
  rintro _ _ ⟨_, ⟨rfl, hno, rfl⟩, rfl⟩
  exact ⟨[], ⟨rfl, (rdE_none (rdF_of (s := left) (by simp only [List.length_drop, Fld.wid]; omega) rfl) (rdE_none (rdF_of (s := (left.drop 2)) (by simp only [List.length_drop, Fld.wid]; omega) rfl) (rdE_none (rdF_of (s := ((left.drop 2).drop 2)) (by simp only [List.length_drop, Fld.wid]; omega) rfl) (rdE_none' hno)))), rfl⟩, inferInstance⟩
 ·
  rintro _ _ ⟨_, _, ⟨rfl, xf, hxf, rfl⟩, rfl, rfl⟩; infer_instance
 rintro _ _ ⟨_, _, ⟨rfl, xf, hxf, rfl⟩, rfl, rfl⟩
 refine AnyH.app ?_
 have hlf := (rdF_len hxf).1
 simp only [List.length_drop, Fld.wid] at hlf
 refine AnyH.done (by kernel_rfl) ?_
 have hc : ((setAt cc (off + 0) (intC (rdTw ([0, 0, 0] : List Int).length left))).set (off + 3) (Fld.flg.cell xf)) = setAt cc off (cellsE fsM [((leV (left.take 2) : Nat) : Int), ((leV ((left.drop 2).take 2) : Nat) : Int), ((leV (((left.drop 2).drop 2).take 2) : Nat) : Int), xf]) := (set_at' (k := 3) rfl (by simp only [List.length_append, intC_len, rdTw_len, List.length_cons, List.length_nil]) rfl (by omega))
 have hr : rdE fsM left = some ([((leV (left.take 2) : Nat) : Int), ((leV ((left.drop 2).take 2) : Nat) : Int), ((leV (((left.drop 2).drop 2).take 2) : Nat) : Int), xf], ((((left.drop 2).drop 2).drop 2).drop 1)) := (rdE_some (rdF_of (s := left) (by simp only [List.length_drop, Fld.wid]; omega) rfl) (rdE_some (rdF_of (s := (left.drop 2)) (by simp only [List.length_drop, Fld.wid]; omega) rfl) (rdE_some (rdF_of (s := ((left.drop 2).drop 2)) (by simp only [List.length_drop, Fld.wid]; omega) rfl) (rdE_some hxf rfl))))
 rw [hc]
 exact Ends.finE (L' := (cp, .cells [kP k].toArray 78) :: ((k, .cells [.bool true, adr, bv, sV ((((left.drop 2).drop 2).drop 2).drop 1)].toArray 84) :: [(eb, .cells (setAt cc off (cellsE fsM [((leV (left.take 2) : Nat) : Int), ((leV ((left.drop 2).take 2) : Nat) : Int), ((leV (((left.drop 2).drop 2).take 2) : Nat) : Int), xf])).toArray Te)])) (res0 rfl) ⟨rfl, _, _, hr, rfl⟩
set_option maxHeartbeats 8000000 in
theorem tr_allR4 (cp : Nat) (k : Nat) (adr bv : Value) (left : List UInt8) (hl : left.length ≤ 2 ^ 40) (h1b : bv.oneCell' = true) (h1a : adr.oneCell' = true) (eb off : Nat) (cc : List Value) (Te : TypeId) (hx : Lies cc off (cellsE fsF [0, 0, 0])) : TrE Try.prog 44 [.pointer (some ⟨eb, off, none⟩), .pointer (some ⟨cp, 0, none⟩)] ((cp, .cells [kP k].toArray 78) :: ((k, .cells [.bool true, adr, bv, sV left].toArray 84) :: [(eb, .cells cc.toArray Te)])) (fun u L' => u = .tuple #[] ∧ ∃ e' left', rdE fsF left = some (e', left') ∧ L' = (cp, .cells [kP k].toArray 78) :: ((k, .cells [.bool true, adr, bv, sV left'].toArray 84) :: [(eb, .cells (setAt cc off (cellsE fsF e')).toArray Te)])) (fun c L' => c = badC ∧ rdE fsF left = none ∧ L' = []) := by
 have hcl := hx.len (by simp [cellsE, fsF])
 simp only [cellsE, fsF, List.zipWith_cons_cons, List.zipWith_nil_left, List.length_cons, List.length_nil] at hcl
 refine TrE.enter Try.func44 rfl Try.ntmps44 rfl (fun W F => ?_)
 refine Wp.app ?_
 refine Wp.seq ?_
 refine AnyH.start ([(cp, .cells [kP k].toArray 78)] : Hp) 9 rfl ?_
 refine Tk 0 rfl rfl (pv_load rfl rfl rfl) rfl ?_
 refine Tk 1 rfl rfl (pv_move rfl) rfl ?_
 refine Tk 2 rfl rfl (pv_nilCheck rfl) rfl ?_
 refine Tk 3 rfl rfl (pv_fieldAddr rfl rfl) rfl ?_
 refine Tk 4 rfl rfl (pv_move rfl) rfl ?_
 refine Tk 5 rfl rfl (pv_nilCheck rfl) rfl ?_
 refine Tk 6 rfl rfl (pv_fieldAddr rfl rfl) rfl ?_
 refine AnyH.one 7 (by kernel_rfl) ?_
 refine Turn.ef rfl rfl (ef_buildSlice2 rfl rfl rfl rfl rfl rfl) ?_ ?_
 ·
  rintro _ _ ⟨b1, rfl, rfl⟩; infer_instance
 rintro _ _ ⟨b1, rfl, rfl⟩
 refine AnyH.one 8 (by kernel_rfl) ?_
 refine Turn.efx rfl rfl (efx_call (tr_twoR k adr bv left (by (try simp only [List.length_drop]); omega) h1b h1a b1 120 [.pointer (some ⟨eb, off + 0, none⟩), .pointer (some ⟨eb, off + 1, none⟩)] eb (off + 0) cc Te ([0, 0] : List Int) rfl (hx.ints [] rfl) (by intro y hy; simp only [List.mem_cons, List.not_mem_nil, or_false] at hy; unfold RgI; omega) (by simp) (by omega)) rfl rfl) ?_ ?_ ?_
 ·
  rintro _ _ ⟨_, ⟨rfl, hno, rfl⟩, rfl⟩
  exact ⟨[], ⟨rfl, (rdE_short (by simp only [widE, fsF, Fld.wid, List.map_cons, List.map_nil, List.sum_cons, List.sum_nil]; (try simp only [List.length_drop, List.length_cons, List.length_nil] at hno); omega)), rfl⟩, inferInstance⟩
 ·
  rintro _ _ ⟨_, _, ⟨rfl, hl1, rfl⟩, rfl, rfl⟩; infer_instance
 rintro _ _ ⟨_, _, ⟨rfl, hl1, rfl⟩, rfl, rfl⟩
 refine AnyH.app ?_
 (try simp only [List.length_drop, List.length_cons, List.length_nil] at hl1)
 rw [show (left.drop (2 * ([0, 0] : List Int).length)) = ((left.drop 2).drop 2) by simp [List.drop_drop]]
 refine AnyH.done (by kernel_rfl) ?_
 refine Ends.seq ?_
 refine AnyH.start ([(cp, .cells [kP k].toArray 78)] : Hp) 5 rfl ?_
 refine Tk 0 rfl rfl (pv_load rfl rfl rfl) rfl ?_
 refine Tk 1 rfl rfl (pv_move rfl) rfl ?_
 refine Tk 2 rfl rfl (pv_nilCheck rfl) rfl ?_
 refine Tk 3 rfl rfl (pv_fieldAddr rfl rfl) rfl ?_
 refine AnyH.one 4 (by kernel_rfl) ?_
 refine Turn.efx rfl rfl (efx_call (tr_wordR k adr bv ((left.drop 2).drop 2) (by (try simp only [List.length_drop]); omega) h1b h1a eb (off + 2) (setAt cc (off + 0) (intC (rdTw ([0, 0] : List Int).length left))) Te 0 (by rw [nth_setAt (Nat.le_trans (m := cc.length) (by simp only [intC_len, rdTw_len, List.length_cons, List.length_nil]; omega) (Nat.le_of_eq (Eq.symm rfl))) (by simp only [intC_len, rdTw_len, List.length_cons, List.length_nil]; omega)]; exact hx.at_ 2 rfl) 8 (by decide) (by decide)) rfl rfl) ?_ ?_ ?_
 ·
  rintro _ _ ⟨_, ⟨rfl, hno, rfl⟩, rfl⟩
  exact ⟨[], ⟨rfl, (rdE_short (by simp only [widE, fsF, Fld.wid, List.map_cons, List.map_nil, List.sum_cons, List.sum_nil]; (try simp only [List.length_drop, List.length_cons, List.length_nil] at hno); omega)), rfl⟩, inferInstance⟩
 ·
  rintro _ _ ⟨_, _, ⟨rfl, hl2, rfl⟩, rfl, rfl⟩; infer_instance
 rintro _ _ ⟨_, _, ⟨rfl, hl2, rfl⟩, rfl, rfl⟩
 refine AnyH.app ?_
 (try simp only [List.length_drop] at hl2)
 refine AnyH.done (by kernel_rfl) ?_
 have hc : ((setAt cc (off + 0) (intC (rdTw ([0, 0] : List Int).length left))).set (off + 2) (.int .u64 (leV (((left.drop 2).drop 2).take 8) : Nat))) = setAt cc off (cellsE fsF [((leV (left.take 2) : Nat) : Int), ((leV ((left.drop 2).take 2) : Nat) : Int), ((leV (((left.drop 2).drop 2).take 8) : Nat) : Int)]) := (set_at' (k := 2) rfl (by simp only [List.length_append, intC_len, rdTw_len, List.length_cons, List.length_nil]) rfl (by omega))
 have hr : rdE fsF left = some ([((leV (left.take 2) : Nat) : Int), ((leV ((left.drop 2).take 2) : Nat) : Int), ((leV (((left.drop 2).drop 2).take 8) : Nat) : Int)], (((left.drop 2).drop 2).drop 8)) := (rdE_some (rdF_of (s := left) (by simp only [List.length_drop, Fld.wid]; omega) rfl) (rdE_some (rdF_of (s := (left.drop 2)) (by simp only [List.length_drop, Fld.wid]; omega) rfl) (rdE_some (rdF_of (s := ((left.drop 2).drop 2)) (by simp only [List.length_drop, Fld.wid]; omega) rfl) rfl)))
 rw [hc]
 exact Ends.finE (L' := (cp, .cells [kP k].toArray 78) :: ((k, .cells [.bool true, adr, bv, sV (((left.drop 2).drop 2).drop 8)].toArray 84) :: [(eb, .cells (setAt cc off (cellsE fsF [((leV (left.take 2) : Nat) : Int), ((leV ((left.drop 2).take 2) : Nat) : Int), ((leV (((left.drop 2).drop 2).take 8) : Nat) : Int)])).toArray Te)])) (res0 rfl) ⟨rfl, _, _, hr, rfl⟩
set_option maxHeartbeats 8000000 in
theorem tr_allR5 (cp : Nat) (k : Nat) (adr bv : Value) (left : List UInt8) (hl : left.length ≤ 2 ^ 40) (h1b : bv.oneCell' = true) (h1a : adr.oneCell' = true) (eb off : Nat) (cc : List Value) (Te : TypeId) (hx : Lies cc off (cellsE fsT [0, 0, 0, 0, 0, 0, 0, 0])) : TrE Try.prog 46 [.pointer (some ⟨eb, off, none⟩), .pointer (some ⟨cp, 0, none⟩)] ((cp, .cells [kP k].toArray 78) :: ((k, .cells [.bool true, adr, bv, sV left].toArray 84) :: [(eb, .cells cc.toArray Te)])) (fun u L' => u = .tuple #[] ∧ ∃ e' left', rdE fsT left = some (e', left') ∧ L' = (cp, .cells [kP k].toArray 78) :: ((k, .cells [.bool true, adr, bv, sV left'].toArray 84) :: [(eb, .cells (setAt cc off (cellsE fsT e')).toArray Te)])) (fun c L' => c = badC ∧ rdE fsT left = none ∧ L' = []) := by
 have hcl := hx.len (by simp [cellsE, fsT])
 simp only [cellsE, fsT, List.zipWith_cons_cons, List.zipWith_nil_left, List.length_cons, List.length_nil] at hcl
 skip
 refine TrE.enter Try.func46 rfl Try.ntmps46 rfl (fun W F => ?_)
 refine Wp.app ?_
 refine Wp.seq ?_
 refine AnyH.start ([(cp, .cells [kP k].toArray 78)] : Hp) 18 rfl ?_
 refine Tk 0 rfl rfl (pv_load rfl rfl rfl) rfl ?_
 refine Tk 1 rfl rfl (pv_move rfl) rfl ?_
 refine Tk 2 rfl rfl (pv_nilCheck rfl) rfl ?_
 refine Tk 3 rfl rfl (pv_fieldAddr rfl rfl) rfl ?_
 refine Tk 4 rfl rfl (pv_move rfl) rfl ?_
 refine Tk 5 rfl rfl (pv_nilCheck rfl) rfl ?_
 refine Tk 6 rfl rfl (pv_fieldAddr rfl rfl) rfl ?_
 refine Tk 7 rfl rfl (pv_move rfl) rfl ?_
 refine Tk 8 rfl rfl (pv_nilCheck rfl) rfl ?_
 refine Tk 9 rfl rfl (pv_fieldAddr rfl rfl) rfl ?_
 refine Tk 10 rfl rfl (pv_move rfl) rfl ?_
 refine Tk 11 rfl rfl (pv_nilCheck rfl) rfl ?_
 refine Tk 12 rfl rfl (pv_fieldAddr rfl rfl) rfl ?_
 refine Tk 13 rfl rfl (pv_move rfl) rfl ?_
 refine Tk 14 rfl rfl (pv_nilCheck rfl) rfl ?_
 refine Tk 15 rfl rfl (pv_fieldAddr rfl rfl) rfl ?_
 refine AnyH.one 16 (by kernel_rfl) ?_
 refine Turn.ef rfl rfl (ef_buildSliceN [.pointer none, .pointer none, .pointer none, .pointer none, .pointer none] [(0, 1), (1, 1), (2, 1), (3, 1), (4, 1)] rfl (by kernel_rfl) (by first | decide | rfl) rfl rfl rfl) ?_ ?_
 ·
  rintro _ _ ⟨b1, rfl, rfl⟩; infer_instance
 rintro _ _ ⟨b1, rfl, rfl⟩
 refine AnyH.one 17 (by kernel_rfl) ?_
 refine Turn.efx rfl rfl (efx_call (tr_twoR k adr bv left (by (try simp only [List.length_drop]); omega) h1b h1a b1 120 [.pointer (some ⟨eb, off + 0, none⟩), .pointer (some ⟨eb, off + 1, none⟩), .pointer (some ⟨eb, off + 2, none⟩), .pointer (some ⟨eb, off + 3, none⟩), .pointer (some ⟨eb, off + 4, none⟩)] eb (off + 0) cc Te ([0, 0, 0, 0, 0] : List Int) rfl (hx.ints [] rfl) (by intro y hy; simp only [List.mem_cons, List.not_mem_nil, or_false] at hy; unfold RgI; omega) (by simp) (by omega)) rfl rfl) ?_ ?_ ?_
 ·
  rintro _ _ ⟨_, ⟨rfl, hno, rfl⟩, rfl⟩
  exact ⟨[], ⟨rfl, (rdE_short (by simp only [widE, fsT, Fld.wid, List.map_cons, List.map_nil, List.sum_cons, List.sum_nil]; (try simp only [List.length_drop, List.length_cons, List.length_nil] at hno); omega)), rfl⟩, inferInstance⟩
 ·
  rintro _ _ ⟨_, _, ⟨rfl, hl1, rfl⟩, rfl, rfl⟩; infer_instance
 rintro _ _ ⟨_, _, ⟨rfl, hl1, rfl⟩, rfl, rfl⟩
 refine AnyH.app ?_
 (try simp only [List.length_drop, List.length_cons, List.length_nil] at hl1)
 rw [show (left.drop (2 * ([0, 0, 0, 0, 0] : List Int).length)) = (((((left.drop 2).drop 2).drop 2).drop 2).drop 2) by simp [List.drop_drop]]
 refine AnyH.done (by kernel_rfl) ?_
 refine Ends.seq ?_
 refine Wp.seq ?_
 refine AnyH.start ([(cp, .cells [kP k].toArray 78)] : Hp) 5 rfl ?_
 refine Tk 0 rfl rfl (pv_load rfl rfl rfl) rfl ?_
 refine Tk 1 rfl rfl (pv_move rfl) rfl ?_
 refine Tk 2 rfl rfl (pv_nilCheck rfl) rfl ?_
 refine Tk 3 rfl rfl (pv_fieldAddr rfl rfl) rfl ?_
 refine AnyH.one 4 (by kernel_rfl) ?_
 refine Turn.efx rfl rfl (efx_call (tr_wordR k adr bv (((((left.drop 2).drop 2).drop 2).drop 2).drop 2) (by (try simp only [List.length_drop]); omega) h1b h1a eb (off + 5) (setAt cc (off + 0) (intC (rdTw ([0, 0, 0, 0, 0] : List Int).length left))) Te 0 (by rw [nth_setAt (Nat.le_trans (m := cc.length) (by simp only [intC_len, rdTw_len, List.length_cons, List.length_nil]; omega) (Nat.le_of_eq (Eq.symm rfl))) (by simp only [intC_len, rdTw_len, List.length_cons, List.length_nil]; omega)]; exact hx.at_ 5 rfl) 4 (by decide) (by decide)) rfl rfl) ?_ ?_ ?_
 ·
  rintro _ _ ⟨_, ⟨rfl, hno, rfl⟩, rfl⟩
  exact ⟨[], ⟨rfl, (rdE_short (by simp only [widE, fsT, Fld.wid, List.map_cons, List.map_nil, List.sum_cons, List.sum_nil]; (try simp only [List.length_drop, List.length_cons, List.length_nil] at hno); omega)), rfl⟩, inferInstance⟩
 ·
  rintro _ _ ⟨_, _, ⟨rfl, hl2, rfl⟩, rfl, rfl⟩; infer_instance
 rintro _ _ ⟨_, _, ⟨rfl, hl2, rfl⟩, rfl, rfl⟩
 refine AnyH.app ?_
 (try simp only [List.length_drop] at hl2)
 refine AnyH.done (by kernel_rfl) ?_
 refine Ends.seq ?_
 refine Wp.seq ?_
 refine AnyH.start ([(cp, .cells [kP k].toArray 78)] : Hp) 6 rfl ?_
 refine Tk 0 rfl rfl (pv_load rfl rfl rfl) rfl ?_
 refine Tk 1 rfl rfl (pv_move rfl) rfl ?_
 refine Tk 2 rfl rfl (pv_nilCheck rfl) rfl ?_
 refine Tk 3 rfl rfl (pv_fieldAddr rfl rfl) rfl ?_
 refine AnyH.one 4 (by kernel_rfl) ?_
 refine Turn.ef rfl rfl (ef_buildSlice1 (k := 1) rfl rfl rfl rfl rfl) ?_ ?_
 ·
  rintro _ _ ⟨b2, rfl, rfl⟩; infer_instance
 rintro _ _ ⟨b2, rfl, rfl⟩
 refine AnyH.one 5 (by kernel_rfl) ?_
 refine Turn.efx rfl rfl (efx_call (tr_twoR k adr bv ((((((left.drop 2).drop 2).drop 2).drop 2).drop 2).drop 4) (by (try simp only [List.length_drop]); omega) h1b h1a b2 120 [.pointer (some ⟨eb, off + 6, none⟩)] eb (off + 6) ((setAt cc (off + 0) (intC (rdTw ([0, 0, 0, 0, 0] : List Int).length left))).set (off + 5) (.int .u64 (leV ((((((left.drop 2).drop 2).drop 2).drop 2).drop 2).take 4) : Nat))) Te ([0] : List Int) rfl (one_hcc (by rw [nth_set_ne (by omega), nth_setAt (Nat.le_trans (m := cc.length) (by simp only [intC_len, rdTw_len, List.length_cons, List.length_nil]; omega) (Nat.le_of_eq (Eq.symm rfl))) (by simp only [intC_len, rdTw_len, List.length_cons, List.length_nil]; omega)]; exact hx.at_ 6 rfl)) (by intro y hy; simp only [List.mem_cons, List.not_mem_nil, or_false] at hy; unfold RgI; omega) (by simp) (Nat.le_trans (m := cc.length) (by omega) (Nat.le_of_eq (Eq.symm (len_set' (len_setAt' (k := 5) rfl (by simp only [List.length_append, intC_len, rdTw_len, List.length_cons, List.length_nil]) (by omega))))))) rfl rfl) ?_ ?_ ?_
 ·
  rintro _ _ ⟨_, ⟨rfl, hno, rfl⟩, rfl⟩
  exact ⟨[], ⟨rfl, (rdE_short (by simp only [widE, fsT, Fld.wid, List.map_cons, List.map_nil, List.sum_cons, List.sum_nil]; (try simp only [List.length_drop, List.length_cons, List.length_nil] at hno); omega)), rfl⟩, inferInstance⟩
 ·
  rintro _ _ ⟨_, _, ⟨rfl, hl3, rfl⟩, rfl, rfl⟩; infer_instance
 rintro _ _ ⟨_, _, ⟨rfl, hl3, rfl⟩, rfl, rfl⟩
 refine AnyH.app ?_
 (try simp only [List.length_drop, List.length_cons, List.length_nil] at hl3)
 rw [show (((((((left.drop 2).drop 2).drop 2).drop 2).drop 2).drop 4).drop (2 * ([0] : List Int).length)) = (((((((left.drop 2).drop 2).drop 2).drop 2).drop 2).drop 4).drop 2) by simp [List.drop_drop]]
 refine AnyH.done (by kernel_rfl) ?_
 refine Ends.seq ?_
 refine Wp.seq ?_
 refine Wr ?_
 refine Om1 rfl rfl ?_
 refine Ops.pv (pv_nilCheck rfl) rfl ?_
 refine Ops.pv (pv_fieldAddr rfl rfl) rfl ?_
 refine Ops.pv (pv_load rfl rfl (by rw [nth_setAt (Nat.le_trans (m := cc.length) (by simp only [intC_len, rdTw_len, List.length_cons, List.length_nil]; omega) (Nat.le_of_eq (Eq.symm (len_set' (len_setAt' (k := 5) rfl (by simp only [List.length_append, intC_len, rdTw_len, List.length_cons, List.length_nil]) (by omega)))))) (by simp only [intC_len, rdTw_len, List.length_cons, List.length_nil]; omega), nth_set_ne (by omega), nth_setAt (Nat.le_trans (m := cc.length) (by simp only [intC_len, rdTw_len, List.length_cons, List.length_nil]; omega) (Nat.le_of_eq (Eq.symm rfl))) (by simp only [intC_len, rdTw_len, List.length_cons, List.length_nil]; omega)]; exact hx.at_ 7 rfl)) rfl ?_
 refine Ops.pv ((pv_gtr rfl rfl).fls (by first | exact fun h => h rfl | decide | omega | assumption)) rfl ?_
 refine On ?_
 refine Wp.cond_false rfl ?_
 refine Wp.skip ?_
 refine Ends.seq ?_
 refine Wr ?_
 refine Om1 rfl rfl ?_
 refine Ops.pv (pv_nilCheck rfl) rfl ?_
 refine Ops.pv (pv_fieldAddr rfl rfl) rfl ?_
 refine Ops.pv (pv_load rfl rfl (by rw [nth_setAt (Nat.le_trans (m := cc.length) (by simp only [intC_len, rdTw_len, List.length_cons, List.length_nil]; omega) (Nat.le_of_eq (Eq.symm (len_set' (len_setAt' (k := 5) rfl (by simp only [List.length_append, intC_len, rdTw_len, List.length_cons, List.length_nil]) (by omega)))))) (by simp only [intC_len, rdTw_len, List.length_cons, List.length_nil]; omega), nth_set_ne (by omega), nth_setAt (Nat.le_trans (m := cc.length) (by simp only [intC_len, rdTw_len, List.length_cons, List.length_nil]; omega) (Nat.le_of_eq (Eq.symm rfl))) (by simp only [intC_len, rdTw_len, List.length_cons, List.length_nil]; omega)]; exact hx.at_ 7 rfl)) rfl ?_
 refine Ops.pv (pv_add rfl rfl (r := 1) (w64 (by omega) (by omega))) rfl ?_
 refine Ops.pv (pv_nilCheck rfl) rfl ?_
 refine Ops.pv (pv_fieldAddr rfl rfl) rfl ?_
 refine Ops.ef rfl (ef_store1 (hset := setL_set (nth_lt (by rw [nth_setAt (Nat.le_trans (m := cc.length) (by simp only [intC_len, rdTw_len, List.length_cons, List.length_nil]; omega) (Nat.le_of_eq (Eq.symm (len_set' (len_setAt' (k := 5) rfl (by simp only [List.length_append, intC_len, rdTw_len, List.length_cons, List.length_nil]) (by omega)))))) (by simp only [intC_len, rdTw_len, List.length_cons, List.length_nil]; omega), nth_set_ne (by omega), nth_setAt (Nat.le_trans (m := cc.length) (by simp only [intC_len, rdTw_len, List.length_cons, List.length_nil]; omega) (Nat.le_of_eq (Eq.symm rfl))) (by simp only [intC_len, rdTw_len, List.length_cons, List.length_nil]; omega)]; exact hx.at_ 7 rfl))) rfl rfl rfl rfl) ?_
 rintro _ _ ⟨rfl, rfl⟩
 refine On ?_
 refine Wp.seq ?_
 refine AnyH.start ([(cp, .cells [kP k].toArray 78)] : Hp) 6 rfl ?_
 refine Tk 0 rfl rfl (pv_load rfl rfl rfl) rfl ?_
 refine Tk 1 rfl rfl (pv_move rfl) rfl ?_
 refine Tk 2 rfl rfl (pv_nilCheck rfl) rfl ?_
 refine Tk 3 rfl rfl (pv_fieldAddr rfl rfl) rfl ?_
 refine AnyH.one 4 (by kernel_rfl) ?_
 refine Turn.ef rfl rfl (ef_buildSlice1 (k := 1) rfl rfl rfl rfl rfl) ?_ ?_
 ·
  rintro _ _ ⟨b3, rfl, rfl⟩; infer_instance
 rintro _ _ ⟨b3, rfl, rfl⟩
 refine AnyH.one 5 (by kernel_rfl) ?_
 refine Turn.efx rfl rfl (efx_call (tr_twoR k adr bv (((((((left.drop 2).drop 2).drop 2).drop 2).drop 2).drop 4).drop 2) (by (try simp only [List.length_drop]); omega) h1b h1a b3 120 [.pointer (some ⟨eb, off + 7, none⟩)] eb (off + 7) ((setAt ((setAt cc (off + 0) (intC (rdTw ([0, 0, 0, 0, 0] : List Int).length left))).set (off + 5) (.int .u64 (leV ((((((left.drop 2).drop 2).drop 2).drop 2).drop 2).take 4) : Nat))) (off + 6) (intC (rdTw ([0] : List Int).length ((((((left.drop 2).drop 2).drop 2).drop 2).drop 2).drop 4)))).set (off + 7) (.int .i64 1)) Te ([1] : List Int) rfl (one_hcc (nth_set (Nat.lt_of_lt_of_eq (m := cc.length) (by omega) (Eq.symm (len_setAt' (k := 1) (len_set' (len_setAt' (k := 5) rfl (by simp only [List.length_append, intC_len, rdTw_len, List.length_cons, List.length_nil]) (by omega))) (by simp only [List.length_append, intC_len, rdTw_len, List.length_cons, List.length_nil]) (by omega)))))) (by intro y hy; simp only [List.mem_cons, List.not_mem_nil, or_false] at hy; unfold RgI; omega) (by simp) (Nat.le_trans (m := cc.length) (by omega) (Nat.le_of_eq (Eq.symm (len_set' (len_setAt' (k := 1) (len_set' (len_setAt' (k := 5) rfl (by simp only [List.length_append, intC_len, rdTw_len, List.length_cons, List.length_nil]) (by omega))) (by simp only [List.length_append, intC_len, rdTw_len, List.length_cons, List.length_nil]) (by omega))))))) rfl rfl) ?_ ?_ ?_
 ·
  rintro _ _ ⟨_, ⟨rfl, hno, rfl⟩, rfl⟩
  exact ⟨[], ⟨rfl, (rdE_short (by simp only [widE, fsT, Fld.wid, List.map_cons, List.map_nil, List.sum_cons, List.sum_nil]; (try simp only [List.length_drop, List.length_cons, List.length_nil] at hno); omega)), rfl⟩, inferInstance⟩
 ·
  rintro _ _ ⟨_, _, ⟨rfl, hl4, rfl⟩, rfl, rfl⟩; infer_instance
 rintro _ _ ⟨_, _, ⟨rfl, hl4, rfl⟩, rfl, rfl⟩
 refine AnyH.app ?_
 (try simp only [List.length_drop, List.length_cons, List.length_nil] at hl4)
 rw [show ((((((((left.drop 2).drop 2).drop 2).drop 2).drop 2).drop 4).drop 2).drop (2 * ([1] : List Int).length)) = ((((((((left.drop 2).drop 2).drop 2).drop 2).drop 2).drop 4).drop 2).drop 2) by simp [List.drop_drop]]
 refine AnyH.done (by kernel_rfl) ?_
 refine Ends.seq ?_
 refine Wp.region ?_
 refine Om1 rfl rfl ?_
 refine Ops.pv (pv_nilCheck rfl) rfl ?_
 refine Ops.pv (pv_fieldAddr rfl rfl) rfl ?_
 refine Ops.pv (pv_load rfl rfl (nth_setAt_in (j := 0) (Nat.le_trans (m := cc.length) (by omega) (Nat.le_of_eq (Eq.symm (len_set' (len_setAt' (k := 1) (len_set' (len_setAt' (k := 5) rfl (by simp only [List.length_append, intC_len, rdTw_len, List.length_cons, List.length_nil]) (by omega))) (by simp only [List.length_append, intC_len, rdTw_len, List.length_cons, List.length_nil]) (by omega)))))) rfl)) rfl ?_
 refine Ops.pv (pv_sub rfl rfl (r := ((leV ((((((((left.drop 2).drop 2).drop 2).drop 2).drop 2).drop 4).drop 2).take 2) : Nat) : Int) - 1) (by have := leV2 (((((((left.drop 2).drop 2).drop 2).drop 2).drop 2).drop 4).drop 2); exact w64 (by omega) (by omega))) rfl ?_
 refine Ops.pv (pv_nilCheck rfl) rfl ?_
 refine Ops.pv (pv_fieldAddr rfl rfl) rfl ?_
 refine Ops.ef rfl (ef_store1 (hset := setL_set (Nat.lt_of_lt_of_eq (m := cc.length) (by omega) (Eq.symm (len_setAt' (k := 1) (len_set' (len_setAt' (k := 1) (len_set' (len_setAt' (k := 5) rfl (by simp only [List.length_append, intC_len, rdTw_len, List.length_cons, List.length_nil]) (by omega))) (by simp only [List.length_append, intC_len, rdTw_len, List.length_cons, List.length_nil]) (by omega))) (by simp only [List.length_append, intC_len, rdTw_len, List.length_cons, List.length_nil]) (by omega))))) rfl rfl rfl rfl) ?_
 rintro _ _ ⟨rfl, rfl⟩
 refine Ops.nil ?_
 have hc : ((setAt ((setAt ((setAt cc (off + 0) (intC (rdTw ([0, 0, 0, 0, 0] : List Int).length left))).set (off + 5) (.int .u64 (leV ((((((left.drop 2).drop 2).drop 2).drop 2).drop 2).take 4) : Nat))) (off + 6) (intC (rdTw ([0] : List Int).length ((((((left.drop 2).drop 2).drop 2).drop 2).drop 2).drop 4)))).set (off + 7) (.int .i64 1)) (off + 7) (intC (rdTw ([1] : List Int).length (((((((left.drop 2).drop 2).drop 2).drop 2).drop 2).drop 4).drop 2)))).set (off + 7) (.int .i64 (((leV ((((((((left.drop 2).drop 2).drop 2).drop 2).drop 2).drop 4).drop 2).take 2) : Nat) : Int) - 1))) = setAt cc off (cellsE fsT [((leV (left.take 2) : Nat) : Int), ((leV ((left.drop 2).take 2) : Nat) : Int), ((leV (((left.drop 2).drop 2).take 2) : Nat) : Int), ((leV ((((left.drop 2).drop 2).drop 2).take 2) : Nat) : Int), ((leV (((((left.drop 2).drop 2).drop 2).drop 2).take 2) : Nat) : Int), ((leV ((((((left.drop 2).drop 2).drop 2).drop 2).drop 2).take 4) : Nat) : Int), ((leV (((((((left.drop 2).drop 2).drop 2).drop 2).drop 2).drop 4).take 2) : Nat) : Int), ((leV ((((((((left.drop 2).drop 2).drop 2).drop 2).drop 2).drop 4).drop 2).take 2) : Nat) : Int) - 1]) := (set_last' (setAt_last' (set_at' (setAt_at' (k := 6) (set_at' (k := 5) rfl (by simp only [List.length_append, intC_len, rdTw_len, List.length_cons, List.length_nil]) rfl (by omega)) (by simp only [List.length_append, intC_len, rdTw_len, List.length_cons, List.length_nil]) rfl (by simp only [intC_len, rdTw_len, List.length_cons, List.length_nil]; omega)) (by simp only [List.length_append, intC_len, rdTw_len, List.length_cons, List.length_nil]) rfl (by omega)) (by simp only [List.length_append, intC_len, rdTw_len, List.length_cons, List.length_nil]) rfl (by omega)) (by simp only [List.length_append, intC_len, rdTw_len, List.length_cons, List.length_nil]) rfl (by omega))
 have hr : rdE fsT left = some ([((leV (left.take 2) : Nat) : Int), ((leV ((left.drop 2).take 2) : Nat) : Int), ((leV (((left.drop 2).drop 2).take 2) : Nat) : Int), ((leV ((((left.drop 2).drop 2).drop 2).take 2) : Nat) : Int), ((leV (((((left.drop 2).drop 2).drop 2).drop 2).take 2) : Nat) : Int), ((leV ((((((left.drop 2).drop 2).drop 2).drop 2).drop 2).take 4) : Nat) : Int), ((leV (((((((left.drop 2).drop 2).drop 2).drop 2).drop 2).drop 4).take 2) : Nat) : Int), ((leV ((((((((left.drop 2).drop 2).drop 2).drop 2).drop 2).drop 4).drop 2).take 2) : Nat) : Int) - 1], ((((((((left.drop 2).drop 2).drop 2).drop 2).drop 2).drop 4).drop 2).drop 2)) := (rdE_some (rdF_of (s := left) (by simp only [List.length_drop, Fld.wid]; omega) rfl) (rdE_some (rdF_of (s := (left.drop 2)) (by simp only [List.length_drop, Fld.wid]; omega) rfl) (rdE_some (rdF_of (s := ((left.drop 2).drop 2)) (by simp only [List.length_drop, Fld.wid]; omega) rfl) (rdE_some (rdF_of (s := (((left.drop 2).drop 2).drop 2)) (by simp only [List.length_drop, Fld.wid]; omega) rfl) (rdE_some (rdF_of (s := ((((left.drop 2).drop 2).drop 2).drop 2)) (by simp only [List.length_drop, Fld.wid]; omega) rfl) (rdE_some (rdF_of (s := (((((left.drop 2).drop 2).drop 2).drop 2).drop 2)) (by simp only [List.length_drop, Fld.wid]; omega) rfl) (rdE_some (rdF_of (s := ((((((left.drop 2).drop 2).drop 2).drop 2).drop 2).drop 4)) (by simp only [List.length_drop, Fld.wid]; omega) rfl) (rdE_some (rdF_of (s := (((((((left.drop 2).drop 2).drop 2).drop 2).drop 2).drop 4).drop 2)) (by simp only [List.length_drop, Fld.wid]; omega) rfl) rfl))))))))
 rw [hc]
 exact Ends.finE (L' := (cp, .cells [kP k].toArray 78) :: ((k, .cells [.bool true, adr, bv, sV ((((((((left.drop 2).drop 2).drop 2).drop 2).drop 2).drop 4).drop 2).drop 2)].toArray 84) :: [(eb, .cells (setAt cc off (cellsE fsT [((leV (left.take 2) : Nat) : Int), ((leV ((left.drop 2).take 2) : Nat) : Int), ((leV (((left.drop 2).drop 2).take 2) : Nat) : Int), ((leV ((((left.drop 2).drop 2).drop 2).take 2) : Nat) : Int), ((leV (((((left.drop 2).drop 2).drop 2).drop 2).take 2) : Nat) : Int), ((leV ((((((left.drop 2).drop 2).drop 2).drop 2).drop 2).take 4) : Nat) : Int), ((leV (((((((left.drop 2).drop 2).drop 2).drop 2).drop 2).drop 4).take 2) : Nat) : Int), ((leV ((((((((left.drop 2).drop 2).drop 2).drop 2).drop 2).drop 4).drop 2).take 2) : Nat) : Int) - 1])).toArray Te)])) (res0 rfl) ⟨rfl, _, _, hr, rfl⟩
set_option maxHeartbeats 8000000 in
theorem tr_allR6 (cp : Nat) (k : Nat) (adr bv : Value) (left : List UInt8) (hl : left.length ≤ 2 ^ 40) (h1b : bv.oneCell' = true) (h1a : adr.oneCell' = true) (eb off : Nat) (cc : List Value) (Te : TypeId) (hx : Lies cc off (cellsE fsW [0, 0, 0, 0])) : TrE Try.prog 48 [.pointer (some ⟨eb, off, none⟩), .pointer (some ⟨cp, 0, none⟩)] ((cp, .cells [kP k].toArray 78) :: ((k, .cells [.bool true, adr, bv, sV left].toArray 84) :: [(eb, .cells cc.toArray Te)])) (fun u L' => u = .tuple #[] ∧ ∃ e' left', rdE fsW left = some (e', left') ∧ L' = (cp, .cells [kP k].toArray 78) :: ((k, .cells [.bool true, adr, bv, sV left'].toArray 84) :: [(eb, .cells (setAt cc off (cellsE fsW e')).toArray Te)])) (fun c L' => c = badC ∧ rdE fsW left = none ∧ L' = []) := by
 have hcl := hx.len (by simp [cellsE, fsW])
 simp only [cellsE, fsW, List.zipWith_cons_cons, List.zipWith_nil_left, List.length_cons, List.length_nil] at hcl
 refine TrE.enter Try.func48 rfl Try.ntmps48 rfl (fun W F => ?_)
 refine Wp.app ?_
 refine Wp.seq ?_
 refine AnyH.start ([(cp, .cells [kP k].toArray 78)] : Hp) 12 rfl ?_
 refine Tk 0 rfl rfl (pv_load rfl rfl rfl) rfl ?_
 refine Tk 1 rfl rfl (pv_move rfl) rfl ?_
 refine Tk 2 rfl rfl (pv_nilCheck rfl) rfl ?_
 refine Tk 3 rfl rfl (pv_fieldAddr rfl rfl) rfl ?_
 refine Tk 4 rfl rfl (pv_move rfl) rfl ?_
 refine Tk 5 rfl rfl (pv_nilCheck rfl) rfl ?_
 refine Tk 6 rfl rfl (pv_fieldAddr rfl rfl) rfl ?_
 refine Tk 7 rfl rfl (pv_move rfl) rfl ?_
 refine Tk 8 rfl rfl (pv_nilCheck rfl) rfl ?_
 refine Tk 9 rfl rfl (pv_fieldAddr rfl rfl) rfl ?_
 refine AnyH.one 10 (by kernel_rfl) ?_
 refine Turn.ef rfl rfl (ef_buildSliceN [.pointer none, .pointer none, .pointer none] [(0, 1), (1, 1), (2, 1)] rfl (by kernel_rfl) (by first | decide | rfl) rfl rfl rfl) ?_ ?_
 ·
  rintro _ _ ⟨b1, rfl, rfl⟩; infer_instance
 rintro _ _ ⟨b1, rfl, rfl⟩
 refine AnyH.one 11 (by kernel_rfl) ?_
 refine Turn.efx rfl rfl (efx_call (tr_twoR k adr bv left (by (try simp only [List.length_drop]); omega) h1b h1a b1 120 [.pointer (some ⟨eb, off + 0, none⟩), .pointer (some ⟨eb, off + 1, none⟩), .pointer (some ⟨eb, off + 2, none⟩)] eb (off + 0) cc Te ([0, 0, 0] : List Int) rfl (hx.ints [] rfl) (by intro y hy; simp only [List.mem_cons, List.not_mem_nil, or_false] at hy; unfold RgI; omega) (by simp) (by omega)) rfl rfl) ?_ ?_ ?_
 ·
  rintro _ _ ⟨_, ⟨rfl, hno, rfl⟩, rfl⟩
  exact ⟨[], ⟨rfl, (rdE_short (by simp only [widE, fsW, Fld.wid, List.map_cons, List.map_nil, List.sum_cons, List.sum_nil]; (try simp only [List.length_drop, List.length_cons, List.length_nil] at hno); omega)), rfl⟩, inferInstance⟩
 ·
  rintro _ _ ⟨_, _, ⟨rfl, hl1, rfl⟩, rfl, rfl⟩; infer_instance
 rintro _ _ ⟨_, _, ⟨rfl, hl1, rfl⟩, rfl, rfl⟩
 refine AnyH.app ?_
 (try simp only [List.length_drop, List.length_cons, List.length_nil] at hl1)
 rw [show (left.drop (2 * ([0, 0, 0] : List Int).length)) = (((left.drop 2).drop 2).drop 2) by simp [List.drop_drop]]
 refine AnyH.done (by kernel_rfl) ?_
 refine Ends.seq ?_
 refine AnyH.start ([(cp, .cells [kP k].toArray 78)] : Hp) 5 rfl ?_
 refine Tk 0 rfl rfl (pv_load rfl rfl rfl) rfl ?_
 refine Tk 1 rfl rfl (pv_move rfl) rfl ?_
 refine Tk 2 rfl rfl (pv_nilCheck rfl) rfl ?_
 refine Tk 3 rfl rfl (pv_fieldAddr rfl rfl) rfl ?_
 refine AnyH.one 4 (by kernel_rfl) ?_
 refine Turn.efx rfl rfl (efx_call (tr_wordR k adr bv (((left.drop 2).drop 2).drop 2) (by (try simp only [List.length_drop]); omega) h1b h1a eb (off + 3) (setAt cc (off + 0) (intC (rdTw ([0, 0, 0] : List Int).length left))) Te 0 (by rw [nth_setAt (Nat.le_trans (m := cc.length) (by simp only [intC_len, rdTw_len, List.length_cons, List.length_nil]; omega) (Nat.le_of_eq (Eq.symm rfl))) (by simp only [intC_len, rdTw_len, List.length_cons, List.length_nil]; omega)]; exact hx.at_ 3 rfl) 4 (by decide) (by decide)) rfl rfl) ?_ ?_ ?_
 ·
  rintro _ _ ⟨_, ⟨rfl, hno, rfl⟩, rfl⟩
  exact ⟨[], ⟨rfl, (rdE_short (by simp only [widE, fsW, Fld.wid, List.map_cons, List.map_nil, List.sum_cons, List.sum_nil]; (try simp only [List.length_drop, List.length_cons, List.length_nil] at hno); omega)), rfl⟩, inferInstance⟩
 ·
  rintro _ _ ⟨_, _, ⟨rfl, hl2, rfl⟩, rfl, rfl⟩; infer_instance
 rintro _ _ ⟨_, _, ⟨rfl, hl2, rfl⟩, rfl, rfl⟩
 refine AnyH.app ?_
 (try simp only [List.length_drop] at hl2)
 refine AnyH.done (by kernel_rfl) ?_
 have hc : ((setAt cc (off + 0) (intC (rdTw ([0, 0, 0] : List Int).length left))).set (off + 3) (.int .u64 (leV ((((left.drop 2).drop 2).drop 2).take 4) : Nat))) = setAt cc off (cellsE fsW [((leV (left.take 2) : Nat) : Int), ((leV ((left.drop 2).take 2) : Nat) : Int), ((leV (((left.drop 2).drop 2).take 2) : Nat) : Int), ((leV ((((left.drop 2).drop 2).drop 2).take 4) : Nat) : Int)]) := (set_at' (k := 3) rfl (by simp only [List.length_append, intC_len, rdTw_len, List.length_cons, List.length_nil]) rfl (by omega))
 have hr : rdE fsW left = some ([((leV (left.take 2) : Nat) : Int), ((leV ((left.drop 2).take 2) : Nat) : Int), ((leV (((left.drop 2).drop 2).take 2) : Nat) : Int), ((leV ((((left.drop 2).drop 2).drop 2).take 4) : Nat) : Int)], ((((left.drop 2).drop 2).drop 2).drop 4)) := (rdE_some (rdF_of (s := left) (by simp only [List.length_drop, Fld.wid]; omega) rfl) (rdE_some (rdF_of (s := (left.drop 2)) (by simp only [List.length_drop, Fld.wid]; omega) rfl) (rdE_some (rdF_of (s := ((left.drop 2).drop 2)) (by simp only [List.length_drop, Fld.wid]; omega) rfl) (rdE_some (rdF_of (s := (((left.drop 2).drop 2).drop 2)) (by simp only [List.length_drop, Fld.wid]; omega) rfl) rfl))))
 rw [hc]
 exact Ends.finE (L' := (cp, .cells [kP k].toArray 78) :: ((k, .cells [.bool true, adr, bv, sV ((((left.drop 2).drop 2).drop 2).drop 4)].toArray 84) :: [(eb, .cells (setAt cc off (cellsE fsW [((leV (left.take 2) : Nat) : Int), ((leV ((left.drop 2).take 2) : Nat) : Int), ((leV (((left.drop 2).drop 2).take 2) : Nat) : Int), ((leV ((((left.drop 2).drop 2).drop 2).take 4) : Nat) : Int)])).toArray Te)])) (res0 rfl) ⟨rfl, _, _, hr, rfl⟩
set_option maxHeartbeats 8000000 in
theorem tr_allR7 (cp : Nat) (k : Nat) (adr bv : Value) (left : List UInt8) (hl : left.length ≤ 2 ^ 40) (h1b : bv.oneCell' = true) (h1a : adr.oneCell' = true) (eb off : Nat) (cc : List Value) (Te : TypeId) (hx : Lies cc off (cellsE fsS [0, 0])) : TrE Try.prog 50 [.pointer (some ⟨eb, off, none⟩), .pointer (some ⟨cp, 0, none⟩)] ((cp, .cells [kP k].toArray 78) :: ((k, .cells [.bool true, adr, bv, sV left].toArray 84) :: [(eb, .cells cc.toArray Te)])) (fun u L' => u = .tuple #[] ∧ ∃ e' left', rdE fsS left = some (e', left') ∧ L' = (cp, .cells [kP k].toArray 78) :: ((k, .cells [.bool true, adr, bv, sV left'].toArray 84) :: [(eb, .cells (setAt cc off (cellsE fsS e')).toArray Te)])) (fun c L' => c = badC ∧ rdE fsS left = none ∧ L' = []) := by
 have hcl := hx.len (by simp [cellsE, fsS])
 simp only [cellsE, fsS, List.zipWith_cons_cons, List.zipWith_nil_left, List.length_cons, List.length_nil] at hcl
 refine TrE.enter Try.func50 rfl Try.ntmps50 rfl (fun W F => ?_)
 refine Wp.app ?_
 refine AnyH.start ([(cp, .cells [kP k].toArray 78)] : Hp) 9 rfl ?_
 refine Tk 0 rfl rfl (pv_load rfl rfl rfl) rfl ?_
 refine Tk 1 rfl rfl (pv_move rfl) rfl ?_
 refine Tk 2 rfl rfl (pv_nilCheck rfl) rfl ?_
 refine Tk 3 rfl rfl (pv_fieldAddr rfl rfl) rfl ?_
 refine Tk 4 rfl rfl (pv_move rfl) rfl ?_
 refine Tk 5 rfl rfl (pv_nilCheck rfl) rfl ?_
 refine Tk 6 rfl rfl (pv_fieldAddr rfl rfl) rfl ?_
 refine AnyH.one 7 (by kernel_rfl) ?_
 refine Turn.ef rfl rfl (ef_buildSlice2 rfl rfl rfl rfl rfl rfl) ?_ ?_
 ·
  rintro _ _ ⟨b1, rfl, rfl⟩; infer_instance
 rintro _ _ ⟨b1, rfl, rfl⟩
 refine AnyH.one 8 (by kernel_rfl) ?_
 refine Turn.efx rfl rfl (efx_call (tr_twoR k adr bv left (by (try simp only [List.length_drop]); omega) h1b h1a b1 120 [.pointer (some ⟨eb, off + 0, none⟩), .pointer (some ⟨eb, off + 1, none⟩)] eb (off + 0) cc Te ([0, 0] : List Int) rfl (hx.ints [] rfl) (by intro y hy; simp only [List.mem_cons, List.not_mem_nil, or_false] at hy; unfold RgI; omega) (by simp) (by omega)) rfl rfl) ?_ ?_ ?_
 ·
  rintro _ _ ⟨_, ⟨rfl, hno, rfl⟩, rfl⟩
  exact ⟨[], ⟨rfl, (rdE_short (by simp only [widE, fsS, Fld.wid, List.map_cons, List.map_nil, List.sum_cons, List.sum_nil]; (try simp only [List.length_drop, List.length_cons, List.length_nil] at hno); omega)), rfl⟩, inferInstance⟩
 ·
  rintro _ _ ⟨_, _, ⟨rfl, hl1, rfl⟩, rfl, rfl⟩; infer_instance
 rintro _ _ ⟨_, _, ⟨rfl, hl1, rfl⟩, rfl, rfl⟩
 refine AnyH.app ?_
 (try simp only [List.length_drop, List.length_cons, List.length_nil] at hl1)
 rw [show (left.drop (2 * ([0, 0] : List Int).length)) = ((left.drop 2).drop 2) by simp [List.drop_drop]]
 refine AnyH.done (by kernel_rfl) ?_
 have hc : (setAt cc (off + 0) (intC (rdTw ([0, 0] : List Int).length left))) = setAt cc off (cellsE fsS [((leV (left.take 2) : Nat) : Int), ((leV ((left.drop 2).take 2) : Nat) : Int)]) := rfl
 have hr : rdE fsS left = some ([((leV (left.take 2) : Nat) : Int), ((leV ((left.drop 2).take 2) : Nat) : Int)], ((left.drop 2).drop 2)) := (rdE_some (rdF_of (s := left) (by simp only [List.length_drop, Fld.wid]; omega) rfl) (rdE_some (rdF_of (s := (left.drop 2)) (by simp only [List.length_drop, Fld.wid]; omega) rfl) rfl))
 rw [hc]
 exact Ends.finE (L' := (cp, .cells [kP k].toArray 78) :: ((k, .cells [.bool true, adr, bv, sV ((left.drop 2).drop 2)].toArray 84) :: [(eb, .cells (setAt cc off (cellsE fsS [((leV (left.take 2) : Nat) : Int), ((leV ((left.drop 2).take 2) : Nat) : Int)])).toArray Te)])) (res0 rfl) ⟨rfl, _, _, hr, rfl⟩
end Go.Proofs.Ytkldjadpoknejaa
end
section
set_option linter.unusedVariables false
set_option linter.unusedSimpArgs false
set_option linter.unusedSectionVars false
namespace Go.Proofs.Ytkldjadpoknejaa
open Go.SL
structure El (fs : List Fld) where
  val : List Int
  len : val.length = fs.length
  rg : rgE fs val
def cE (fs : List Fld) (e : El fs) : List Value := cellsE fs e.1
theorem Fld.one (f : Fld) (x : Int) : (f.cell x).oneCell' = true := by cases f <;> rfl
theorem cellsE_len : ∀ (fs : List Fld) (e : List Int), e.length = fs.length → (cellsE fs e).length = fs.length := fun fs e h => by
 rw [cellsE, List.length_zipWith, h, Nat.min_self]
theorem cellsE_one : ∀ (fs : List Fld) (e : List Int), (cellsE fs e).all Value.oneCell' = true
  | [], _ => by simp [cellsE]
  | f :: fs, [] => by simp [cellsE]
  | f :: fs, x :: e => by
    have := cellsE_one fs e
    rw [cellsE, List.zipWith_cons_cons, List.all_cons, f.one]; exact this
theorem encEl (fs : List Fld) (k : Nat) (h : fs.length = k) : Enc (cE fs) k := ⟨fun e => by rw [cE, cellsE_len fs e.1 e.len, h], fun e => cellsE_one fs e.1⟩
instance : Enc (cE fsO) 3 := encEl _ _ rfl
instance : Enc (cE fsP) 8 := encEl _ _ rfl
instance : Enc (cE fsM) 4 := encEl _ _ rfl
instance : Enc (cE fsF) 3 := encEl _ _ rfl
instance : Enc (cE fsT) 8 := encEl _ _ rfl
instance : Enc (cE fsW) 4 := encEl _ _ rfl
instance : Enc (cE fsS) 2 := encEl _ _ rfl
theorem rgE_zero : ∀ fs : List Fld, rgE fs (List.replicate fs.length 0)
  | [] => trivial
  | f :: fs => by
    refine ⟨?_, rgE_zero fs⟩
    cases f <;> simp [Fld.rg, RgI]
def zEl (fs : List Fld) : El fs := ⟨List.replicate fs.length 0, List.length_replicate, rgE_zero fs⟩
open Classical in
noncomputable def mkEl (fs : List Fld) (e : List Int) : El fs := if h : e.length = fs.length ∧ rgE fs e then ⟨e, h.1, h.2⟩ else zEl fs
theorem mkEl_val {fs : List Fld} {e : List Int} (h : e.length = fs.length ∧ rgE fs e) : (mkEl fs e).1 = e := by rw [mkEl, dif_pos h]
theorem leVt {s : List UInt8} {w : Nat} : leV (s.take w) < 256 ^ w := Nat.lt_of_lt_of_le (leV_lt _) (Nat.pow_le_pow_right (n := 256) (by decide) (List.length_take_le w s))
theorem rdF_rg {f : Fld} {s s1 : List UInt8} {v : Int} (h : rdF f s = some (v, s1)) : f.rg v := by
 unfold rdF at h
 split at h
 ·
  cases h
 ·
  have hlt := leVt (s := s) (w := f.wid)
  cases f <;> simp only [Fld.dec, Fld.wid, Fld.rg, RgI] at h hlt ⊢ <;> first
   | (simp only [Option.map_some, Option.some.injEq, Prod.mk.injEq] at h; omega)
   | (by_cases hc : leV (s.take 2) < 8 <;> simp only [hc, if_true, if_false, Option.map_some, Option.map_none, Option.some.injEq, Prod.mk.injEq, reduceCtorEq] at h; omega)
   | (by_cases hc : leV (s.take 1) < 2 <;> simp only [hc, if_true, if_false, Option.map_some, Option.map_none, Option.some.injEq, Prod.mk.injEq, reduceCtorEq] at h; omega)
theorem rdE_rg : ∀ {fs : List Fld} {s s2 : List UInt8} {e : List Int}, rdE fs s = some (e, s2) → rgE fs e
  | [], s, s2, e, h => by cases h; trivial
  | f :: fs, s, s2, e, h => by
    rw [rdE] at h
    split at h
    · cases h
    · rename_i v s1 h1
      split at h
      · cases h
      · rename_i e2 s3 h2
        cases h
        exact ⟨rdF_rg h1, rdE_rg h2⟩
theorem rdE_el {fs : List Fld} {s s2 : List UInt8} {e : List Int} (h : rdE fs s = some (e, s2)) : (mkEl fs e).1 = e := mkEl_val ⟨(rdE_len h).2.2, rdE_rg h⟩
theorem rdE_cE {fs : List Fld} {s s2 : List UInt8} {e : List Int} (h : rdE fs s = some (e, s2)) : cE fs (mkEl fs e) = cellsE fs e := by rw [cE, rdE_el h]
noncomputable def rdI (fs : List Fld) : Nat → List UInt8 → Option (List (El fs) × List UInt8)
  | 0, s => some ([], s)
  | i + 1, s => match rdI fs i s with
    | none => none
    | some (l, r) => match rdE fs r with
      | none => none
      | some (e, r2) => some (l ++ [mkEl fs e], r2)
theorem rdI_some {fs : List Fld} {i : Nat} {s r r2 : List UInt8} {l : List (El fs)} {e : List Int} (h1 : rdI fs i s = some (l, r)) (h2 : rdE fs r = some (e, r2)) : rdI fs (i + 1) s = some (l ++ [mkEl fs e], r2) := by rw [rdI, h1]; dsimp only; rw [h2]
theorem rdI_none {fs : List Fld} {i : Nat} {s r : List UInt8} {l : List (El fs)} (h1 : rdI fs i s = some (l, r)) (h2 : rdE fs r = none) : rdI fs (i + 1) s = none := by rw [rdI, h1]; dsimp only; rw [h2]
theorem rdI_up {fs : List Fld} {i : Nat} {s : List UInt8} (h : rdI fs i s = none) : ∀ {n}, i ≤ n → rdI fs n s = none := fun {n} hn => by
 induction n with
 | zero => rw [show i = 0 by omega] at h; exact h
 | succ n ih =>
  rcases Nat.lt_or_ge i (n + 1) with hl | hl
  ·
   rw [rdI, ih (by omega)]
  ·
   rw [show n + 1 = i by omega]; exact h
theorem rdI_len {fs : List Fld} : ∀ {i : Nat} {s r : List UInt8} {l : List (El fs)}, rdI fs i s = some (l, r) → l.length = i ∧ r.length ≤ s.length
  | 0, s, r, l, h => by cases h; exact ⟨rfl, Nat.le_refl _⟩
  | i + 1, s, r, l, h => by
    rw [rdI] at h
    split at h
    · cases h
    · rename_i l1 r1 h1
      split at h
      · cases h
      · rename_i e r2 h2
        cases h
        obtain ⟨a, b⟩ := rdI_len h1
        obtain ⟨_, rfl, _⟩ := rdE_len h2
        simp only [List.length_append, List.length_singleton, List.length_drop]
        omega
noncomputable def rdL (fs : List Fld) (most : Nat) (s : List UInt8) : Option (List (El fs) × List UInt8) :=
  if s.length < 2 then none else if leV (s.take 2) > most then none else rdI fs (leV (s.take 2)) (s.drop 2)
def okL (fs : List Fld) (most : Nat) (l : List (El fs)) : Prop := l.length ≤ most ∧ ∀ e, e ∈ l → okE fs e.1
def encI (fs : List Fld) (l : List (El fs)) : List UInt8 := (l.map fun e => encE fs e.1).flatten
def encL (fs : List Fld) (l : List (El fs)) : List UInt8 := leB 2 l.length ++ encI fs l
theorem encE_len : ∀ {fs : List Fld} {e : List Int}, e.length = fs.length → (encE fs e).length = widE fs
  | [], [], _ => rfl
  | [], _ :: _, h => by simp at h
  | f :: fs, [], h => by simp at h
  | f :: fs, x :: e, h => by
    have e1 : widE (f :: fs) = f.wid + widE fs := by simp [widE]
    rw [encE, List.length_append, encE_len (by simpa using h), e1]
    congr 1
    cases f <;> simp [Fld.enc, Fld.wid, leB_len]
theorem encI_take {fs : List Fld} {l : List (El fs)} {i : Nat} {e : El fs} (h : l[i]? = some e) : encI fs (l.take (i + 1)) = encI fs (l.take i) ++ encE fs e.1 := by
 rw [List.take_add_one, h]; simp [encI]
theorem encI_len (fs : List Fld) (l : List (El fs)) : (encI fs l).length = l.length * widE fs := by
 induction l with
 | nil => simp [encI]
 | cons e l ih =>
  have : encI fs (e :: l) = encE fs e.1 ++ encI fs l := by simp [encI]
  rw [this, List.length_append, ih, encE_len e.len, List.length_cons, Nat.add_mul]; omega
theorem encL_len (fs : List Fld) (l : List (El fs)) : (encL fs l).length = 2 + l.length * widE fs := by rw [encL, List.length_append, leB_len, encI_len]
theorem encT1 {n : Nat} (h : n < 9223372036854775808) : encT [((n : Nat) : Int)] = leB 2 n := by
 have := uI_nn (x := (n : Int)) (by omega) (by omega)
 simp [encT, show uI (n : Int) = n by omega]
theorem all_take {fs : List Fld} {l : List (El fs)} {i : Nat} {e : El fs} (h : l[i]? = some e) (h1 : ∀ e, e ∈ l.take i → okE fs e.1) (h2 : okE fs e.1) : ∀ e, e ∈ l.take (i + 1) → okE fs e.1 := by
 intro y hy
 rw [List.take_add_one, h, List.mem_append] at hy
 rcases hy with hy | hy
 ·
  exact h1 y hy
 ·
  simp only [Option.toList_some, List.mem_singleton] at hy; subst hy; exact h2
theorem slc_el {α : Type} {f : α → List Value} {k T n i : Nat} [he : Enc f k] {v : Value} {l : List α} {a : α} {H : Hp} (h : Slc T k v n (cel f l) H) (hi : l[i]? = some a) (hk : 0 < k) :
    ∃ b o cc cap, v = .slice (some ⟨b, o, none⟩) n cap ∧ H = [(b, .cells cc.toArray T)] ∧ Lies cc (o + i * k) (f a) ∧ ∀ a', Slc T k v n (cel f (l.set i a')) [(b, .cells (setAt cc (o + i * k) (f a')).toArray T)] := by
  obtain ⟨hil, hia⟩ := List.getElem?_eq_some_iff.1 hi
  have hcl := cel_len (f := f) (k := k) l
  have e1 : cel f l = cel f (l.take i) ++ (f a ++ cel f (l.drop (i + 1))) := by
    have hd := List.drop_eq_getElem_cons hil
    rw [← cel_cons, ← cel_app, ← hia, ← hd, List.take_append_drop]
  have e2 : ∀ a', cel f (l.set i a') = cel f (l.take i) ++ (f a' ++ cel f (l.drop (i + 1))) := fun a' => by
    rw [List.set_eq_take_append_cons_drop, if_pos hil, cel_app, cel_cons]
  have e3 : (cel f (l.take i)).length = i * k := by rw [cel_len, List.length_take, Nat.min_eq_left (by omega)]
  obtain ⟨h1, h2⟩ := h
  rcases h2 with ⟨_, hn, _⟩ | ⟨b, pre, spare, cap, rfl, hc, hs, rfl⟩
  · subst hn
    rw [hcl] at h1
    have : 0 < l.length * k := Nat.mul_pos (by omega) hk
    omega
  · refine ⟨b, pre.length, pre ++ cel f l ++ spare, cap, rfl, rfl, ?_, fun a' => ⟨?_, .inr ⟨b, pre, spare, cap, rfl, hc, hs, ?_⟩⟩⟩
    · have := lies_mid (pre ++ cel f (l.take i)) (f a) (cel f (l.drop (i + 1)) ++ spare)
      rw [List.length_append, e3] at this
      rw [e1]
      simpa only [List.append_assoc] using this
    · rw [cel_len, List.length_set, ← hcl]; exact h1
    · rw [e1, e2]
      have := setAt_app (A := pre ++ cel f (l.take i)) (X := f a) (Y := cel f (l.drop (i + 1)) ++ spare) (vs := f a') (by rw [he.len, he.len]; exact Nat.le_refl _)
      rw [List.length_append, e3, List.drop_of_length_le (l := f a) (by rw [he.len, he.len]; exact Nat.le_refl _), List.nil_append] at this
      simp only [List.append_assoc] at this ⊢
      rw [this]
theorem El.three {fs : List Fld} (h : fs.length = 3) (e : El fs) : ∃ a0 a1 a2, e.1 = [a0, a1, a2] := by
 obtain ⟨l, hl, hr⟩ := e
 rw [h] at hl
 match l, hl with
 | [a, b, c], _ => exact ⟨a, b, c, rfl⟩
theorem El.two {fs : List Fld} (h : fs.length = 2) (e : El fs) : ∃ a0 a1, e.1 = [a0, a1] := by
 obtain ⟨l, hl, hr⟩ := e
 rw [h] at hl
 match l, hl with
 | [a, b], _ => exact ⟨a, b, rfl⟩
theorem El.four {fs : List Fld} (h : fs.length = 4) (e : El fs) : ∃ a0 a1 a2 a3, e.1 = [a0, a1, a2, a3] := by
 obtain ⟨l, hl, hr⟩ := e
 rw [h] at hl
 match l, hl with
 | [a, b, c, d], _ => exact ⟨a, b, c, d, rfl⟩
theorem El.eight {fs : List Fld} (h : fs.length = 8) (e : El fs) : ∃ a0 a1 a2 a3 a4 a5 a6 a7, e.1 = [a0, a1, a2, a3, a4, a5, a6, a7] := by
 obtain ⟨l, hl, hr⟩ := e
 rw [h] at hl
 match l, hl with
 | [a, b, c, d, x, y, z, w], _ => exact ⟨a, b, c, d, x, y, z, w, rfl⟩
end Go.Proofs.Ytkldjadpoknejaa
end
