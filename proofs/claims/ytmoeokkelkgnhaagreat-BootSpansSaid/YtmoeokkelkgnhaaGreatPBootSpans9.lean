/- BootSpans. Laid together by pack.py out of the texts in wip. -/
import Derived.Test.YtmoeokkelkgnhaaGreatPBootSpans8
set_option linter.unusedVariables false
set_option linter.unusedSimpArgs false
set_option linter.unusedSectionVars false
set_option maxHeartbeats 64000000
namespace Go.Proofs.YtmoeokkelkgnhaaGreat
open Go.SL
open Go.Proofs.Tryz
section
theorem small_da(c1 c2 c3 c4 c5 c6:Nat):DA [(c1,.cells (cel (cE fsO) smallD.o).toArray 78),(c2,.cells (cel (cE fsP) smallD.p).toArray 91),(c3,.cells (cel (cE fsM) smallD.m).toArray 79),(c4,.cells (cel (cE fsF) smallD.f).toArray 118),(c5,.cells (cel (cE fsT) smallD.t).toArray 86),(c6,.cells (cel (cE fsS) smallD.s).toArray 124)] smallD (.slice (some ⟨c1,0,none⟩) 5 5) (.slice (some ⟨c2,0,none⟩) 1 1) (.slice (some ⟨c3,0,none⟩) 2 2) (.slice (some ⟨c4,0,none⟩) 2 2) (.slice (some ⟨c5,0,none⟩) 1 1) (.slice none 0 0) (.slice (some ⟨c6,0,none⟩) 1 1) :=
  ⟨(slc_as (f:=cE fsO) (l:=smallD.o) (slc_whole (T:=78) (b:=c1) (n:=5) (cs:=cel (cE fsO) smallD.o) rfl) (by decide)).mono (by intro p hp;rw[List.mem_singleton]at hp;rw[hp];simp),(slc_as (f:=cE fsP) (l:=smallD.p) (slc_whole (T:=91) (b:=c2) (n:=1) (cs:=cel (cE fsP) smallD.p) rfl) (by decide)).mono (by intro p hp;rw[List.mem_singleton]at hp;rw[hp];simp),(slc_as (f:=cE fsM) (l:=smallD.m) (slc_whole (T:=79) (b:=c3) (n:=2) (cs:=cel (cE fsM) smallD.m) rfl) (by decide)).mono (by intro p hp;rw[List.mem_singleton]at hp;rw[hp];simp),(slc_as (f:=cE fsF) (l:=smallD.f) (slc_whole (T:=118) (b:=c4) (n:=2) (cs:=cel (cE fsF) smallD.f) rfl) (by decide)).mono (by intro p hp;rw[List.mem_singleton]at hp;rw[hp];simp),(slc_as (f:=cE fsT) (l:=smallD.t) (slc_whole (T:=86) (b:=c5) (n:=1) (cs:=cel (cE fsT) smallD.t) rfl) (by decide)).mono (by intro p hp;rw[List.mem_singleton]at hp;rw[hp];simp),⟨none,0,rfl,fun i x h=>by simp[smallD]at h⟩,(slc_as (f:=cE fsS) (l:=smallD.s) (slc_whole (T:=124) (b:=c6) (n:=1) (cs:=cel (cE fsS) smallD.s) rfl) (by decide)).mono (by intro p hp;rw[List.mem_singleton]at hp;rw[hp];simp)⟩
theorem tr_small  : Tr prog 24 [] ([]) (fun u L' => ∃c1 c2 c3 c4 c5 c6:Nat,u=.agg #[.slice (some ⟨c1,0,none⟩) 5 5,.slice (some ⟨c2,0,none⟩) 1 1,.slice (some ⟨c3,0,none⟩) 2 2,.slice (some ⟨c4,0,none⟩) 2 2,.slice (some ⟨c5,0,none⟩) 1 1,.slice none 0 0,.slice (some ⟨c6,0,none⟩) 1 1]∧L' = [(c1,.cells (cel (cE fsO) smallD.o).toArray 78),(c2,.cells (cel (cE fsP) smallD.p).toArray 91),(c3,.cells (cel (cE fsM) smallD.m).toArray 79),(c4,.cells (cel (cE fsF) smallD.f).toArray 118),(c5,.cells (cel (cE fsT) smallD.t).toArray 86),(c6,.cells (cel (cE fsS) smallD.s).toArray 124)]):=by
 refine YR func24 ntmps24 fun W F=>?_
 refine Wr ?_;refine zA fun b1=>?_
 refine zq [2,5,3,4,23,23,23,23,23] ?_;refine Yq (ef_buildSliceN [.int .i64 0,.int .i64 0,.int .i64 0,.int .i64 0,.int .i64 0,.int .i64 0,.int .i64 0,.int .i64 0,.int .i64 0,.int .i64 0,.int .i64 0,.int .i64 0,.int .i64 0,.int .i64 0,.int .i64 0] [(0,3),(3,3),(6,3),(9,3),(12,3)] rfl (by kernel_rfl) (by first | decide | rfl) rfl rfl rfl) fun b2=>?_
 refine zq [23,23,23] ?_;refine Yq (ef_buildSlice1 (k:=8) rfl rfl rfl rfl rfl) fun b3=>?_
 refine zq [23,23] ?_;refine Yq (ef_buildSliceN [.int .i64 0,.int .i64 0,.int .i64 0,.bool false,.int .i64 0,.int .i64 0,.int .i64 0,.bool false] [(0,4),(4,4)] rfl (by kernel_rfl) (by first | decide | rfl) rfl rfl rfl) fun b4=>?_
 refine zC (tr_lCode 16 0 0 7 (by decide) (by decide) (by decide) (by decide)) ?_;refine zq [23] ?_;refine zC (tr_lCode 13 0 0 0 (by decide) (by decide) (by decide) (by decide)) ?_;refine zq [23] ?_;refine Yq (ef_buildSliceN [.int .i64 0,.int .i64 0,.int .u64 0,.int .i64 0,.int .i64 0,.int .u64 0] [(0,3),(3,3)] rfl (by kernel_rfl) (by first | decide | rfl) rfl rfl rfl) fun b5=>?_
 refine zq [23] ?_;refine Yq (ef_buildSlice1 (k:=8) rfl rfl rfl rfl rfl) fun b6=>?_
 refine zq [23] ?_;refine Yq (ef_buildSlice1 (k:=2) rfl rfl rfl rfl rfl) fun b7=>?_
 refine zq [23,14,2,5,10] ?_;exact Ends.ret (L' := [(b2,.cells ([.int .i64 3,.int .i64 0,.int .i64 0,.int .i64 2,.int .i64 2,.int .i64 0,.int .i64 8,.int .i64 0,.int .i64 0,.int .i64 7,.int .i64 0,.int .i64 0,.int .i64 6,.int .i64 0,.int .i64 0]:List Value).toArray 78),(b3,.cells ([.int .i64 1,.int .i64 0,.int .i64 6,.int .i64 4,.int .i64 1,.int .u64 0,.int .u64 0,.int .i64 0]:List Value).toArray 91),(b4,.cells ([.int .i64 4,.int .i64 2,.int .i64 0,.bool false,.int .i64 3,.int .i64 2,.int .i64 0,.bool false]:List Value).toArray 79),(b5,.cells ([.int .i64 4,.int .i64 0,.int .u64 (codeN 16 0 0 7:Nat),.int .i64 4,.int .i64 1,.int .u64 (codeN 13 0 0 0:Nat)]:List Value).toArray 118),(b6,.cells ([.int .i64 0,.int .i64 2,.int .i64 0,.int .i64 0,.int .i64 1,.int .u64 0,.int .i64 14,.int .i64 2]:List Value).toArray 86),(b7,.cells ([.int .i64 0,.int .i64 1]:List Value).toArray 124)]) (res_one rfl (rv_cellK [_,_,_,_,_,_,_] rfl rfl rfl ⟨rfl,rfl,rfl,rfl,rfl,rfl,rfl,trivial⟩)) ⟨b2,b3,b4,b5,b6,b7,rfl,rfl⟩
section
variable (G : Hp) (D : Dd) (v1 v2 v3 v4 v5 v6 v7 : Value) (hd : DV G D v1 v2 v3 v4 v5 v6 v7) (hsm : DSmall D) (n : Nat)
include hd hsm
theorem tr_bootOk(h:(bootM D n).1=0):Tr prog 15 [.agg #[v1,v2,v3,v4,v5,v6,v7],.int .i64 n] G (fun u L' => ∃kb A ad L1,u=.tuple #[pV kb,.int .i64 0]∧KH (bootM D n).2 A ad kb L1∧L' = L1++G) :=
  (tr_boot G D v1 v2 v3 v4 v5 v6 v7 hd hsm n).mono (by
    rintro v L' (⟨h0,_⟩ | ⟨_,h1⟩)
    · exact absurd h h0
    · exact h1)
theorem tr_bootNo(h:(bootM D n).1≠0):TrR prog 15 [.agg #[v1,v2,v3,v4,v5,v6,v7],.int .i64 n] G (.tuple #[.pointer none,.int .i64 (bootM D n).1]) :=
  (tr_boot G D v1 v2 v3 v4 v5 v6 v7 hd hsm n).mono (by
    rintro v L' (⟨_,h1⟩ | ⟨h0,_⟩)
    · exact h1
    · exact absurd h0 h)
end
section
attribute [local irreducible] bootM planL Kn.step smallK policyD apartD encD
theorem tr_works  : Tr prog 8 [] ([]) (fun u L' => u=.bool true∧L' = []):=by
 have hln:=small_ln
 have hpc:=small_pc
 have hst:=small_sr
 refine YR func8 ntmps8 fun W F=>?_
 refine zq [3,4,1,2,5,3,4] ?_;refine zD tr_small ?_;rintro _ _ ⟨c1,c2,c3,c4,c5,c6,rfl,rfl⟩;refine Ops.app ?_;refine zD (tr_to [(c1,.cells (cel (cE fsO) smallD.o).toArray 78),(c2,.cells (cel (cE fsP) smallD.p).toArray 91),(c3,.cells (cel (cE fsM) smallD.m).toArray 79),(c4,.cells (cel (cE fsF) smallD.f).toArray 118),(c5,.cells (cel (cE fsT) smallD.t).toArray 86),(c6,.cells (cel (cE fsS) smallD.s).toArray 124)] smallD (.slice (some ⟨c1,0,none⟩) 5 5) (.slice (some ⟨c2,0,none⟩) 1 1) (.slice (some ⟨c3,0,none⟩) 2 2) (.slice (some ⟨c4,0,none⟩) 2 2) (.slice (some ⟨c5,0,none⟩) 1 1) (.slice none 0 0) (.slice (some ⟨c6,0,none⟩) 1 1) (small_da c1 c2 c3 c4 c5 c6) (by decide) (by decide) (by decide) (by decide) (by decide) (by decide) (by decide)) ?_;rintro _ _ ⟨w1,w2,w3,w4,w5,w6,w7,K1,K2,K3,K4,K5,K6,K7,hs,rfl,rfl⟩;refine Ops.app ?_;refine Ops.heap (L' := K1++(K2++(K3++(K4++(K5++(K6++(K7++(F)))))))) (fun w ho=>Drop.own ho) ?_;obtain ⟨p1,q1,rfl⟩:=hs.o.form;obtain ⟨p2,q2,rfl⟩:=hs.p.form;obtain ⟨p3,q3,rfl⟩:=hs.m.form;obtain ⟨p4,q4,rfl⟩:=hs.f.form;obtain ⟨p5,q5,rfl⟩:=hs.t.form;obtain ⟨p6,q6,rfl⟩:=hs.w.form;obtain ⟨p7,q7,rfl⟩:=hs.s.form;refine zA fun b1=>?_
 refine zq [14,2,5,3,4,36] ?_;refine zD (tr_planY (K1++(K2++(K3++(K4++(K5++(K6++(K7))))))) smallD p1 q1 (.slice p2 smallD.p.length q2) (.slice p3 smallD.m.length q3) (.slice p4 smallD.f.length q4) (.slice p5 smallD.t.length q5) (.slice p6 smallD.w.length q6) (.slice p7 smallD.s.length q7) ((Slc.view hs.o).mono (by simp +contextual)) (by decide) 100 small_p) ?_;rintro _ _ ⟨sb,sp,sq,cpl,rfl,rfl⟩;refine Ops.app ?_;refine zq [0,7,7,1,1,2,5,3,4,36] ?_;refine zD (tr_bootOk (K1++(K2++(K3++(K4++(K5++(K6++(K7))))))) smallD (.slice p1 smallD.o.length q1) (.slice p2 smallD.p.length q2) (.slice p3 smallD.m.length q3) (.slice p4 smallD.f.length q4) (.slice p5 smallD.t.length q5) (.slice p6 smallD.w.length q6) (.slice p7 smallD.s.length q7) (DS.dv hs) small_sm 100 small_e) ?_;rintro _ _ ⟨kb1,A1,ad1,J1,rfl,hk1,rfl⟩;refine Ops.app ?_;refine zq [0,7,7,1,1,2,5,3,4,36] ?_;refine zD (tr_encode smallD (.slice p1 smallD.o.length q1) (.slice p2 smallD.p.length q2) (.slice p3 smallD.m.length q3) (.slice p4 smallD.f.length q4) (.slice p5 smallD.t.length q5) (.slice p6 smallD.w.length q6) (.slice p7 smallD.s.length q7) K1 K2 K3 K4 K5 K6 K7 hs (by decide) (by decide) (by decide) (by decide) (by decide) (by decide) (by decide)) ?_;rintro _ _ ⟨rfl,rfl⟩;refine Ops.app ?_;rw[show encV smallD=([67,68]++encD smallD,0) from if_pos small_ok];refine zq [0,7,7,1,1,2,5,3,4,0] ?_;refine zD (tr_decY ([67,68]++encD smallD) (by have:=encD_le small_ok;simp only[Y3,Y4,Y5];omega) rfl) ?_;rintro _ _ ⟨D2,e2,u1,u2,u3,u4,u5,u6,u7,M1,M2,M3,M4,M5,M6,M7,hdp,hs2,rfl,rfl⟩;refine Ops.app ?_;obtain ⟨rfl,rfl⟩:=decP_enc small_ok hdp;obtain ⟨s1,t1,rfl⟩:=hs2.o.form;obtain ⟨s2,t2,rfl⟩:=hs2.p.form;obtain ⟨s3,t3,rfl⟩:=hs2.m.form;obtain ⟨s4,t4,rfl⟩:=hs2.f.form;obtain ⟨s5,t5,rfl⟩:=hs2.t.form;obtain ⟨s6,t6,rfl⟩:=hs2.w.form;obtain ⟨s7,t7,rfl⟩:=hs2.s.form;refine zq [0,7,7] ?_;refine zA fun b2=>?_
 refine zq [14,1,2,5,3,3,4,0,67,0,21,71,26,0,21] ?_;refine Yg (pv_eql_nil rfl rfl) ?_;refine zq [26,0,21,71,26,0,21,71,26,0] ?_;refine Yg (pv_loadK [_,_,_,_,_,_,_] rfl rfl rfl ⟨rfl,rfl,rfl,rfl,rfl,rfl,rfl,trivial⟩) ?_;refine Yg (pv_loadK [_,_,_,_,_,_,_] rfl rfl rfl ⟨rfl,rfl,rfl,rfl,rfl,rfl,rfl,trivial⟩) ?_;refine Yog (ef_callr (same_refl smallD hs2 hs ⟨by decide,by decide,by decide,by decide,by decide,by decide,by decide⟩) rfl rfl) ?_;refine zq [54,26,2,5,17,11,5,3,3,4] ?_;refine Ops.heap (L' := K1++(K2++(K3++(K4++(K5++(K6++(K7++(J1++((sb,.cells (sp++cel oneC (planL smallD)++sq).toArray 55)::(b1,.cells [.slice p1 smallD.o.length q1,.slice p2 smallD.p.length q2,.slice p3 smallD.m.length q3,.slice p4 smallD.f.length q4,.slice p5 smallD.t.length q5,.slice p6 smallD.w.length q6,.slice p7 smallD.s.length q7].toArray 44)::F))))))))) (fun w ho=>(((((((ho.sublist (List.sublist_cons_self ..)).app_right).app_right).app_right).app_right).app_right).app_right).app_right) ?_;refine zq [1,2,5,20] ?_;refine YM (σ:=Nat×Hp) [(1,_),(2,_),(4,_)] (fun s=>[(10,.int .i64 s.1)]) (fun s=>K1++(K2++(K3++(K4++(K5++(K6++(K7++(s.2++((sb,.cells (sp++cel oneC (planL smallD)++sq).toArray 55)::(b1,.cells [.slice p1 smallD.o.length q1,.slice p2 smallD.p.length q2,.slice p3 smallD.m.length q3,.slice p4 smallD.f.length q4,.slice p5 smallD.t.length q5,.slice p6 smallD.w.length q6,.slice p7 smallD.s.length q7].toArray 44)::F))))))))) (fun s=>s.1≤5∧KH (smallK s.1) A1 ad1 kb1 s.2) (fun s=>5-s.1) (0,J1) ⟨Nat.zero_le _,by dsimp only;rw[smallK_z];exact hk1⟩ ?_;rintro ⟨i,J⟩ KK ⟨hi,hI⟩ hK;dsimp only[Y1,Y2]at hK ⊢;dsimp only at hi hI ⊢;refine zq [3,3,4,0,42,2,5] ?_;refine Yd rfl (fun h1=>?_) (fun h1=>?_)
 ·
  refine zq [11,5,3,20,3,4,0] ?_;refine Ops.ef rfl (ef_call (tr_kStepZ A1 ad1 kb1 _ hI (small_sy (i:=i) (by omega)).1 (small_zi (by omega))) rfl rfl) ?_;rintro _ _ ⟨_,J1,⟨rfl,hk1⟩,rfl,rfl⟩;refine Ops.app ?_;refine zq [39,2,5,17,11,19,5,4,0] ?_;refine Ya rfl rfl (i+1) ?_;refine zq [1,2,49] ?_;refine Yy (hK (i+1,J1) ⟨by dsimp only;omega,by dsimp only;rw[smallK_s];exact hk1⟩ (by dsimp only;omega))
 obtain rfl:i=5:=by omega
 refine zq [41,16,16,40,5,3,4,0] ?_;refine Yo (ef_callr (tr_kThread _ _ _ _ _ hI (small_kw 5 (by decide)) 0) rfl rfl) ?_;refine zq [0,7,7] ?_;refine zA fun b3=>?_
 refine zq [14,1,2,5,3,4,36] ?_;refine Yo (ef_callr ((tr_bootNo (K1++(K2++(K3++(K4++(K5++(K6++(K7))))))) smallD (.slice p1 smallD.o.length q1) (.slice p2 smallD.p.length q2) (.slice p3 smallD.m.length q3) (.slice p4 smallD.f.length q4) (.slice p5 smallD.t.length q5) (.slice p6 smallD.w.length q6) (.slice p7 smallD.s.length q7) (DS.dv hs) small_sm 64 (by rw[show bootM smallD ((64:Nat):Int)=_ from small_f];decide)).eq (r' := .tuple #[.pointer none,.int .i64 7]) (by rw[show bootM smallD ((64:Nat):Int)=_ from small_f])) rfl rfl) ?_;refine zq [0,7,7,1,1,2,5,3,4] ?_;refine zD (tr_decY [67,68] (by decide) rfl) ?_;rintro _ _ ⟨D3,e3,x1,x2,x3,x4,x5,x6,x7,N1,N2,N3,N4,N5,N6,N7,hdp3,hs3,rfl,rfl⟩;refine Ops.app ?_;obtain rfl:=decP_none hdp3;obtain ⟨y1,z1,rfl⟩:=hs3.o.form;obtain ⟨y2,z2,rfl⟩:=hs3.p.form;obtain ⟨y3,z3,rfl⟩:=hs3.m.form;obtain ⟨y4,z4,rfl⟩:=hs3.f.form;obtain ⟨y5,z5,rfl⟩:=hs3.t.form;obtain ⟨y6,z6,rfl⟩:=hs3.w.form;obtain ⟨y7,z7,rfl⟩:=hs3.s.form;refine zq [0,7,7] ?_;refine zA fun b4=>?_
 refine zq [14,1,2,5,3,4,0] ?_;refine Yp (pv_len_slice (T:=51) rfl rfl) ?_;refine zq [66,0,21] ?_;refine Yg (pv_indexAddr (i:=1) rfl rfl rfl (by omega)) ?_;refine Yg (pv_loadK [.int .i64 64,.int .i64 3] rfl rfl rfl (el_reads (f:=oneC) small_l)) ?_;refine zq [56] ?_;refine Yg ((pv_eql_slot (a:=(64,3)) (b:=(64,3)) rfl rfl).tru rfl) ?_;refine zq [24,0] ?_;refine Yg (pv_move (show SL.ev _ _=some (.bool true) from congrArg (fun b=>some (Value.bool b)) small_is)) ?_;refine zq [24,0,50,51,69,24,0,50,51,69,24,0,21,69,24,0,21,69,24,0] ?_;refine Yg (pv_loadK [_,_,_,_,_,_,_] rfl rfl rfl ⟨rfl,rfl,rfl,rfl,rfl,rfl,rfl,trivial⟩) ?_;refine Yog (ef_callr ((tr_apart (K1++(K2++(K3++(K4++(K5++(K6++(K7))))))) smallD (.slice p1 smallD.o.length q1) (.slice p2 smallD.p.length q2) (.slice p3 smallD.m.length q3) (.slice p4 smallD.f.length q4) (.slice p5 smallD.t.length q5) (.slice p6 smallD.w.length q6) (.slice p7 smallD.s.length q7) (DS.dv hs) small_sm).eq (r' := .bool true) (by rw[small_a])) rfl rfl) ?_;refine zq [24,0] ?_;refine Yg (pv_loadK [_,_,_,_,_,_,_] rfl rfl rfl ⟨rfl,rfl,rfl,rfl,rfl,rfl,rfl,trivial⟩) ?_;refine Yog (ef_callr ((tr_policy (K1++(K2++(K3++(K4++(K5++(K6++(K7))))))) smallD (.slice p1 smallD.o.length q1) (.slice p2 smallD.p.length q2) (.slice p3 smallD.m.length q3) (.slice p4 smallD.f.length q4) (.slice p5 smallD.t.length q5) (.slice p6 smallD.w.length q6) (.slice p7 smallD.s.length q7) (DS.dv hs) small_sm).eq (r' := .agg #[.int .i64 9,.int .i64 0,.int .i64 0,.int .i64 0,.int .i64 0,.int .i64 0,.int .i64 0,.int .i64 0,.int .i64 0,.int .i64 0,.int .i64 0,.int .i64 0,.int .i64 0,.int .i64 0,.int .i64 0,.int .i64 0,.int .i64 0,.int .i64 0,.int .i64 0,.int .i64 0,.int .i64 0,.int .i64 0,.int .i64 0,.int .i64 0,.int .i64 0,.int .i64 0,.int .i64 0,.int .i64 0,.int .i64 0,.int .i64 0,.int .i64 0,.int .i64 0,.int .i64 0,.int .i64 0,.int .i64 0,.int .i64 0,.int .i64 0,.int .i64 0,.int .i64 0,.int .i64 0,.int .i64 0,.int .i64 0,.int .i64 0,.int .i64 0,.int .i64 0,.int .i64 0,.int .i64 0,.int .i64 0,.int .i64 0,.int .i64 0,.int .i64 0,.int .i64 0,.int .i64 0,.int .i64 0,.int .i64 0,.int .i64 0,.int .i64 0,.int .i64 0,.int .i64 0,.int .i64 0,.int .i64 0,.int .i64 0,.int .i64 0,.int .i64 0]) (by rw[small_pol];rfl)) rfl rfl) ?_;refine Yg (pv_indexK (i:=0) [.int .i64 9,.int .i64 0,.int .i64 0,.int .i64 0,.int .i64 0,.int .i64 0,.int .i64 0,.int .i64 0] rfl rfl rfl rfl (by decide) rfl ⟨rfl,rfl,rfl,rfl,rfl,rfl,rfl,rfl,trivial⟩) ?_;refine Yg (pv_index1 (i:=0) rfl rfl rfl rfl (by decide) rfl) ?_;refine zq [69,24,1,2,5,10] ?_;exact zr (L' := []) ⟨rfl,rfl⟩
end
end
section
set_option synthInstance.maxHeartbeats 400000
set_option synthInstance.maxSize 4000
theorem great_len{D:Dd}(h:¬greatD D):D.o.length≤2^20∧D.p.length≤2^20∧D.m.length≤2^20∧D.f.length≤2^20∧D.t.length≤2^20∧D.w.length≤2^20∧D.s.length≤2^20:=by
 unfold greatD at h;refine ⟨?_,?_,?_,?_,?_,?_,?_⟩ <;> omega
end
section
def sumW:List (Int×Int)→Int
  | []=>0
  | q::l=>pw q.2+sumW l
theorem sumW_app:∀a b:List (Int×Int),sumW (a++b)=sumW a+sumW b
  | [],b=>by simp[sumW]
  | q::a,b=>by simp only[Y1,sumW];rw[sumW_app a b];omega
theorem sumW_take{l:List (Int×Int)}{i:Nat}{x:Int×Int}(h:l[i]?=some x):sumW (l.take (i+1))=sumW (l.take i)+pw x.2:=by
 rw[List.take_add_one,sumW_app,h];simp[sumW]
theorem sumW_pos:∀l:List (Int×Int),0≤sumW l
  | []=>Int.le_refl _
  | q::l=>by have:=sumW_pos l;have:=pw_pos q.2;unfold sumW;omega
theorem sumW_le(l:List (Int×Int))(i:Nat):sumW (l.take i)≤sumW l:=by
 have h:=sumW_app (l.take i) (l.drop i)
 rw[List.take_append_drop]at h;have:=sumW_pos (l.drop i);omega
def sumX:List Int→Int
  | []=>0
  | b::l=>pw b+sumX l
theorem sumX_app:∀a b:List Int,sumX (a++b)=sumX a+sumX b
  | [],b=>by simp[sumX]
  | q::a,b=>by simp only[Y1,sumX];rw[sumX_app a b];omega
theorem sumW_zip:∀(a b:List Int),a.length=b.length→sumW (a.zip b)=sumX b
  | [],[],_=>rfl
  | x::a,y::b,h=>by
    simp only[List.zip_cons_cons,sumW,sumX];rw[sumW_zip a b (by simpa using h)]
theorem sumP_app(b:List Int):∀o p:List Int,sumP b (o++p)=sumP b o+sumP b p
  | [],p=>by simp[sumP]
  | i::o,p=>by rw[Y1,sumP_cons,sumP_cons,sumP_app b o p];omega
theorem sumP_up(b:List Int):∀n,n≤b.length→sumP b (upTo n)=sumX (b.take n)
  | 0,_=>by simp[upTo,sumP,sumX]
  | n+1,h=>by
    have hb:b[n]?=some b[n]:=Y8 (by omega)
    have e:upTo (n+1)=upTo n++[(n:Int)]:=by simp[upTo,List.range_succ]
    rw[e,sumP_app,sumP_up b n (by omega),List.take_add_one,sumX_app,hb,sumP_cons];have hk:keyOf b (n:Int)=b[n]:=by
      unfold keyOf;rw[Int.toNat_natCast,List.getD_eq_getElem?_getD,hb];rfl
    rw[hk];simp[sumP,sumX]
theorem plan_sum(D:Dd):sumW (planL D)=(layF (bitsOf D.o)).2:=by
 rw[lay_total,sumP_perm (show (ordOf (bitsOf D.o)).Perm (upTo (bitsOf D.o).length) from srt_perm _),sumP_up _ _ (Nat.le_refl _),List.take_length];exact sumW_zip _ _ (lay_length _)
section
variable {D : Dd} {words : Int} (h : PlanOk D words)
include h
theorem PlanOk.at_{i:Nat}{x:Int×Int}(hx:(planL D)[i]?=some x):checkS x words=0∧endS x≤sumW (planL D)∧inRangeS x∧x.1+pw x.2≤sumW (planL D):=by
 obtain ⟨hi,he⟩:=List.getElem?_eq_some_iff.1 hx;have hd:(planL D).getD i (0,0)=x:=by rw[List.getD_eq_getElem?_getD,hx];rfl
 obtain ⟨h1,h2⟩:=h.check (i:=i) (by rw[←planL_len];exact hi);rw[hd]at h1 h2;rw[plan_sum];exact ⟨h1,h2,(plan_in h1).1,h2⟩
theorem PlanOk.apart2{i j:Nat}{x y:Int×Int}(hx:(planL D)[i]?=some x)(hy:(planL D)[j]?=some y)(hij:i≠j):apartS x y:=by
 obtain ⟨hi,_⟩:=List.getElem?_eq_some_iff.1 hx;obtain ⟨hj,_⟩:=List.getElem?_eq_some_iff.1 hy;have hd:(planL D).getD i (0,0)=x:=by rw[List.getD_eq_getElem?_getD,hx];rfl
 have he:(planL D).getD j (0,0)=y:=by rw[List.getD_eq_getElem?_getD,hy];rfl
 have:=h.apart (i:=i) (j:=j) (by rw[←planL_len];exact hi) (by rw[←planL_len];exact hj) hij
 rwa [hd,he]at this
end
end
section
set_option synthInstance.maxHeartbeats 400000
set_option synthInstance.maxSize 4000
theorem tr_planZ(G:Hp)(D:Dd)(a:Option Addr)(c:Nat)(v2 v3 v4 v5 v6 v7:Value)(hv:View G 3 (.slice a D.o.length c) D.o.length (cel (cE fsO) D.o))(ho:D.o.length≤2^20)(words:Int)(h:planE D words=0):Tr prog 14 [.agg #[.slice a D.o.length c,v2,v3,v4,v5,v6,v7],.int .i64 words] (G) (fun u L' => ∃(sb:Nat) (sp sq:List Value),u=.tuple #[.slice (some ⟨sb,sp.length,none⟩) (planL D).length (planL D).length,.int .i64 0]∧L' = (sb,.cells (sp++cel oneC (planL D)++sq).toArray 55)::G) :=
  (tr_plan G D a c v2 v3 v4 v5 v6 v7 hv ho words).mono (by
    rintro v L' (⟨h0,_,_⟩ | ⟨_,sb,h1,h2⟩)
    · exact absurd h h0
    · exact ⟨sb,[],[],by rw[h1,planL_len];rfl,by rw[h2];simp⟩)
theorem tr_spAll(l:List (Int×Int))(sb:Nat)(sp sq:List Value)(hl:l.length≤2^20)(hap:∀(i j:Nat) (x y:Int×Int),l[i]?=some x→l[j]?=some y→i≠j→apartS x y):TrR prog 17 [.slice (some ⟨sb,sp.length,none⟩) l.length l.length] ([(sb,.cells (sp++cel oneC l++sq).toArray 55)]) (.bool true):=by
 refine YR func17 ntmps17 fun W F=>?_
 refine zq [3,4,1,2,5] ?_;refine Wp.scope1 (σ:=Unit) 0 (by rfl) [] (fun s=>[]) (fun s=>[]) (fun s=>False) (fun JJ hJ=>?_) ?_
 ·
  dsimp only[Y1,Y2]at hJ ⊢;refine zq [3,4,1,2,5,3] ?_;refine Wp.label ?_;refine zq [5,3,3,4,0] ?_;refine Yp (pv_len_slice (T:=51) rfl rfl) ?_;refine zq [0,2,5,20] ?_;refine YL (σ:=Nat) [(0,_),(8,_),(9,_)] (fun s=>[(3,.bool true),(10,.int .i64 s)]) (fun s=>s≤l.length) (fun s=>l.length-s) 0 (Nat.zero_le _) ?_;rintro i KK hi hK;dsimp only[Y1,Y2]at hK ⊢;refine zq [3,4,42,2,5,3] ?_;refine Yd rfl (fun h1=>?_) (fun h1=>?_)
  ·
   obtain ⟨x,hx⟩:∃x,l[i]?=some x:=Y9;refine zq [11,5,3,20,3,4,0] ?_;refine Yi rfl rfl (i) rfl ?_;refine Yp (pv_loadK [.int .i64 x.1,.int .i64 x.2] rfl rfl rfl (el_reads (f:=oneC) hx)) ?_;refine zA fun b1=>?_
   refine zq [1,14,2,5,3,4,0,0] ?_;refine Yp (pv_sliceTo (j:=i) rfl ⟨_,rfl⟩ (by omega)) ?_;refine Yp (pv_len_slice (T:=51) rfl rfl) ?_;refine zq [0,2,5,20] ?_;refine YL (σ:=Nat) [(0,_),(5,_),(8,_),(9,_),(10,_),(17,_),(18,_)] (fun s=>[(3,.bool true),(19,.int .i64 s)]) (fun s=>s≤i) (fun s=>i-s) 0 (Nat.zero_le _) ?_;rintro j KK hj hK1;dsimp only[Y1,Y2]at hK1 ⊢;refine zq [3,4,42,2,5,3] ?_;refine Yd rfl (fun h2=>?_) (fun h2=>?_)
   ·
    obtain ⟨y,hy⟩:∃y,l[j]?=some y:=Y9;refine zq [11,5,3,20,3,4] ?_;refine Yi rfl rfl (j) rfl ?_;refine Yp (pv_loadK [.int .i64 y.1,.int .i64 y.2] rfl rfl rfl (el_reads (f:=oneC) hy)) ?_;refine zA fun b2=>?_
    refine zq [14,2,5,3,4,30,30] ?_;refine zC ((tr_spApart x y).eq (r' := .bool true) (by rw[decide_eq_true (hap i j x y hx hy (by omega))])) ?_;refine zq [39,2,5,17,11,19,5,4] ?_;refine Ya rfl rfl (j+1) ?_;refine zq [0,2,49] ?_;refine Yy (hK1 (j+1) (by omega) (by omega))
   refine zq [41,16,16,40,19,5,4] ?_;refine Ya rfl rfl (i+1) ?_;refine zq [0,2,49] ?_;refine Yy (hK (i+1) (by omega) (by omega))
  refine zq [41,16,16,40,5,3,4,0,1,2,5,10] ?_;refine Ends.jump_ret ?_;exact zr ⟨rfl,rfl⟩
 rintro _ hz;exact hz.elim
section
variable(G:Hp)(D:Dd)(v1 v2 v3 v4 v5 v6 v7:Value)(hs:DA G D v1 v2 v3 v4 v5 v6 v7)(w0:Int)
include G D v1 v2 v3 v4 v5 v6 v7 hs w0
theorem tr_spansN(he:planE D w0≠0):TrR prog 6 [.agg #[v1,v2,v3,v4,v5,v6,v7],.int .i64 w0] (G) (.bool true):=by
 obtain ⟨svo,cvo,rfl⟩:=hs.o.form;obtain ⟨svp,cvp,rfl⟩:=hs.p.form;obtain ⟨svm,cvm,rfl⟩:=hs.m.form;obtain ⟨svf,cvf,rfl⟩:=hs.f.form;obtain ⟨svt,cvt,rfl⟩:=hs.t.form;obtain ⟨svw,cvw,rfl⟩:=hs.w.form;obtain ⟨svs,cvs,rfl⟩:=hs.s.form;refine YR func6 ntmps6 fun W F=>?_
 refine Wr ?_;refine zB fun b1=>?_
 refine zq [1,2,5,3,3,4] ?_;refine zD tr_works ?_;rintro _ _ ⟨rfl,rfl⟩;refine Ops.app ?_;refine zq [39,2,5,17,11,5,3,3,4,36] ?_;refine zC (tr_great G D _ _ _ _ _ _ _ hs) ?_;refine On ?_;refine Yd rfl (fun h1=>?_) (fun h1=>?_)
 ·
  refine zq [3,4,1,2,5,10,12] ?_;exact zr ⟨rfl,rfl⟩
 have hgr:¬greatD D:=fun h=>by simp_all
 have hl:=great_len hgr
 have hpl:=planL_len D
 refine zq [11,5,3,4,36] ?_;refine zD (tr_to G D _ _ _ _ _ _ _ hs hl.1 hl.2.1 hl.2.2.1 hl.2.2.2.1 hl.2.2.2.2.1 hl.2.2.2.2.2.1 hl.2.2.2.2.2.2) ?_;rintro _ _ ⟨wao,wap,wam,waf,wat,waw,was,Kao,Kap,Kam,Kaf,Kat,Kaw,Kas,da,rfl,rfl⟩;refine Ops.app ?_;obtain ⟨sdao,cdao,rfl⟩:=da.o.form;obtain ⟨sdap,cdap,rfl⟩:=da.p.form;obtain ⟨sdam,cdam,rfl⟩:=da.m.form;obtain ⟨sdaf,cdaf,rfl⟩:=da.f.form;obtain ⟨sdat,cdat,rfl⟩:=da.t.form;obtain ⟨sdaw,cdaw,rfl⟩:=da.w.form;obtain ⟨sdas,cdas,rfl⟩:=da.s.form;refine zq [0] ?_;refine Yo (ef_callr ((tr_planN (Kao++(Kap++(Kam++(Kaf++(Kat++(Kaw++(Kas))))))) D _ _ _ _ _ _ _ _ ((Slc.view da.o).mono (by simp +contextual)) hl.1 w0 he)) rfl rfl) ?_;refine zq [0,7,7,1,1,2,5,3,3,4,0,68,2,5,18,3,4,0] ?_;refine Yp (pv_len_slice (T:=51) rfl rfl) ?_;refine zq [22,1,2,5,10,12] ?_;exact zr ⟨rfl,rfl⟩
theorem tr_spansY(he:planE D w0=0):TrR prog 6 [.agg #[v1,v2,v3,v4,v5,v6,v7],.int .i64 w0] (G) (.bool true):=by
 obtain ⟨svo,cvo,rfl⟩:=hs.o.form;obtain ⟨svp,cvp,rfl⟩:=hs.p.form;obtain ⟨svm,cvm,rfl⟩:=hs.m.form;obtain ⟨svf,cvf,rfl⟩:=hs.f.form;obtain ⟨svt,cvt,rfl⟩:=hs.t.form;obtain ⟨svw,cvw,rfl⟩:=hs.w.form;obtain ⟨svs,cvs,rfl⟩:=hs.s.form;have hok:=plan_ok he
 refine YR func6 ntmps6 fun W F=>?_
 refine Wr ?_;refine zB fun b1=>?_
 refine zq [1,2,5,3,3,4] ?_;refine zD tr_works ?_;rintro _ _ ⟨rfl,rfl⟩;refine Ops.app ?_;refine zq [39,2,5,17,11,5,3,3,4,36] ?_;refine zC (tr_great G D _ _ _ _ _ _ _ hs) ?_;refine On ?_;refine Yd rfl (fun h1=>?_) (fun h1=>?_)
 ·
  refine zq [3,4,1,2,5,10,12] ?_;exact zr ⟨rfl,rfl⟩
 have hgr:¬greatD D:=fun h=>by simp_all
 have hl:=great_len hgr
 have hpl:=planL_len D
 refine zq [11,5,3,4,36] ?_;refine zD (tr_to G D _ _ _ _ _ _ _ hs hl.1 hl.2.1 hl.2.2.1 hl.2.2.2.1 hl.2.2.2.2.1 hl.2.2.2.2.2.1 hl.2.2.2.2.2.2) ?_;rintro _ _ ⟨wao,wap,wam,waf,wat,waw,was,Kao,Kap,Kam,Kaf,Kat,Kaw,Kas,da,rfl,rfl⟩;refine Ops.app ?_;obtain ⟨sdao,cdao,rfl⟩:=da.o.form;obtain ⟨sdap,cdap,rfl⟩:=da.p.form;obtain ⟨sdam,cdam,rfl⟩:=da.m.form;obtain ⟨sdaf,cdaf,rfl⟩:=da.f.form;obtain ⟨sdat,cdat,rfl⟩:=da.t.form;obtain ⟨sdaw,cdaw,rfl⟩:=da.w.form;obtain ⟨sdas,cdas,rfl⟩:=da.s.form;refine zq [0] ?_;refine Ops.ef rfl (ef_call (tr_planZ (Kao++(Kap++(Kam++(Kaf++(Kat++(Kaw++(Kas))))))) D _ _ _ _ _ _ _ _ ((Slc.view da.o).mono (by simp +contextual)) hl.1 w0 he) rfl rfl) ?_;rintro _ _ ⟨_,_,⟨sb,sp,sq,rfl,rfl⟩,rfl,rfl⟩;refine Ops.app ?_;refine zq [0,7,7,1,1,2,5,3,3,4,0,67,2,5,17,11,5,3,4,1,2,5,3,3,4,1,2,5,20] ?_;refine YL (σ:=Nat×Int) [(1,_),(2,_),(5,_)] (fun s=>[(7,.int .i64 s.2),(8,.int .i64 s.1)]) (fun s=>s.1≤(planL D).length∧s.2=sumW ((planL D).take s.1)) (fun s=>(planL D).length-s.1) (0,0) ⟨Nat.zero_le _,rfl⟩ ?_;rintro ⟨i,n⟩ KK ⟨hi,hn⟩ hK;dsimp only[Y1,Y2]at hK ⊢;dsimp only at hi hn ⊢;refine zq [3,3,4,0,0] ?_;refine Yp (pv_len_slice (T:=51) rfl rfl) ?_;refine zq [42,2,5] ?_;refine Yd rfl (fun h2=>?_) (fun h2=>?_)
 ·
  obtain ⟨x,hx⟩:∃x,(planL D)[i]?=some x:=Y9;have hc:=hok.at_ hx
  obtain ⟨hc1,hc2,hc3,hc4⟩:=hc;have hir:=hc3
  unfold inRangeS at hir;have hpw:=pw_le hir.1.1.2
  have hst:=sumW_take hx
  have hsp:=sumW_pos ((planL D).take i)
  have hsl:=sumW_le (planL D) (i+1)
  have hsf:sumW (planL D)≤65536:=by rw[plan_sum];have:=hok.fit;have:=hok.w2;omega
  refine zq [11,5,3,20,3,3,4,0,0] ?_;refine Yi rfl rfl (i) rfl ?_;refine Yp (pv_loadK [.int .i64 x.1,.int .i64 x.2] rfl rfl rfl (el_reads (f:=oneC) hx)) ?_;refine zq [0] ?_;refine zC ((tr_spCheck x w0).eq (r' := .int .i64 0) (by rw[hc1])) ?_;refine zq [67,2,5,17,11,5,4,0,0,0] ?_;refine Yi rfl rfl (i) rfl ?_;refine zq [61] ?_;refine Yp (pv_load rfl rfl (el_reads (f:=oneC) hx).2.1) ?_;refine Yp (pv_shl rfl rfl (by omega) (sh1i (by omega) (by omega))) ?_;refine zq [52,1,2,19,5,4,0] ?_;refine Ya rfl rfl (i+1) ?_;refine zq [1,2,49] ?_;refine Yy (hK (i+1,n+pw x.2) ⟨by dsimp only;omega,by dsimp only;rw[hn,hst]⟩ (by dsimp only;omega))
 obtain rfl:i=(planL D).length:=by omega
 rw[List.take_length]at hn;obtain rfl:=hn;refine zq [41,16,16,40,5,3,3,4,1,2,5,20] ?_;refine YL (σ:=Nat) [(2,_),(5,_),(7,_)] (fun s=>[(9,.int .i64 s)]) (fun s=>s≤(planL D).length) (fun s=>(planL D).length-s) 0 (Nat.zero_le _) ?_;rintro i KK hi hK;dsimp only[Y1,Y2]at hK ⊢;refine zq [3,3,4,0,0] ?_;refine Yp (pv_len_slice (T:=51) rfl rfl) ?_;refine zq [42,2,5] ?_;refine Yd rfl (fun h3=>?_) (fun h3=>?_)
 ·
  obtain ⟨x,hx⟩:∃x,(planL D)[i]?=some x:=Y9;have hc:=hok.at_ hx
  obtain ⟨hc1,hc2,hc3,hc4⟩:=hc;have hir:=hc3
  unfold inRangeS at hir;have hpw:=pw_le hir.1.1.2
  have hst:=sumW_take hx
  have hsp:=sumW_pos ((planL D).take i)
  have hsl:=sumW_le (planL D) (i+1)
  have hsf:sumW (planL D)≤65536:=by rw[plan_sum];have:=hok.fit;have:=hok.w2;omega
  refine zq [11,5,3,20,3] ?_;refine AnyH.start ((sb,.cells (sp++cel oneC (planL D)++sq).toArray 55)::[]) 14 rfl ?_;refine zd [0,1,1,1] ?_;refine Yh 2 rfl (pv_indexAddr (i:=i) rfl rfl rfl (by omega)) ?_;refine zd [3,6] ?_;refine Yh 4 rfl (pv_load rfl rfl (el_reads (f:=oneC) hx).1) ?_;refine zd [5,1,6,1] ?_;refine Yh 7 rfl (pv_indexAddr (i:=i) rfl rfl rfl (by omega)) ?_;refine zd [8,6] ?_;refine Yh 9 rfl (pv_load rfl rfl (el_reads (f:=oneC) hx).2.1) ?_;refine Yh 10 rfl (pv_shl rfl rfl (by omega) (sh1i (by omega) (by omega))) ?_;refine Yh 11 rfl (pv_add rfl rfl (w64 (by omega) (by omega))) ?_;refine zd [12,1] ?_;refine Yh 13 rfl ((pv_gtr rfl rfl).fls (by first | exact fun h=>h rfl | decide | omega | assumption)) ?_;refine YD ?_;refine zq [5,17,11,19,5,4,0] ?_;refine Ya rfl rfl (i+1) ?_;refine zq [1,2,49] ?_;refine Yy (hK (i+1) (by omega) (by omega))
 refine zq [41,16,16,40,5,3,4,0] ?_;refine Yp (pv_len_slice (T:=51) rfl rfl) ?_;refine zq [6,8] ?_;refine Yp (pv_len_slice (T:=22) rfl rfl) ?_;refine zq [66,0,21] ?_;refine Yog (ef_callr ((tr_spAll (planL D) sb sp sq (by omega) (fun i j x y hx hy hij=>hok.apart2 hx hy hij))) rfl rfl) ?_;refine zq [24,1,2,5,10] ?_;exact zr ⟨rfl,rfl⟩
theorem tr_bootSpans:TrR prog 6 [.agg #[v1,v2,v3,v4,v5,v6,v7],.int .i64 w0] G (.bool true):=by
 by_cases he:planE D w0=0
 ·
  exact tr_spansY G D v1 v2 v3 v4 v5 v6 v7 hs w0 he
 exact tr_spansN G D v1 v2 v3 v4 v5 v6 v7 hs w0 he
end
end
end Go.Proofs.YtmoeokkelkgnhaaGreat
namespace Go.SL
section
open Go.RowKit Go.ChangeShapes Go.WideShapes Go.Deep
section
variable{P:Program}{H:Type}{enc:TypeId×Value→H}{w:World}
include P H enc w
theorem trod_fields{base:Nat}{spare:Nat→Bool}{held:Bool}{t:TypeId}{fs:Array Field}{cs:Array Value}{d:DataW H}{p:List MemPlace}(hu:P.underlying t=some (.struct fs))
    (h:DataW.Trod enc P w base spare held t (.agg cs) d p):∀(i:Nat) (f:Field),fs[i]?=some f→∃fuel y,DataW.trod enc P w base spare held fuel f.type ((cs.toList.drop f.offset).take (P.cellsOf f.type))=some y:=by
  obtain ⟨fuel,h⟩:=h;obtain ⟨xs,n,_,_,hl,hxl,hat⟩:=DataW.trod_struct hu h;intro i f hf;have hlt:i<xs.length:=by rw[hxl];exact (Array.getElem?_eq_some_iff.1 hf).1
  have:=hat i f hf
  rw[Y8 hlt]at this;exact ⟨n,_,this⟩
theorem flat_sliceF{held:Bool}{t e:TypeId}{fuel:Nat}{cs:List Value}{x:DataW H×List MemPlace}{ks:List (Option IntKind)}(hu:P.underlying t=some (.slice e))(he:FlatTy P e ks)(hk:0<ks.length)
    (h:DataW.trod enc P w 0 (fun _=>true) held fuel t cs=some x):∃a c els,cs=[.slice a els.length c]∧els.length≤maxLen∧els.length≤c∧(∀x,x∈els→FlatV ks x)∧ArgS (allHp w) ks.length a els:=by
  have hcs:∃a n c,cs=[.slice a n c]:=by
    rcases open_slice hu h with ⟨rfl,_⟩ | ⟨a,len,cap,_,_,_,_,rfl,_⟩
    · exact ⟨_,_,_,rfl⟩
    · exact ⟨_,_,_,rfl⟩
  obtain ⟨a,n,c,rfl⟩:=hcs;obtain ⟨a', c', els,hv,h1,h2,h3,h4⟩:=flat_slice2 (v:=.slice a n c) (d:=x.1) (p:=x.2) hu hk ⟨_,_,_,rfl⟩ ⟨fuel,by simpa [Value.cells] using h⟩;cases hv;exact ⟨_,_,_,rfl,h1,h2,h3,h4⟩
end
end
end Go.SL
namespace Go.Proofs.YtmoeokkelkgnhaaGreat
open Go.SL
open Go.Proofs.Tryz
section
open Go.SL Go.ChangeShapes
def Fld.kind:Fld→Option IntKind
  | .two=>some .i64
  | .lab=>some .i64
  | .spc=>some .i64
  | .w4=>some .u64
  | .w8=>some .u64
  | .flg=>none
theorem Fld.of_cell(f:Fld){ks:List (Option IntKind)}{vs:List Value}(h:FlatV (f.kind::ks) vs):∃n us,vs=f.cell n::us∧f.rg n∧FlatV ks us:=by
 cases f <;> simp only[Fld.kind]at h
 case flg =>
  obtain ⟨b,us,rfl,h2⟩:=h.bool;refine ⟨if b then 1 else 0,us,?_,?_,h2⟩
  ·
   cases b <;> rfl
  ·
   cases b <;> simp[Fld.rg]
 all_goals
  obtain ⟨n,us,rfl,hw,h2⟩:=h.int;refine ⟨n,us,rfl,?_,h2⟩;simp[Lit.wf,IntKind.min,IntKind.max,IntKind.signed,IntKind.bits]at hw;simp only[Fld.rg,RgI];omega
theorem as_El:∀(fs:List Fld) {vs:List Value},FlatV (fs.map Fld.kind) vs→∃e:El fs,vs=cE fs e
  | [],vs,h=>⟨⟨[],rfl,trivial⟩,h.nil⟩
  | f::fs,vs,h=>by
    obtain ⟨n,us,rfl,hr,h⟩:=f.of_cell h;obtain ⟨e,rfl⟩:=as_El fs h;exact ⟨⟨n::e.val,by simp[e.len],⟨hr,e.rg⟩⟩,rfl⟩
theorem arr7{cs:Array Value}(h:cs.size=7):∃a b c d e f g,cs=#[a,b,c,d,e,f,g]:=by
 obtain ⟨l⟩:=cs
 match l,h with
 | [a,b,c,d,e,f,g],_=>exact ⟨a,b,c,d,e,f,g,rfl⟩
theorem as_field(fs:List Fld){H:Type}{enc:TypeId×Value→H}{w:World}{held:Bool}{t e:TypeId}{fuel:Nat}{cs:List Value}{x:DataW H×List MemPlace}{ks:List (Option IntKind)}(hu:prog.underlying t=some (.slice e))(he:FlatTy prog e ks)(hf:ks=fs.map Fld.kind)(hk:0<fs.length)
    (h:DataW.trod enc prog w 0 (fun _=>true) held fuel t cs=some x):∃v,∃l:List (El fs),cs=[v]∧ASl (allHp w) fs.length v (cE fs) l:=by
  subst hf;obtain ⟨a,c,els,rfl,_,_,h3,h4⟩:=flat_sliceF hu he (by simpa using hk) h;obtain ⟨l,rfl,_⟩:=map_of (p:=fun _=>True) (fun y hy=>by obtain ⟨e,he⟩:=as_El fs (h3 y hy);exact ⟨e,he,trivial⟩);rw[List.length_map]at h4;exact ⟨_,l,rfl,a,c,by rw[List.length_map],h4⟩
theorem fd3:FlatTy prog 3 [some .i64]:=FlatTy.int underlying3 (by kernel_rfl)
theorem fd78:FlatTy prog 78 [some .i64,some .i64,some .i64]:=FlatTy.struct (kss:=[[some .i64],[some .i64],[some .i64]]) underlying78 (FlatFs.cons rfl fd3 (FlatFs.cons rfl fd3 (FlatFs.cons rfl fd3 FlatFs.nil))) (by kernel_rfl)
theorem fd61:FlatTy prog 61 [some .i64,some .i64]:=FlatTy.struct (kss:=[[some .i64],[some .i64]]) underlying61 (FlatFs.cons rfl fd3 (FlatFs.cons rfl fd3 FlatFs.nil)) (by kernel_rfl)
theorem fd50:FlatTy prog 50 [some .u64]:=FlatTy.int underlying50 (by kernel_rfl)
theorem fd63:FlatTy prog 63 [some .i64,some .i64,some .i64,some .u64,some .u64,some .i64]:=FlatTy.struct (kss:=[[some .i64],[some .i64],[some .i64],[some .u64],[some .u64],[some .i64]]) underlying63 (FlatFs.cons rfl fd3 (FlatFs.cons rfl fd3 (FlatFs.cons rfl fd3 (FlatFs.cons rfl fd50 (FlatFs.cons rfl fd50 (FlatFs.cons rfl fd3 FlatFs.nil)))))) (by kernel_rfl)
theorem fd91:FlatTy prog 91 [some .i64,some .i64,some .i64,some .i64,some .i64,some .u64,some .u64,some .i64]:=FlatTy.struct (kss:=[[some .i64,some .i64],[some .i64,some .i64,some .i64,some .u64,some .u64,some .i64]]) underlying91 (FlatFs.cons rfl fd61 (FlatFs.cons rfl fd63 FlatFs.nil)) (by kernel_rfl)
theorem fd4:FlatTy prog 4 [none]:=FlatTy.bool underlying4 (by kernel_rfl)
theorem fd79:FlatTy prog 79 [some .i64,some .i64,some .i64,none]:=FlatTy.struct (kss:=[[some .i64],[some .i64],[some .i64],[none]]) underlying79 (FlatFs.cons rfl fd3 (FlatFs.cons rfl fd3 (FlatFs.cons rfl fd3 (FlatFs.cons rfl fd4 FlatFs.nil)))) (by kernel_rfl)
theorem fd118:FlatTy prog 118 [some .i64,some .i64,some .u64]:=FlatTy.struct (kss:=[[some .i64],[some .i64],[some .u64]]) underlying118 (FlatFs.cons rfl fd3 (FlatFs.cons rfl fd3 (FlatFs.cons rfl fd50 FlatFs.nil))) (by kernel_rfl)
theorem fd86:FlatTy prog 86 [some .i64,some .i64,some .i64,some .i64,some .i64,some .u64,some .i64,some .i64]:=FlatTy.struct (kss:=[[some .i64],[some .i64],[some .i64],[some .i64],[some .i64],[some .u64],[some .i64],[some .i64]]) underlying86 (FlatFs.cons rfl fd3 (FlatFs.cons rfl fd3 (FlatFs.cons rfl fd3 (FlatFs.cons rfl fd3 (FlatFs.cons rfl fd3 (FlatFs.cons rfl fd50 (FlatFs.cons rfl fd3 (FlatFs.cons rfl fd3 FlatFs.nil)))))))) (by kernel_rfl)
theorem fd121:FlatTy prog 121 [some .i64,some .i64,some .i64,some .u64]:=FlatTy.struct (kss:=[[some .i64],[some .i64],[some .i64],[some .u64]]) underlying121 (FlatFs.cons rfl fd3 (FlatFs.cons rfl fd3 (FlatFs.cons rfl fd3 (FlatFs.cons rfl fd50 FlatFs.nil)))) (by kernel_rfl)
theorem fd124:FlatTy prog 124 [some .i64,some .i64]:=FlatTy.struct (kss:=[[some .i64],[some .i64]]) underlying124 (FlatFs.cons rfl fd3 (FlatFs.cons rfl fd3 FlatFs.nil)) (by kernel_rfl)
theorem as_desc{H:Type}{enc:TypeId×Value→H}{w:World}{held:Bool}{cs:Array Value}{d:DataW H}{p:List MemPlace}(hc:cs.size=7)(h:DataW.Trod enc prog w 0 (fun _=>true) held 30 (.agg cs) d p):∃(D:Dd) (v1 v2 v3 v4 v5 v6 v7:Value),cs=#[v1,v2,v3,v4,v5,v6,v7]∧DA (allHp w) D v1 v2 v3 v4 v5 v6 v7:=by
 have hF:=trod_fields underlying30 h
 obtain ⟨x1,x2,x3,x4,x5,x6,x7,rfl⟩:=arr7 hc;obtain ⟨f1,y1,h1⟩:=hF 0 _ rfl;have k1:DataW.trod enc prog w 0 (fun _=>true) held f1 22 (List.take (prog.cellsOf 22) (List.drop 0 [x1,x2,x3,x4,x5,x6,x7]))=some y1:=h1
 rw[show prog.cellsOf 22=1 by kernel_rfl]at k1;obtain ⟨v1,l1,e1,g1⟩:=as_field (cs:=[x1]) fsO underlying22 fd78 rfl (by decide) k1;cases e1;obtain ⟨f2,y2,h2⟩:=hF 1 _ rfl;have k2:DataW.trod enc prog w 0 (fun _=>true) held f2 23 (List.take (prog.cellsOf 23) (List.drop 1 [x1,x2,x3,x4,x5,x6,x7]))=some y2:=h2
 rw[show prog.cellsOf 23=1 by kernel_rfl]at k2;obtain ⟨v2,l2,e2,g2⟩:=as_field (cs:=[x2]) fsP underlying23 fd91 rfl (by decide) k2;cases e2;obtain ⟨f3,y3,h3⟩:=hF 2 _ rfl;have k3:DataW.trod enc prog w 0 (fun _=>true) held f3 24 (List.take (prog.cellsOf 24) (List.drop 2 [x1,x2,x3,x4,x5,x6,x7]))=some y3:=h3
 rw[show prog.cellsOf 24=1 by kernel_rfl]at k3;obtain ⟨v3,l3,e3,g3⟩:=as_field (cs:=[x3]) fsM underlying24 fd79 rfl (by decide) k3;cases e3;obtain ⟨f4,y4,h4⟩:=hF 3 _ rfl;have k4:DataW.trod enc prog w 0 (fun _=>true) held f4 25 (List.take (prog.cellsOf 25) (List.drop 3 [x1,x2,x3,x4,x5,x6,x7]))=some y4:=h4
 rw[show prog.cellsOf 25=1 by kernel_rfl]at k4;obtain ⟨v4,l4,e4,g4⟩:=as_field (cs:=[x4]) fsF underlying25 fd118 rfl (by decide) k4;cases e4;obtain ⟨f5,y5,h5⟩:=hF 4 _ rfl;have k5:DataW.trod enc prog w 0 (fun _=>true) held f5 26 (List.take (prog.cellsOf 26) (List.drop 4 [x1,x2,x3,x4,x5,x6,x7]))=some y5:=h5
 rw[show prog.cellsOf 26=1 by kernel_rfl]at k5;obtain ⟨v5,l5,e5,g5⟩:=as_field (cs:=[x5]) fsT underlying26 fd86 rfl (by decide) k5;cases e5;obtain ⟨f6,y6,h6⟩:=hF 5 _ rfl;have k6:DataW.trod enc prog w 0 (fun _=>true) held f6 27 (List.take (prog.cellsOf 27) (List.drop 5 [x1,x2,x3,x4,x5,x6,x7]))=some y6:=h6
 rw[show prog.cellsOf 27=1 by kernel_rfl]at k6;obtain ⟨v6,l6,e6,g6⟩:=as_field (cs:=[x6]) fsW underlying27 fd121 rfl (by decide) k6;cases e6;obtain ⟨f7,y7,h7⟩:=hF 6 _ rfl;have k7:DataW.trod enc prog w 0 (fun _=>true) held f7 28 (List.take (prog.cellsOf 28) (List.drop 6 [x1,x2,x3,x4,x5,x6,x7]))=some y7:=h7
 rw[show prog.cellsOf 28=1 by kernel_rfl]at k7;obtain ⟨v7,l7,e7,g7⟩:=as_field (cs:=[x7]) fsS underlying28 fd124 rfl (by decide) k7;cases e7;exact ⟨⟨l1,l2,l3,l4,l5,l6,l7⟩,_,_,_,_,_,_,_,rfl,⟨g1,g2,g3,g4,g5,g6,g7⟩⟩
end
end Go.Proofs.YtmoeokkelkgnhaaGreat
