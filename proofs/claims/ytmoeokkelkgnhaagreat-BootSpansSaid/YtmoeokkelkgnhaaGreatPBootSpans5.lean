/- BootSpans. Laid together by pack.py out of the texts in wip. -/
import Derived.Test.YtmoeokkelkgnhaaGreatPBootSpans4
set_option linter.unusedVariables false
set_option linter.unusedSimpArgs false
set_option linter.unusedSectionVars false
set_option maxHeartbeats 64000000
namespace Go.Proofs.YtmoeokkelkgnhaaGreat
open Go.SL
open Go.Proofs.Tryz
section
section
variable(k:Kn)(A:KA)(ad:Nat→Ad)(kb:Nat)(L:Hp)(hK:KH k A ad kb L)(hw:KW k)(n:Int)
include k A ad kb L hK hw n
theorem tr_kFreeS{i:Nat}(hi:k.ix n=some i):TrR prog 84 [pV kb,.int .i64 n] (L) (.bool false):=by
 obtain ⟨Iq,Lc,Ls,Lt,E,hI,hC,hS,hT,hE,rfl⟩:=hK;obtain ⟨sb,tb,Lx,Ly,hSx,hTx,rfl⟩:=hC;refine YR func84 ntmps84 fun W F=>?_
 refine zq [3,4,1,2,5,3,4,0,9,6,8,0] ?_;refine Yp (pv_lookup_i (r:=pV (ad i).ob) n rfl rfl ((kv_get k ad n).trans (by rw[hi];rfl))) ?_;refine zq [59,0,13,13,13,13,13,13,13,13,13,13,13,26,1,2,5,10] ?_;exact zr ⟨rfl,rfl⟩
theorem tr_kFreeN(hi:k.ix n=none):TrR prog 84 [pV kb,.int .i64 n] (L) (.bool (decide (dradix k.p.l n=0))):=by
 obtain ⟨Iq,Lc,Ls,Lt,E,hI,hC,hS,hT,hE,rfl⟩:=hK;obtain ⟨sb,tb,Lx,Ly,hSx,hTx,rfl⟩:=hC;refine YR func84 ntmps84 fun W F=>?_
 simp only[Y1,Y7];refine zq [3,4,1,2,5,3,4,0,9,6,8,0] ?_;refine Yp (pv_lookup_i (r:=.pointer none) n rfl rfl ((kv_get k ad n).trans (by rw[hi];rfl))) ?_;refine zq [59,0,21,57,50,51,57,50,50,51,21] ?_;refine Yog (ef_callr (sf_radix hSx n) rfl rfl) ?_;refine Yg (pv_eql rfl rfl) ?_;refine zq [24,1,2,5,10] ?_;exact zr ⟨rfl,rfl⟩
theorem tr_kFree:TrR prog 84 [pV kb,.int .i64 n] L (.bool (k.free n)):=by
 cases hi:k.ix n with
 | none=>rw[show k.free n=decide (dradix k.p.l n=0) by unfold Kn.free;rw[hi];rfl];exact tr_kFreeN k A ad kb L hK hw n hi
 | some i=>rw[show k.free n=false by unfold Kn.free;rw[hi];rfl];exact tr_kFreeS k A ad kb L hK hw n hi
end
theorem tr_kTaken(k:Kn)(A:KA)(ad:Nat→Ad)(kb:Nat)(E:Hp)(hE:EnH k.ar ad E)(hw:KW k)(kd:Int)(q:Int×Int):TrR prog 86 [pV kb,.int .i64 kd,slotV q] ((kb,kerO A k.wi)::(A.ob,mapO encI (kvM ad k.mp) k.ck)::E) (.bool (k.taken kd q)):=by
 refine YR func86 ntmps86 fun W F=>?_
 refine Wr ?_;refine zB fun b1=>?_
 refine zq [1,2,5,3,3,4,0,9,6,8] ?_;refine Yq (ef_range rfl rfl) fun b2=>?_
 refine zq [2,5,20] ?_;refine YM (σ:=Array Nat×Nat) [(1,_),(5,_),(14,_)] (fun s=>[]) (fun s=>(b2,.mapIter (some A.ob) k.ck s.1 s.2)::(b1,.cells [.int .i64 q.1,.int .i64 q.2].toArray 55)::(kb,kerO A k.wi)::(A.ob,mapO encI (kvM ad k.mp) k.ck)::(E++F)) (fun s=>seenI k kd q s.1∧k.ck≤s.2) (fun s=>unseen k s.1) (#[],k.ck) ⟨seen_start k kd q,Nat.le_refl _⟩ ?_;rintro ⟨seen,c0⟩ KK ⟨hI,hc0⟩ hK;dsimp only[Y1,Y2]at hK ⊢;dsimp only at hI hc0 ⊢;refine Wr ?_;refine Ops.ef rfl (ef_next rfl (by intro e he;obtain ⟨n,i,st,hm,rfl⟩:=kv_of he;exact (hw.mp _ hm).2.2.2) hc0 (fun o' => inferInstance) rfl) ?_;rintro _ _ ⟨q1,ky1,v1,s21,c21,hd1,rfl,rfl⟩;refine Yp (pv_nx0 rfl) ?_;refine zq [2,5,3] ?_;refine Wp.cond_t rfl (fun h1=>?_) (fun h1=>?_)
 ·
  have hq1:q1=true:=by assumption
  obtain ⟨e,hem,hen,rfl,rfl,rfl⟩:∃e,e∈kvM ad k.mp∧seen.contains e.2.2=false∧v1=e.2.1∧s21=seen.push e.2.2∧c21=k.ck:=by rcases hd1 with ⟨_,h⟩ | ⟨h,_⟩;exact h;rw[h]at hq1;cases hq1
  obtain ⟨n,i,st,hm,rfl⟩:=kv_of hem;obtain ⟨en,he⟩:∃en,k.ar[i]?=some en:=⟨_,Y8 (hw.mp _ hm).2.2.1⟩
  haveI hBo:=hE.ob he
  obtain ⟨R0,hR0⟩:=(hE.tb he).take;obtain ⟨f,hme,hg,ht⟩:=kind_of en.th (ad i).tb (ad i).nb
  haveI:=hme;haveI:=hg;haveI:=hR0
  dsimp only at hen;refine zq [11,5,20,3,4] ?_;refine Yp (pv_entry (n,.pointer (some ⟨(ad i).ob,0,none⟩),st) rfl hem (kv_nd hw.q.2)) ?_;refine zq [7,1,2,5,3,4,0,9,6,8] ?_;refine Yo (ef_invr (ht) rfl rfl) ?_;refine zq [1,2,5,20,3] ?_;refine AnyH.start ((b1,.cells [.int .i64 q.1,.int .i64 q.2].toArray 55)::E) 7 rfl ?_;refine zd [0,10,1,1,2,3,3,0,4,10] ?_;refine YA 5 ?_;refine Yu rfl rfl (ef_callr (tr_spApart q en.sp) rfl rfl) ?_;refine zd [6,5] ?_;refine YD ?_;refine Ends.seq ?_;refine Wp.cond_t rfl (fun h2=>?_) (fun h2=>?_)
  ·
   refine zq [11,19,19,49] ?_;have hcl:clashI k kd q i=false:=by unfold clashI;rw[he];simp_all [clash]
   refine Yy (hK (seen.push st,k.ck) ⟨seen_push hw.q.2 hI hm hcl,Nat.le_refl _⟩ (unseen_push k seen hm hen))
  refine zq [3,4,0,22,0] ?_;refine Yc rfl rfl (fun hg=>pv_move rfl) ?_;refine Yc rfl rfl (fun hg=>Ys 35 rfl hg (pv_eql rfl rfl)) ?_;refine zq [46,1,2,5] ?_;refine Wp.cond_t rfl (fun h3=>?_) (fun h3=>?_)
  ·
   refine zq [11,19,19,49] ?_;have hcl:clashI k kd q i=false:=by unfold clashI;rw[he];simp_all [clash]
   refine Yy (hK (seen.push st,k.ck) ⟨seen_push hw.q.2 hI hm hcl,Nat.le_refl _⟩ (unseen_push k seen hm hen))
  refine Wp.seq ?_;refine AnyH.start ((b1,.cells [.int .i64 q.1,.int .i64 q.2].toArray 55)::E) 11 rfl ?_;refine zd [0,1,1,7,2,1] ?_;refine AnyH.split (t:=41) rfl (fun h4=>?_) (fun h4=>?_)
  ·
   refine Yt 3 rfl (pv_loadK [_,_] rfl rfl rfl ⟨rfl,rfl,trivial⟩) ?_;refine Yt 4 rfl (pv_move rfl) ?_;refine Yt 5 rfl (pv_nilCheck rfl) ?_;refine Yt 6 rfl (pv_fieldAddr0 rfl rfl) ?_;refine Yt 7 rfl (pv_loadK [_,_] rfl rfl rfl ⟨rfl,rfl,trivial⟩) ?_;refine YA 8 ?_;refine Turn.ef rfl ⟨_,_,rfl,rfl,rfl⟩ (ef_callr (tr_spIs q en.sp) rfl rfl) ?_ ?_ <;> rintro _ _ ⟨rfl,rfl⟩
   ·infer_instance
   refine Yh 9 rfl (pv_pick_true rfl rfl) ?_;refine zd [10,5] ?_;refine YD ?_;refine Ends.seq ?_;refine Wp.cond_t rfl (fun h5=>?_) (fun h5=>?_)
   ·
    refine zq [11,19,19,49] ?_;have hcl:clashI k kd q i=false:=by unfold clashI;rw[he];simp_all [clash]
    refine Yy (hK (seen.push st,k.ck) ⟨seen_push hw.q.2 hI hm hcl,Nat.le_refl _⟩ (unseen_push k seen hm hen))
   refine Wp.seq ?_;refine AnyH.start ((b1,.cells [.int .i64 q.1,.int .i64 q.2].toArray 55)::E) 11 rfl ?_;refine zd [0,1,1,7,2,1] ?_;refine AnyH.split (t:=52) rfl (fun h6=>?_) (fun h6=>?_)
   ·
    refine Yt 3 rfl (pv_move rfl) ?_;refine Yt 4 rfl (pv_nilCheck rfl) ?_;refine Yt 5 rfl (pv_fieldAddr0 rfl rfl) ?_;refine Yt 6 rfl (pv_loadK [_,_] rfl rfl rfl ⟨rfl,rfl,trivial⟩) ?_;refine Yt 7 rfl (pv_loadK [_,_] rfl rfl rfl ⟨rfl,rfl,trivial⟩) ?_;refine YA 8 ?_;refine Turn.ef rfl ⟨_,_,rfl,rfl,rfl⟩ (ef_callr (tr_spIs en.sp q) rfl rfl) ?_ ?_ <;> rintro _ _ ⟨rfl,rfl⟩
    ·infer_instance
    refine Yh 9 rfl (pv_pick_true rfl rfl) ?_;refine zd [10,5] ?_;refine YD ?_;refine Ends.seq ?_;refine Wp.cond_t rfl (fun h7=>?_) (fun h7=>?_)
    ·
     refine zq [11,19,19,49] ?_;have hcl:clashI k kd q i=false:=by unfold clashI;rw[he];simp_all [clash]
     refine Yy (hK (seen.push st,k.ck) ⟨seen_push hw.q.2 hI hm hcl,Nat.le_refl _⟩ (unseen_push k seen hm hen))
    refine zq [3,4,1,2,5,10,15,15,12,15,12] ?_;have hcl:clashI k kd q i=true:=by unfold clashI;rw[he];simp_all [clash]
    have hfin:k.taken kd q=true:=List.any_eq_true.2 ⟨_,hm,hcl⟩
    exact zs (h:=⟨by rw[hfin],rfl⟩)
   refine Yz 3 rfl ?_;refine Yz 4 rfl ?_;refine Yz 5 rfl ?_;refine Yz 6 rfl ?_;refine Yz 7 rfl ?_;refine Yz 8 rfl ?_;refine Yh 9 rfl (pv_pick_false rfl rfl) ?_;refine zd [10,5] ?_;refine YD ?_;refine zq [5,17,3,4,1,2,5,10,15,15,12,15,12] ?_;have hcl:clashI k kd q i=true:=by unfold clashI;rw[he];simp_all [clash]
   have hfin:k.taken kd q=true:=List.any_eq_true.2 ⟨_,hm,hcl⟩
   exact zs (h:=⟨by rw[hfin],rfl⟩)
  refine Yz 3 rfl ?_;refine Yz 4 rfl ?_;refine Yz 5 rfl ?_;refine Yz 6 rfl ?_;refine Yz 7 rfl ?_;refine Yz 8 rfl ?_;refine Yh 9 rfl (pv_pick_false rfl rfl) ?_;refine zd [10,5] ?_;refine YD ?_;refine zq [5,17,3] ?_;refine AnyH.start ((b1,.cells [.int .i64 q.1,.int .i64 q.2].toArray 55)::E) 11 rfl ?_;refine zd [0,1,1,7,2,1] ?_;refine AnyH.split (t:=52) rfl (fun h8=>?_) (fun h8=>?_)
  ·
   refine Yt 3 rfl (pv_move rfl) ?_;refine Yt 4 rfl (pv_nilCheck rfl) ?_;refine Yt 5 rfl (pv_fieldAddr0 rfl rfl) ?_;refine Yt 6 rfl (pv_loadK [_,_] rfl rfl rfl ⟨rfl,rfl,trivial⟩) ?_;refine Yt 7 rfl (pv_loadK [_,_] rfl rfl rfl ⟨rfl,rfl,trivial⟩) ?_;refine YA 8 ?_;refine Turn.ef rfl ⟨_,_,rfl,rfl,rfl⟩ (ef_callr (tr_spIs en.sp q) rfl rfl) ?_ ?_ <;> rintro _ _ ⟨rfl,rfl⟩
   ·infer_instance
   refine Yh 9 rfl (pv_pick_true rfl rfl) ?_;refine zd [10,5] ?_;refine YD ?_;refine Ends.seq ?_;refine Wp.cond_t rfl (fun h9=>?_) (fun h9=>?_)
   ·
    refine zq [11,19,19,49] ?_;have hcl:clashI k kd q i=false:=by unfold clashI;rw[he];simp_all [clash]
    refine Yy (hK (seen.push st,k.ck) ⟨seen_push hw.q.2 hI hm hcl,Nat.le_refl _⟩ (unseen_push k seen hm hen))
   refine zq [3,4,1,2,5,10,15,15,12,15,12] ?_;have hcl:clashI k kd q i=true:=by unfold clashI;rw[he];simp_all [clash]
   have hfin:k.taken kd q=true:=List.any_eq_true.2 ⟨_,hm,hcl⟩
   exact zs (h:=⟨by rw[hfin],rfl⟩)
  refine Yz 3 rfl ?_;refine Yz 4 rfl ?_;refine Yz 5 rfl ?_;refine Yz 6 rfl ?_;refine Yz 7 rfl ?_;refine Yz 8 rfl ?_;refine Yh 9 rfl (pv_pick_false rfl rfl) ?_;refine zd [10,5] ?_;refine YD ?_;refine zq [5,17,3,4,1,2,5,10,15,15,12,15,12] ?_;have hcl:clashI k kd q i=true:=by unfold clashI;rw[he];simp_all [clash]
  have hfin:k.taken kd q=true:=List.any_eq_true.2 ⟨_,hm,hcl⟩
  exact zs (h:=⟨by rw[hfin],rfl⟩)
 have hq1:q1=false:=by assumption
 have hall:∀e,e∈kvM ad k.mp→seen.contains e.2.2=true:=by rcases hd1 with ⟨h,_⟩ | ⟨_,h,_⟩;(rw[h]at hq1;cases hq1);exact h
 have hfin:k.taken kd q=false:=seen_all hI (fun e he=>hall _ (List.mem_map.2 ⟨e,he,rfl⟩))
 refine zq [41,16,16,40,5,3,4,1,2,5,10] ?_;exact zs (h:=⟨by rw[hfin],rfl⟩)
def freshT (kd:Int):Th:=if kd=1 then .unt 0 else if kd=2 then .node else if kd=3 then .thr (newT 0 0) .zero (-1) (-1) else if kd=4 then .ep ⟨0,[]⟩ else if kd=5 then .nt ⟨0,[],[]⟩ else if kd=8 then .spc else .page kd false (-1) 0
def freshP (p:PS) (n kd size:Int):PS:=if kd=2 then (mNode p n size).2 else p
section
variable(kb:Nat)(n size:Int)
include kb n size
theorem tr_kFreshUnt:Tr prog 88 [pV kb,.int .i64 n,.int .i64 1,.int .i64 size] ([]) (fun u L' => ∃b,u=.iface 166 (pV b)∧L' = (b,.cells [.int .i64 0].toArray 168)::[]):=by
 refine YR func88 ntmps88 fun W F=>?_
 refine zq [3,4,1,2,5,3,3,4,0,2,5,20,3,4,66,1,2,5,18,3,4,23] ?_;refine zB fun b1=>?_
 refine zq [74,1,2,5,10,15,12] ?_;exact zs (L' := (b1,.cells [.int .i64 0].toArray 168)::[]) (h:=⟨b1,rfl,rfl⟩)
theorem tr_kFreshSpc:Tr prog 88 [pV kb,.int .i64 n,.int .i64 8,.int .i64 size] ([]) (fun u L' => ∃b,u=.iface 331 (pV b)∧L' = (b,.cells [].toArray 332)::[]):=by
 refine YR func88 ntmps88 fun W F=>?_
 refine zq [3,4,1,2,5,3,3,4,0,2,5,20,3,4,65,1,2,5,17,3,4,65,1,2,5,17,3,4,65,1,2,5,17,3,4,65,1,2,5,17,3,4,65,1,2,5,17,3,4,66,1,2,5,18,3,4,23] ?_;refine zB fun b1=>?_
 refine zq [74,1,2,5,10,15,12] ?_;exact zs (L' := (b1,.cells [].toArray 332)::[]) (h:=⟨b1,rfl,rfl⟩)
theorem tr_kFreshPage(kd:Int)(h1k:kd≠1∧kd≠2∧kd≠3∧kd≠4∧kd≠5∧kd≠8):Tr prog 88 [pV kb,.int .i64 n,.int .i64 kd,.int .i64 size] ([]) (fun u L' => ∃b,u=.iface 169 (pV b)∧L' = (b,pageO kd false (-1) 0)::[]):=by
 refine YR func88 ntmps88 fun W F=>?_
 refine zq [3,4,1,2,5,3,3,4,0,2,5,20,3,4,65,1,2,5,17,3,4,65,1,2,5,17,3,4,65,1,2,5,17,3,4,65,1,2,5,17,3,4,65,1,2,5,17,3,4,65,1,2,5,17,11,19,5,3,4,0,23] ?_;refine zB fun b1=>?_
 refine zq [74,1,2,5,10] ?_;exact zs (L' := (b1,pageO kd false (-1) 0)::[]) (h:=⟨b1,rfl,rfl⟩)
theorem tr_kFreshEp:Tr prog 88 [pV kb,.int .i64 n,.int .i64 4,.int .i64 size] ([]) (fun u L' => ∃b nb J,u=.iface 255 (pV b)∧EpH ⟨0,[]⟩ nb J∧L' = (b,.cells [pV nb].toArray 260)::J):=by
 refine YR func88 ntmps88 fun W F=>?_
 refine zq [3,4,1,2,5,3,3,4,0,2,5,20,3,4,65,1,2,5,17,3,4,65,1,2,5,17,3,4,65,1,2,5,17,3,4,66,1,2,5,18,3,4] ?_;refine zD tr_epNew ?_;rintro _ J1 ⟨nb1,rfl,hq1⟩;refine Ops.app ?_;refine zq [23] ?_;refine zB fun b1=>?_
 refine zq [74,1,2,5,10,15,12] ?_;exact zs (L' := (b1,.cells [pV nb1].toArray 260)::J1) (h:=⟨b1,nb1,J1,rfl,hq1,rfl⟩)
theorem tr_kFreshNt:Tr prog 88 [pV kb,.int .i64 n,.int .i64 5,.int .i64 size] ([]) (fun u L' => ∃b nb J,u=.iface 261 (pV b)∧NtH ⟨0,[],[]⟩ nb J∧L' = (b,.cells [pV nb].toArray 266)::J):=by
 refine YR func88 ntmps88 fun W F=>?_
 refine zq [3,4,1,2,5,3,3,4,0,2,5,20,3,4,65,1,2,5,17,3,4,65,1,2,5,17,3,4,65,1,2,5,17,3,4,65,1,2,5,17,3,4,66,1,2,5,18,3,4] ?_;refine zD tr_ntNew ?_;rintro _ J1 ⟨nb1,rfl,hq1⟩;refine Ops.app ?_;refine zq [23] ?_;refine zB fun b1=>?_
 refine zq [74,1,2,5,10,15,12] ?_;exact zs (L' := (b1,.cells [pV nb1].toArray 266)::J1) (h:=⟨b1,nb1,J1,rfl,hq1,rfl⟩)
theorem tr_kFreshThr:Tr prog 88 [pV kb,.int .i64 n,.int .i64 3,.int .i64 size] ([]) (fun u L' => ∃b,u=.iface 172 (pV b)∧L' = (b,thrO ⟨0,0,0,false,-1,0,0,0,.zero⟩ .zero (-1) (-1))::[]):=by
 refine YR func88 ntmps88 fun W F=>?_
 refine zq [3,4,1,2,5,3,3,4,0,2,5,20,3,4,65,1,2,5,17,3,4,65,1,2,5,17,3,4,66,1,2,5,18,3,4] ?_;refine zC ((tr_tNew 0 0).eq (r' := .tuple #[(⟨0,0,0,false,-1,0,0,0,.zero⟩:ThrM).v,.int .i64 0]) (by rw[show newTM 0 0=(newT 0 0,0) by decide +kernel];rfl)) ?_;refine zq [0,7,7] ?_;refine zA fun b1=>?_
 refine zq [14,1,2,5,3,4,31,23] ?_;refine zB fun b2=>?_
 refine zq [74,1,2,5,10,15,12] ?_;exact zs (L' := (b2,thrO ⟨0,0,0,false,-1,0,0,0,.zero⟩ .zero (-1) (-1))::[]) (h:=⟨b2,rfl,rfl⟩)
end
theorem tr_kFreshNode(k:Kn)(A:KA)(ad:Nat→Ad)(kb:Nat)(L:Hp)(hK:KH k A ad kb L)(hw:KW k)(n size:Int):Tr prog 88 [pV kb,.int .i64 n,.int .i64 2,.int .i64 size] (L) (fun u L' => ∃b L1,u=.iface 326 (pV b)∧KH { k with p:=(mNode k.p n size).2 } A ad kb L1∧L' = (b,.cells [].toArray 327)::L1):=by
 obtain ⟨Iq,Lc,Ls,Lt,E,hI,hC,hS,hT,hE,rfl⟩:=hK;obtain ⟨sb,tb,Lx,Ly,hSx,hTx,rfl⟩:=hC;refine YR func88 ntmps88 fun W F=>?_
 simp only[Y1,Y7];refine zq [3,4,1,2,5,3,3,4,0,2,5,20,3,4,65,1,2,5,17,3,4,66,1,2,5,18,3,4,0,9,6,8,9,6] ?_;refine Yp (pv_loadK [_] rfl rfl rfl ⟨rfl,trivial⟩) ?_;refine zq [0,0] ?_;refine zD (tr_smNode k.p.l sb Lx hSx n size) ?_;rintro _ J1 ⟨rfl,hs1⟩;refine Ops.app ?_;refine zq [2,5,3,4,23] ?_;refine zB fun b1=>?_
 refine zq [74,1,2,5,10,15,12] ?_;exact zs (L' := (b1,.cells [].toArray 327)::(kb,kerO A k.wi)::(A.ob,mapO encI (kvM ad k.mp) k.ck)::(A.mb,.cells [.slice (some ⟨A.wb,0,none⟩) k.ws.length k.ws.length].toArray 312)::(A.wb,.cells (wordsC k.ws).toArray 50)::(Iq++(cBlk A.cb sb tb::(J1++(Ly++(Ls++(Lt++E))))))) (h:=⟨b1,_,rfl,⟨Iq,_,Ls,Lt,E,hI,⟨sb,tb,J1,Ly,hs1,hTx,rfl⟩,hS,hT,hE,by simp only[Y1,Y7]⟩,rfl⟩)
theorem fresh_up{k:Kn}{A:KA}{ad:Nat→Ad}{kb:Nat}{L:Hp}(hK:KH k A ad kb L){f:Nat}{args:List Value}{th:Th}(h:Tr prog f args [] (fun u L' => ∃b nb J,u=.iface th.ty (pV b)∧th.inn nb J∧L' = (b,th.obj nb)::J)) :
    Tr prog f args L (fun u L' => ∃tb nb J L1,u=.iface th.ty (pV tb)∧th.inn nb J∧KH k A ad kb L1∧L' = (tb,th.obj nb)::(J++L1)) :=
  (h.frame (M:=L) (G:=L) (by simp)).mono (by
    rintro v L' ⟨L1,⟨b,nb,J,rfl,hi,rfl⟩,rfl⟩;exact ⟨b,nb,J,L,rfl,hi,hK,by simp⟩)
theorem tr_kFresh(k:Kn)(A:KA)(ad:Nat→Ad)(kb:Nat)(L:Hp)(hK:KH k A ad kb L)(hw:KW k)(n kd size:Int):Tr prog 88 [pV kb,.int .i64 n,.int .i64 kd,.int .i64 size] L (fun u L' => ∃tb nb J L1,u=.iface (freshT kd).ty (pV tb)∧(freshT kd).inn nb J∧KH { k with p:=freshP k.p n kd size } A ad kb L1∧L' = (tb,(freshT kd).obj nb)::(J++L1)):=by
 by_cases e2:kd=2
 ·
  subst e2;refine (tr_kFreshNode k A ad kb L hK hw n size).mono ?_;rintro v L' ⟨b,L1,rfl,h1,rfl⟩;exact ⟨b,0,[],L1,rfl,rfl,h1,rfl⟩
 rw[show freshP k.p n kd size=k.p from if_neg e2];refine fresh_up hK ?_
 by_cases e1:kd=1
 ·
  subst e1;refine (tr_kFreshUnt kb n size).mono ?_;rintro v L' ⟨b,rfl,rfl⟩;exact ⟨b,0,[],rfl,rfl,rfl⟩
 by_cases e3:kd=3
 ·
  subst e3;refine (tr_kFreshThr kb n size).mono ?_;rintro v L' ⟨b,rfl,rfl⟩;exact ⟨b,0,[],rfl,rfl,rfl⟩
 by_cases e4:kd=4
 ·
  subst e4;refine (tr_kFreshEp kb n size).mono ?_;rintro v L' ⟨b,nb,J,rfl,h,rfl⟩;exact ⟨b,nb,J,rfl,h,rfl⟩
 by_cases e5:kd=5
 ·
  subst e5;refine (tr_kFreshNt kb n size).mono ?_;rintro v L' ⟨b,nb,J,rfl,h,rfl⟩;exact ⟨b,nb,J,rfl,h,rfl⟩
 by_cases e8:kd=8
 ·
  subst e8;refine (tr_kFreshSpc kb n size).mono ?_;rintro v L' ⟨b,rfl,rfl⟩;exact ⟨b,0,[],rfl,rfl,rfl⟩
 have ef:freshT kd=.page kd false (-1) 0:=by
  unfold freshT;rw[if_neg e1,if_neg e2,if_neg e3,if_neg e4,if_neg e5,if_neg e8]
 rw[ef];refine (tr_kFreshPage kb n size kd ⟨e1,e2,e3,e4,e5,e8⟩).mono ?_;rintro v L' ⟨b,rfl,rfl⟩;exact ⟨b,0,[],rfl,rfl,rfl⟩
def bitsE (kd size b:Int):Int:=if (bitsU kd size).2=0∧(bitsU kd size).1≠b then 1 else (bitsU kd size).2
def spanE (k:Kn) (kd size:Int) (q:Int×Int):Int:=if bitsE kd size q.2=0 then checkS q k.ws.length else bitsE kd size q.2
def createE (k:Kn) (n kd:Int) (q:Int×Int) (size:Int):Int :=
  if n<0∨n≥64 then 1 else if k.free n=false then 4 else if spanE k kd size q≠0 then spanE k kd size q else if k.taken kd q=true then 7 else 0
def Kn.made (k:Kn) (n kd:Int) (q:Int×Int) (size:Int):Kn :=
  { k with ws:=if kd≠1 then memZero k.ws q.1 (pw q.2) else k.ws,p:=freshP k.p n kd size,ar:=k.ar++[⟨freshT kd,q⟩],mp:=k.mp++[(n,k.ar.length,k.ck)],ck:=k.ck+1 }
theorem create_facts{k:Kn}{n kd size:Int}{q:Int×Int}(h:createE k n kd q size=0) :
    ¬(n<0∨n≥64)∧k.free n=true∧(bitsU kd size).2=0∧(bitsU kd size).1=q.2∧checkS q k.ws.length=0∧k.taken kd q=false:=by
  unfold createE at h
  split at h
  · cases h
  · rename_i h1
    split at h
    · cases h
    · rename_i h2
      split at h
      · rename_i h3;exact absurd h h3
      · rename_i h3
        split at h
        · cases h
        · rename_i h4
          have h5:spanE k kd size q=0:=Decidable.of_not_not h3
          unfold spanE at h5
          split at h5
          · rename_i h6
            unfold bitsE at h6
            split at h6
            · cases h6
            · rename_i h7
              exact ⟨h1,by simpa using h2,h6,Decidable.of_not_not (fun h8=>h7 ⟨h6,h8⟩),h5,by simpa using h4⟩
          · rename_i h6;exact absurd h5 h6
theorem free_ix{k:Kn}{n:Int}(h:k.free n=true):k.ix n=none:=by
 unfold Kn.free at h;rw[Bool.and_eq_true]at h;exact Option.isNone_iff_eq_none.1 h.1
theorem ix_none{k:Kn}{n:Int}(h:k.ix n=none):∀e,e∈k.mp→n≠e.1:=by
 unfold Kn.ix at h;rw[Option.map_eq_none_iff,List.find?_eq_none]at h;intro e he;have:=h e he;simpa using this
theorem mput_fresh{n:Int}{v:Value}{t:Nat}:∀{l:List (Int×Value×Nat)},(∀e,e∈l→n≠e.1)→mput n v t l=l++[(n,v,t)]∧mget n l=none
  | [],_=>⟨rfl,rfl⟩
  | e::l,h=>by
    obtain ⟨h1,h2⟩:=mput_fresh (n:=n) (v:=v) (t:=t) (l:=l) (fun x hx=>h x (List.mem_cons_of_mem _ hx));have h3:=h e (List.mem_cons_self ..)
    unfold mput mget;rw[if_neg h3,if_neg h3,h1];exact ⟨rfl,h2⟩
theorem kv_more{k:Kn}(hw:KW k){n:Int}(hi:k.ix n=none)(ad:Nat→Ad)(a:Ad):mput n (pV a.ob) k.ck (kvM ad k.mp)=kvM (fset ad k.ar.length a) (k.mp++[(n,k.ar.length,k.ck)])∧mclk n (kvM ad k.mp) k.ck=k.ck+1:=by
 have hne:∀e,e∈kvM ad k.mp→n≠e.1:=fun e he=>by
  obtain ⟨m,i,st,hm,rfl⟩:=kv_of he;exact ix_none hi _ hm
 obtain ⟨h1,h2⟩:=mput_fresh (v:=pV a.ob) (t:=k.ck) hne;refine ⟨?_,by unfold mclk;rw[h2];rfl⟩;rw[h1];unfold kvM;rw[List.map_append]
 congr 1
 ·
  refine List.map_congr_left (fun e he=>?_);rw[fset_ne (by have:=(hw.mp e he).2.2.1;omega)]
 simp[fset_same]
theorem check_in{q:Int×Int}{N:Nat}(h:checkS q N=0):0≤q.1∧0≤q.2∧q.2≤16∧q.1+pw q.2≤N:=by
 unfold checkS at h
 split at h
 ·
  cases h
 rename_i h1
 have h2:inRangeS q:=Decidable.of_not_not h1
 unfold inRangeS at h2
 split at h
 ·
  cases h
 split at h
 ·
  cases h
 rename_i h3
 unfold endS at h3;omega
theorem tr_memZeroX(ws:List Int)(mb wb:Nat)(a n:Int)(hN:ws.length≤65536)(h1:0≤a)(h2:0<n)(h3:a+n≤ws.length):Tr prog 87 [memP mb,.int .i64 a,.int .i64 n] ((mb,.cells [.slice (some ⟨wb,0,none⟩) ws.length ws.length].toArray 312)::(wb,.cells (wordsC ws).toArray 50)::[]) (fun u L' => u=.int .i64 0∧L' = (mb,.cells [.slice (some ⟨wb,0,none⟩) ws.length ws.length].toArray 312)::(wb,.cells (wordsC (memZero ws a n)).toArray 50)::[]):=by
 obtain ⟨x,rfl⟩:∃x:Nat,a=x:=⟨a.toNat,by omega⟩;obtain ⟨y,rfl⟩:∃y:Nat,n=y:=⟨n.toNat,by omega⟩;have:=tr_memZero ws mb wb ws.length x y rfl hN (by omega) (by omega)
 rw[show memZero ws (x:Int) (y:Int)=zeroW ws x y by
  unfold memZero;rw[if_pos (by unfold memIn;omega)];rfl]
 exact this
theorem KH_more{k:Kn}{A:KA}{ad:Nat→Ad}{kb:Nat}{Iq Lc Ls Lt E:Hp}(hw:KW k)(hI:IrqH k.q A.ib Iq){p:PS}(hC:CapsH k.nk p A.cb Lc)(hS:SchH k.T k.e k.lf k.L A.sb Ls)(hT:TlbH k.tl A.tb Lt)(hE:EnH k.ar ad E){n kd size:Int}{q:Int×Int}(hp:p=freshP k.p n kd size)(hi:k.ix n=none)
    {ws:List Int} (hws:ws=if kd≠1 then memZero k.ws q.1 (pw q.2) else k.ws) (ob tb nb:Nat) {J:Hp} (hJ:(freshT kd).inn nb J) :
    KH (k.made n kd q size) A (fset ad k.ar.length ⟨ob,tb,nb⟩) kb ((kb,kerO A k.wi)::(A.ob,mapO encI (mput n (pV ob) k.ck (kvM ad k.mp)) (mclk n (kvM ad k.mp) k.ck))::(A.mb,.cells [.slice (some ⟨A.wb,0,none⟩) k.ws.length k.ws.length].toArray 312)::(A.wb,.cells (wordsC ws).toArray 50) ::
      (Iq++(Lc++(Ls++(Lt++(E++((ob,objO (freshT kd).ty tb q)::(tb,(freshT kd).obj nb)::J))))))):=by
  subst hp;subst hws
  obtain ⟨h1,h2⟩:=kv_more hw hi ad ⟨ob,tb,nb⟩;have hl:(if kd≠1 then memZero k.ws q.1 (pw q.2) else k.ws).length=k.ws.length:=by split;exact memZero_len ..;rfl
  refine ⟨Iq,Lc,Ls,Lt,_,hI,hC,hS,hT,hE.more ⟨ob,tb,nb⟩ ⟨freshT kd,q⟩ hJ,?_⟩;unfold Kn.made;dsimp only;rw[←h1,h2,hl]
theorem KW.setZ{k:Kn}(h:KW k)(a n:Int):KW { k with ws:=memZero k.ws a n }:=⟨by dsimp only;rw[memZero_len];exact h.len,h.wok.zero a n,h.nk,h.mp,h.q,h.at_,h.rw,h.rr,h.ths,h.tk⟩
section
variable(k:Kn)(A:KA)(ad:Nat→Ad)(kb:Nat)(L:Hp)(hK:KH k A ad kb L)(hw:KW k)(n kd:Int)(q:Int×Int)(size:Int)(hsz:I64 size)(hc:createE k n kd q size=0)
include k A ad kb L hK hw n kd q size hsz hc
theorem tr_kCreateUa(hk1:kd=1):Tr prog 40 [pV kb,.int .i64 n,.int .i64 kd,slotV q,.int .i64 size] (L) (fun u L' => u=.int .i64 0∧∃a,KH (k.made n kd q size) A (fset ad k.ar.length a) kb L'):=by
 obtain ⟨Iq,Lc,Ls,Lt,E,hI,hC,hS,hT,hE,rfl⟩:=hK;obtain ⟨f1,f2,f3,f4,f5,f6⟩:=create_facts hc;have hin:=check_in f5
 have hpw:=pw_le hin.2.2.1
 refine YR func40 ntmps40 fun W F=>?_
 refine Wr ?_;refine zB fun b1=>?_
 refine zq [1,2,5,3,20,3,4,0,42,0] ?_;refine Yn rfl rfl (fun hg=>pv_move rfl) ?_;refine Yn rfl rfl (fun hg=>Ys 17 rfl hg (pv_geq rfl rfl)) ?_;refine zq [47,1,2,5] ?_;refine Wp.cond_t rfl (fun h1=>(by exfalso;first | (simp_all;done) | (simp_all;omega))) (fun h1=>?_);refine zq [3,4,0,0] ?_;refine Yo (ef_callr ((tr_kFree k A ad kb _ ⟨Iq,Lc,Ls,Lt,E,hI,hC,hS,hT,hE,rfl⟩ hw n).eq (r' := .bool true) (by rw[f2])) rfl rfl) ?_;refine zq [39,1,2,5,17,11,19,5,3,4,0,0] ?_;refine zC ((tr_uBits kd size hsz).eq (r' := .tuple #[.int .i64 q.2,.int .i64 0]) (by rw[f3,f4])) ?_;refine zq [0,7,7,1,1,2,5,3,3,4,0,22,0] ?_;refine Yc rfl rfl (fun hg=>pv_move rfl) ?_;refine Yc rfl rfl (fun hg=>Ys 34 rfl hg (pv_fieldAddr0 rfl rfl)) ?_;refine Yc rfl rfl (fun hg=>Ys 34 rfl hg (Ys 35 rfl hg (pv_load rfl rfl rfl))) ?_;refine Yc rfl rfl (fun hg=>Ys 34 rfl hg (Ys 35 rfl hg (Ys 36 rfl hg (pv_neq rfl rfl)))) ?_;refine zq [46,2,5] ?_;refine Wp.cond_t rfl (fun h2=>(by exfalso;simp_all;done)) (fun h2=>?_);refine zq [11,5,3,3,4,0,66,2,5,18] ?_;refine AnyH.start [(kb,kerO A k.wi),(b1,.cells [.int .i64 q.1,.int .i64 q.2].toArray 55)] 8 rfl ?_;refine zd [0,10,1,1,2,3,3,0,4,2] ?_;refine YA 5 ?_;refine Yu rfl rfl (ef_callr (tr_memSize k.ws A.mb A.wb k.ws.length) rfl rfl) ?_;refine YA 6 ?_;refine Yu rfl rfl (ef_callr ((tr_spCheck q k.ws.length).eq (r' := .int .i64 0) (by rw[f5])) rfl rfl) ?_;refine zd [7,5] ?_;refine YD ?_;refine zq [5,3,20,3,4,0,67,1,2,5,17,3,4,0,0,30] ?_;refine zC ((tr_kTaken k A ad kb E hE hw kd q).eq (r' := .bool false) (by rw[f6])) ?_;refine zq [1,2,5,17,3,4,0,67,1,2,5,17,11,19,5,3] ?_;refine AnyH.start [(b1,.cells [.int .i64 q.1,.int .i64 q.2].toArray 55)] 14 rfl ?_;refine zd [0,1,1,3,2,0,4,1,5,1,6,1,7,1,8,1,10,10] ?_;refine YB 3 9 ?_ ?_
 ·
  refine Yv rfl rfl (pv_load rfl rfl rfl) ?_;refine YA 9 ?_;refine Turn.ef rfl rfl (ef_call (tr_kFresh { k with ws:=k.ws } A ad kb ((kb,kerO A k.wi)::(A.ob,mapO encI (kvM ad k.mp) k.ck)::(A.mb,.cells [.slice (some ⟨A.wb,0,none⟩) k.ws.length k.ws.length].toArray 312)::(A.wb,.cells (wordsC k.ws).toArray 50)::(Iq++(Lc++(Ls++(Lt++E))))) (KH_ws hI hC hS hT hE rfl) hw n kd size) rfl rfl) ?_ ?_ <;> rintro _ _ ⟨_,_,⟨tb1,nb1,J1,M1,rfl,hj1,hk1,rfl⟩,rfl,rfl⟩
  ·infer_instance
  refine AnyH.app ?_;obtain ⟨Iq1,Lc1,Ls1,Lt1,E1,hI1,hC1,hS1,hT1,hE1,rfl⟩:=hk1;simp only[Y1,Y7,memZero_len];refine zd [11,9] ?_;refine YA 12 ?_;refine Yw rfl rfl (ef_boxK rfl rfl) fun b2=>?_
  refine YA 13 ?_;refine Yu rfl rfl (ef_mapUpdate_i _ rfl rfl rfl) ?_;refine YD ?_;refine zq [5,3,4,1,2,5,10] ?_;exact zr (L' := (kb,kerO A k.wi)::(A.ob,mapO encI (mput n (pV b2) k.ck (kvM ad k.mp)) (mclk n (kvM ad k.mp) k.ck))::(A.mb,.cells [.slice (some ⟨A.wb,0,none⟩) k.ws.length k.ws.length].toArray 312)::(A.wb,.cells (wordsC k.ws).toArray 50)::(Iq1++(Lc1++(Ls1++(Lt1++(E1++((b2,objO (freshT kd).ty tb1 q)::(tb1,(freshT kd).obj nb1)::J1))))))) ⟨rfl,_,KH_more hw hI1 hC1 hS1 hT1 hE1 rfl (free_ix f2) (by rw[if_neg (by omega)]) b2 tb1 nb1 hj1⟩
 refine Turn.ef rfl rfl (ef_call (tr_kFresh { k with ws:=k.ws } A ad kb ((kb,kerO A k.wi)::(A.ob,mapO encI (kvM ad k.mp) k.ck)::(A.mb,.cells [.slice (some ⟨A.wb,0,none⟩) k.ws.length k.ws.length].toArray 312)::(A.wb,.cells (wordsC k.ws).toArray 50)::(Iq++(Lc++(Ls++(Lt++E))))) (KH_ws hI hC hS hT hE rfl) hw n kd size) rfl rfl) ?_ ?_ <;> rintro _ _ ⟨_,_,⟨tb2,nb2,J2,M2,rfl,hj2,hk2,rfl⟩,rfl,rfl⟩
 ·infer_instance
 refine AnyH.app ?_;obtain ⟨Iq1,Lc1,Ls1,Lt1,E1,hI1,hC1,hS1,hT1,hE1,rfl⟩:=hk2;simp only[Y1,Y7,memZero_len];refine zd [11,9] ?_;refine YB 3 12 ?_ ?_
 ·
  refine Yv rfl rfl (pv_load rfl rfl rfl) ?_;refine YA 12 ?_;refine Yw rfl rfl (ef_boxK rfl rfl) fun b3=>?_
  refine YA 13 ?_;refine Yu rfl rfl (ef_mapUpdate_i _ rfl rfl rfl) ?_;refine YD ?_;refine zq [5,3,4,1,2,5,10] ?_;exact zr (L' := (kb,kerO A k.wi)::(A.ob,mapO encI (mput n (pV b3) k.ck (kvM ad k.mp)) (mclk n (kvM ad k.mp) k.ck))::(A.mb,.cells [.slice (some ⟨A.wb,0,none⟩) k.ws.length k.ws.length].toArray 312)::(A.wb,.cells (wordsC k.ws).toArray 50)::(Iq1++(Lc1++(Ls1++(Lt1++(E1++((b3,objO (freshT kd).ty tb2 q)::(tb2,(freshT kd).obj nb2)::J2))))))) ⟨rfl,_,KH_more hw hI1 hC1 hS1 hT1 hE1 rfl (free_ix f2) (by rw[if_neg (by omega)]) b3 tb2 nb2 hj2⟩
 refine Yw rfl rfl (ef_boxK rfl rfl) fun b4=>?_
 refine YA 3 ?_;refine Yv rfl rfl (pv_load rfl rfl rfl) ?_;refine YA 13 ?_;refine Yu rfl rfl (ef_mapUpdate_i _ rfl rfl rfl) ?_;refine YD ?_;refine zq [5,3,4,1,2,5,10] ?_;exact zr (L' := (kb,kerO A k.wi)::(A.ob,mapO encI (mput n (pV b4) k.ck (kvM ad k.mp)) (mclk n (kvM ad k.mp) k.ck))::(A.mb,.cells [.slice (some ⟨A.wb,0,none⟩) k.ws.length k.ws.length].toArray 312)::(A.wb,.cells (wordsC k.ws).toArray 50)::(Iq1++(Lc1++(Ls1++(Lt1++(E1++((b4,objO (freshT kd).ty tb2 q)::(tb2,(freshT kd).obj nb2)::J2))))))) ⟨rfl,_,KH_more hw hI1 hC1 hS1 hT1 hE1 rfl (free_ix f2) (by rw[if_neg (by omega)]) b4 tb2 nb2 hj2⟩
theorem tr_kCreateZa(hk1:kd≠1):Tr prog 40 [pV kb,.int .i64 n,.int .i64 kd,slotV q,.int .i64 size] (L) (fun u L' => u=.int .i64 0∧∃a,KH (k.made n kd q size) A (fset ad k.ar.length a) kb L'):=by
 obtain ⟨Iq,Lc,Ls,Lt,E,hI,hC,hS,hT,hE,rfl⟩:=hK;obtain ⟨f1,f2,f3,f4,f5,f6⟩:=create_facts hc;have hin:=check_in f5
 have hpw:=pw_le hin.2.2.1
 refine YR func40 ntmps40 fun W F=>?_
 refine Wr ?_;refine zB fun b1=>?_
 refine zq [1,2,5,3,20,3,4,0,42,0] ?_;refine Yn rfl rfl (fun hg=>pv_move rfl) ?_;refine Yn rfl rfl (fun hg=>Ys 17 rfl hg (pv_geq rfl rfl)) ?_;refine zq [47,1,2,5] ?_;refine Wp.cond_t rfl (fun h1=>(by exfalso; first | (simp_all; done) | (simp_all; omega))) (fun h1=>?_);refine zq [3,4,0,0] ?_;refine Yo (ef_callr ((tr_kFree k A ad kb _ ⟨Iq,Lc,Ls,Lt,E,hI,hC,hS,hT,hE,rfl⟩ hw n).eq (r' := .bool true) (by rw[f2])) rfl rfl) ?_;refine zq [39,1,2,5,17,11,19,5,3,4,0,0] ?_;refine zC ((tr_uBits kd size hsz).eq (r' := .tuple #[.int .i64 q.2,.int .i64 0]) (by rw[f3,f4])) ?_;refine zq [0,7,7,1,1,2,5,3,3,4,0,22,0] ?_;refine Yc rfl rfl (fun hg=>pv_move rfl) ?_;refine Yc rfl rfl (fun hg=>Ys 34 rfl hg (pv_fieldAddr0 rfl rfl)) ?_;refine Yc rfl rfl (fun hg=>Ys 34 rfl hg (Ys 35 rfl hg (pv_load rfl rfl rfl))) ?_;refine Yc rfl rfl (fun hg=>Ys 34 rfl hg (Ys 35 rfl hg (Ys 36 rfl hg (pv_neq rfl rfl)))) ?_;refine zq [46,2,5] ?_;refine Wp.cond_t rfl (fun h2=>(by exfalso; simp_all; done)) (fun h2=>?_);refine zq [11,5,3,3,4,0,66,2,5,18] ?_;refine AnyH.start [(kb,kerO A k.wi),(b1,.cells [.int .i64 q.1,.int .i64 q.2].toArray 55)] 8 rfl ?_;refine zd [0,10,1,1,2,3,3,0,4,2] ?_;refine YA 5 ?_;refine Yu rfl rfl (ef_callr (tr_memSize k.ws A.mb A.wb k.ws.length) rfl rfl) ?_;refine YA 6 ?_;refine Yu rfl rfl (ef_callr ((tr_spCheck q k.ws.length).eq (r' := .int .i64 0) (by rw[f5])) rfl rfl) ?_;refine zd [7,5] ?_;refine YD ?_;refine zq [5,3,20,3,4,0,67,1,2,5,17,3,4,0,0,30] ?_;refine zC ((tr_kTaken k A ad kb E hE hw kd q).eq (r' := .bool false) (by rw[f6])) ?_;refine zq [1,2,5,17,3,4,0,68,1,2,5,18] ?_;refine AnyH.start [(kb,kerO A k.wi),(b1,.cells [.int .i64 q.1,.int .i64 q.2].toArray 55)] 10 rfl ?_;refine zd [0,1,1,3,2,0,3,2,4,0,5,2,6,0,7,2] ?_;refine Yh 8 rfl (pv_shl rfl rfl hin.2.1 (sh1i hin.2.1 hin.2.2.1)) ?_;refine YA 9 ?_;refine Turn.ef rfl rfl (ef_call (tr_memZeroX k.ws A.mb A.wb q.1 (pw q.2) hw.len.2 hin.1 (by omega) hin.2.2.2) rfl rfl) ?_ ?_ <;> rintro _ _ ⟨_,_,⟨rfl,rfl⟩,rfl,rfl⟩
 ·infer_instance
 refine AnyH.app ?_;refine YD ?_;refine zq [19,5,3] ?_;refine AnyH.start [(b1,.cells [.int .i64 q.1,.int .i64 q.2].toArray 55)] 14 rfl ?_;refine zd [0,1,1,3,2,0,4,1,5,1,6,1,7,1,8,1,10,10] ?_;refine YB 3 9 ?_ ?_
 ·
  refine Yv rfl rfl (pv_load rfl rfl rfl) ?_;refine YA 9 ?_;refine Turn.ef rfl rfl (ef_call (tr_kFresh { k with ws:=(memZero k.ws q.1 (pw q.2)) } A ad kb ((kb,kerO A k.wi)::(A.ob,mapO encI (kvM ad k.mp) k.ck)::(A.mb,.cells [.slice (some ⟨A.wb,0,none⟩) k.ws.length k.ws.length].toArray 312)::(A.wb,.cells (wordsC (memZero k.ws q.1 (pw q.2))).toArray 50)::(Iq++(Lc++(Ls++(Lt++E))))) (KH_ws hI hC hS hT hE (memZero_len ..)) (hw.setZ _ _) n kd size) rfl rfl) ?_ ?_ <;> rintro _ _ ⟨_,_,⟨tb1,nb1,J1,M1,rfl,hj1,hk1,rfl⟩,rfl,rfl⟩
  ·infer_instance
  refine AnyH.app ?_;obtain ⟨Iq1,Lc1,Ls1,Lt1,E1,hI1,hC1,hS1,hT1,hE1,rfl⟩:=hk1;simp only[Y1,Y7,memZero_len];refine zd [11,9] ?_;refine YA 12 ?_;refine Yw rfl rfl (ef_boxK rfl rfl) fun b2=>?_
  refine YA 13 ?_;refine Yu rfl rfl (ef_mapUpdate_i _ rfl rfl rfl) ?_;refine YD ?_;refine zq [5,3,4,1,2,5,10] ?_;exact zr (L' := (kb,kerO A k.wi)::(A.ob,mapO encI (mput n (pV b2) k.ck (kvM ad k.mp)) (mclk n (kvM ad k.mp) k.ck))::(A.mb,.cells [.slice (some ⟨A.wb,0,none⟩) k.ws.length k.ws.length].toArray 312)::(A.wb,.cells (wordsC (memZero k.ws q.1 (pw q.2))).toArray 50)::(Iq1++(Lc1++(Ls1++(Lt1++(E1++((b2,objO (freshT kd).ty tb1 q)::(tb1,(freshT kd).obj nb1)::J1))))))) ⟨rfl,_,KH_more hw hI1 hC1 hS1 hT1 hE1 rfl (free_ix f2) (if_pos hk1).symm b2 tb1 nb1 hj1⟩
 refine Turn.ef rfl rfl (ef_call (tr_kFresh { k with ws:=(memZero k.ws q.1 (pw q.2)) } A ad kb ((kb,kerO A k.wi)::(A.ob,mapO encI (kvM ad k.mp) k.ck)::(A.mb,.cells [.slice (some ⟨A.wb,0,none⟩) k.ws.length k.ws.length].toArray 312)::(A.wb,.cells (wordsC (memZero k.ws q.1 (pw q.2))).toArray 50)::(Iq++(Lc++(Ls++(Lt++E))))) (KH_ws hI hC hS hT hE (memZero_len ..)) (hw.setZ _ _) n kd size) rfl rfl) ?_ ?_ <;> rintro _ _ ⟨_,_,⟨tb2,nb2,J2,M2,rfl,hj2,hk2,rfl⟩,rfl,rfl⟩
 ·infer_instance
 refine AnyH.app ?_;obtain ⟨Iq1,Lc1,Ls1,Lt1,E1,hI1,hC1,hS1,hT1,hE1,rfl⟩:=hk2;simp only[Y1,Y7,memZero_len];refine zd [11,9] ?_;refine YB 3 12 ?_ ?_
 ·
  refine Yv rfl rfl (pv_load rfl rfl rfl) ?_;refine YA 12 ?_;refine Yw rfl rfl (ef_boxK rfl rfl) fun b3=>?_
  refine YA 13 ?_;refine Yu rfl rfl (ef_mapUpdate_i _ rfl rfl rfl) ?_;refine YD ?_;refine zq [5,3,4,1,2,5,10] ?_;exact zr (L' := (kb,kerO A k.wi)::(A.ob,mapO encI (mput n (pV b3) k.ck (kvM ad k.mp)) (mclk n (kvM ad k.mp) k.ck))::(A.mb,.cells [.slice (some ⟨A.wb,0,none⟩) k.ws.length k.ws.length].toArray 312)::(A.wb,.cells (wordsC (memZero k.ws q.1 (pw q.2))).toArray 50)::(Iq1++(Lc1++(Ls1++(Lt1++(E1++((b3,objO (freshT kd).ty tb2 q)::(tb2,(freshT kd).obj nb2)::J2))))))) ⟨rfl,_,KH_more hw hI1 hC1 hS1 hT1 hE1 rfl (free_ix f2) (if_pos hk1).symm b3 tb2 nb2 hj2⟩
 refine Yw rfl rfl (ef_boxK rfl rfl) fun b4=>?_
 refine YA 3 ?_;refine Yv rfl rfl (pv_load rfl rfl rfl) ?_;refine YA 13 ?_;refine Yu rfl rfl (ef_mapUpdate_i _ rfl rfl rfl) ?_;refine YD ?_;refine zq [5,3,4,1,2,5,10] ?_;exact zr (L' := (kb,kerO A k.wi)::(A.ob,mapO encI (mput n (pV b4) k.ck (kvM ad k.mp)) (mclk n (kvM ad k.mp) k.ck))::(A.mb,.cells [.slice (some ⟨A.wb,0,none⟩) k.ws.length k.ws.length].toArray 312)::(A.wb,.cells (wordsC (memZero k.ws q.1 (pw q.2))).toArray 50)::(Iq1++(Lc1++(Ls1++(Lt1++(E1++((b4,objO (freshT kd).ty tb2 q)::(tb2,(freshT kd).obj nb2)::J2))))))) ⟨rfl,_,KH_more hw hI1 hC1 hS1 hT1 hE1 rfl (free_ix f2) (if_pos hk1).symm b4 tb2 nb2 hj2⟩
end
end
section
abbrev clrV (kb:Nat) (n:Int) (tb:Nat):Value:=.agg #[pV kb,.int .i64 n,pV tb]
def Kn.tell (k:Kn) (i:Nat) (e:Int):Kn:=k.setI i (fun t=>{ t with regs:=ansR t.regs e })
theorem tr_sYield(sb:Nat)(H:Hp)(T:Ones)(e:Nat)(l:Int)(L:Nat→Ones)(hH:SchH T e l L sb H)(hA:At T e l)(hW:RdysW L)(hl:RdysL L (2^20))(x:Int):Tr prog 178 [.pointer (some ⟨sb,0,none⟩),.int .i64 x] (H) (fun u L' => u=.bool (findM L x).isSome∧SchH T e l (syL L x) sb L'):=by
 cases hf:findM L x with
 | none =>
  have e2:syL L x=L:=by unfold syL;rw[hf]
  rw[e2];exact tr_sYield_none sb H T e l L hH hA hW hl x hf
 | some dk =>
  obtain ⟨d,k⟩:=dk;have e2:syL L x=fset L d (putR (dropR (L d) x) x k):=by unfold syL;rw[hf]
  rw[e2];exact tr_sYield_some sb H T e l L hH hA hW hl x d k hf
section
variable(k:Kn)(A:KA)(ad:Nat→Ad)(kb:Nat)(L:Hp)(hK:KH k A ad kb L)(hw:KW k)(n:Int){i:Nat}{t:ThrM}{c:CapM}{s b:Int}{sp:Int×Int}(he:k.ar[i]?=some ⟨.thr t c s b,sp⟩)
include k A ad kb L hK hw n i t c s b sp he
theorem tr_cTell(e:Int)(he9:0≤e∧e<100):Tr prog 179 [clrV kb n (ad i).tb,.int .i64 e] (L) (fun u L' => u=.tuple #[]∧KH (k.tell i e) A ad kb L'):=by
 obtain ⟨Iq,Lc,Ls,Lt,E,hI,hC,hS,hT,hE,rfl⟩:=hK;have hE0:=hE
 obtain ⟨G,R,rfl,hU,hB,hP,hEb⟩:=hE.thr he
 haveI:=hU;haveI:=hB;haveI:=hP
 refine YR func179 ntmps179 fun W F=>?_
 refine Wr ?_;refine zB fun b1=>?_
 refine On ?_;refine AnyH.start [(b1,.cells [pV kb,.int .i64 n,pV (ad i).tb].toArray 253)] 14 rfl ?_;refine zd [0,0,1,2,2,0,3,2,4,3,5,0,6,0,8,1] ?_;refine YA 7 ?_;refine Yv rfl rfl (pv_loadK [_,_,_,_,_,_,_,_] rfl rfl rfl ⟨rfl,rfl,rfl,rfl,rfl,rfl,rfl,rfl,trivial⟩) ?_;refine YA 9 ?_;refine Yu rfl rfl (ef_callr (tr_answered t.regs e he9) rfl rfl) ?_;refine zd [10,3,11,0,12,0] ?_;refine zK 13 ?_;refine YD ?_;rw[show k.tell i e={ k with ar:=setA k.ar i (.thr { t with regs:=ansR t.regs e } c s b) } from setI_eq he _];exact zf (L' := (kb,kerO A k.wi)::(A.ob,mapO encI (kvM ad k.mp) k.ck)::(A.mb,.cells [.slice (some ⟨A.wb,0,none⟩) k.ws.length k.ws.length].toArray 312)::(A.wb,.cells (wordsC k.ws).toArray 50)::(Iq++(Lc++(Ls++(Lt++(G (thrO { t with regs:=ansR t.regs e } c s b))))))) ⟨rfl,Iq,Lc,Ls,Lt,_,hI,hC,hS,hT,hEb { t with regs:=ansR t.regs e } c s b,rfl⟩
theorem tr_cYield:Tr prog 113 [clrV kb n (ad i).tb,.int .u64 7] (L) (fun u L' => u=.bool false∧KH (({ k with L:=syL k.L n }:Kn).tell i 0) A ad kb L'):=by
 obtain ⟨Iq,Lc,Ls,Lt,E,hI,hC,hS,hT,hE,rfl⟩:=hK;refine YR func113 ntmps113 fun W F=>?_
 have hwy:KW { k with L:=syL k.L n }:=hw.setL (syW hw.rw n) (syR hw.rr n)
 refine Wr ?_;refine zB fun b1=>?_
 refine zq [1,2,5,3,3,4,0,2,5,20,3,3,4,65,1,2,5,17,3,4,65,1,2,5,17,4,65,1,2,5,17,3,3,4,65,1,2,5,17,4,65,1,2,5,17,3,4,65,1,2,5,17,3,4,65,1,2,5,17,3,4,66,1,2,5,18,3] ?_;refine AnyH.start [(kb,kerO A k.wi),(b1,.cells [pV kb,.int .i64 n,pV (ad i).tb].toArray 253)] 8 rfl ?_;refine zd [0,0,1,2,2,3,3,0,4,2,5,0,6,2] ?_;refine YA 7 ?_;refine Turn.ef rfl rfl (ef_call (tr_sYield _ Ls k.T k.e k.lf k.L hS hw.at_ hw.rw (hw.rl (by decide)) n) rfl rfl) ?_ ?_ <;> rintro _ _ ⟨_,J1,⟨rfl,hs1⟩,rfl,rfl⟩
 ·infer_instance
 refine AnyH.app ?_;refine YD ?_;refine zq [5,4,29] ?_;refine zD (tr_cTell { k with L:=syL k.L n } A ad kb ((kb,kerO A k.wi)::(A.ob,mapO encI (kvM ad k.mp) k.ck)::(A.mb,.cells [.slice (some ⟨A.wb,0,none⟩) k.ws.length k.ws.length].toArray 312)::(A.wb,.cells (wordsC k.ws).toArray 50)::(Iq++(Lc++(J1++(Lt++E))))) ⟨Iq,Lc,J1,Lt,E,hI,hC,hs1,hT,hE,rfl⟩ hwy n he 0 (by decide)) ?_;rintro _ M1 ⟨rfl,hk1⟩;refine Ops.app ?_;refine zq [2,19,5,3,4,1,2,5,10] ?_;exact zr (L' := M1) ⟨rfl,hk1⟩
end
end
section
def Kn.wait (k:Kn) (i:Nat) (n st on badge:Int) (calls:Bool):Kn:=match k.thI i with
  | none=>k
  | some x=>if (blockTM x.1 st on badge calls).2=0 then k.be n (blockTM x.1 st on badge calls).1 else k
end
section
section
attribute [local semireducible] Tr
theorem _root_.Go.SL.Tr.conv{P:Program}{f:FuncId}{args:List Value}{L J G:Hp}{R R' : Value→Hp→Prop}(h:Tr P f args J R)(hp:L.Perm (J++G))(hb:∀v J', R v J' → ∃L', R' v L' ∧ (J' ++ G).Perm L'):Tr P f args L R' := fun W w F ho=>by
 have ho2:Own W w (J++(G++F)):=ho.perm (by rw[←Y7];exact hp.append_right F)
 refine (h W w (G++F) ho2).mono ?_;rintro e' w' ⟨v,J', he,hR,ho'⟩;obtain ⟨L', h1,h2⟩:=hb v J' hR;exact ⟨v,L', he,h1,ho'.perm (by rw[←Y7];exact h2.append_right F)⟩
end
theorem _root_.Go.SL.TrR.conv{P:Program}{f:FuncId}{args:List Value}{L J G:Hp}{r:Value}(h:TrR P f args J r)(hp:L.Perm (J++G)):TrR P f args L r :=
  Tr.conv h hp (by rintro v J' ⟨rfl,rfl⟩;exact ⟨L,⟨rfl,rfl⟩,hp.symm⟩)
abbrev hd4 (k:Kn) (A:KA) (ad:Nat→Ad) (kb:Nat):Hp:=[(kb,kerO A k.wi),(A.ob,mapO encI (kvM ad k.mp) k.ck),(A.mb,.cells [.slice (some ⟨A.wb,0,none⟩) k.ws.length k.ws.length].toArray 312),(A.wb,.cells (wordsC k.ws).toArray 50)]
section
variable {k : Kn} {A : KA} {ad : Nat → Ad} {kb : Nat} {L : Hp} (hK : KH k A ad kb L)
include hK
theorem KH.kblk:Blk L kb (kerO A k.wi):=by
 obtain ⟨Iq,Lc,Ls,Lt,E,hI,hC,hS,hT,hE,rfl⟩:=hK
 infer_instance
theorem KH.tb{i:Nat}{en:En}(he:k.ar[i]?=some en):Blk L (ad i).tb (en.th.obj (ad i).nb):=by
 obtain ⟨Iq,Lc,Ls,Lt,E,hI,hC,hS,hT,hE,rfl⟩:=hK
 haveI:=hE.tb he
 infer_instance
theorem KH.thr{i:Nat}{t:ThrM}{c:CapM}{s b:Int}{sp:Int×Int}(he:k.ar[i]?=some ⟨.thr t c s b,sp⟩):Blk L (ad i).tb (thrO t c s b):=hK.tb he
theorem KH.upd{i:Nat}{en:En}(he:k.ar[i]?=some en) :
    ∃(G:Obj→Hp) (R:Hp),L=G (en.th.obj (ad i).nb)∧(∀o o', Upd (G o) (ad i).tb o' (G o'))∧(∀o,Blk (G o) (ad i).tb o)∧(∀o,Take (G o) (ad i).tb o R) ∧
      ∀th', en.th.like th' → KH { k with ar:=setA k.ar i th' } A ad kb (G (th'.obj (ad i).nb)):=by
  obtain ⟨Iq,Lc,Ls,Lt,E,hI,hC,hS,hT,hE,rfl⟩:=hK;obtain ⟨G,R,h0,h1,h2,h3,h4⟩:=hE.upd he;subst h0;refine ⟨fun o=>(kb,kerO A k.wi)::(A.ob,mapO encI (kvM ad k.mp) k.ck)::(A.mb,.cells [.slice (some ⟨A.wb,0,none⟩) k.ws.length k.ws.length].toArray 312)::(A.wb,.cells (wordsC k.ws).toArray 50)::(Iq++(Lc++(Ls++(Lt++G o)))),
    (kb,kerO A k.wi)::(A.ob,mapO encI (kvM ad k.mp) k.ck)::(A.mb,.cells [.slice (some ⟨A.wb,0,none⟩) k.ws.length k.ws.length].toArray 312)::(A.wb,.cells (wordsC k.ws).toArray 50)::(Iq++(Lc++(Ls++(Lt++R)))),rfl,fun o o' => ?_,fun o=>?_,fun o=>?_,fun th' hl=>⟨Iq,Lc,Ls,Lt,_,hI,hC,hS,hT,h4 th' hl,rfl⟩⟩
  · haveI:=h1 o o';dsimp only;infer_instance
  · haveI:=h2 o;dsimp only;infer_instance
  · haveI:=h3 o;dsimp only;infer_instance
theorem KH.thrU{i:Nat}{t:ThrM}{c:CapM}{s b:Int}{sp:Int×Int}(he:k.ar[i]?=some ⟨.thr t c s b,sp⟩) :
    ∃(G:Obj→Hp) (R:Hp),L=G (thrO t c s b)∧(∀o o', Upd (G o) (ad i).tb o' (G o'))∧(∀o,Blk (G o) (ad i).tb o)∧(∀o,Take (G o) (ad i).tb o R) ∧
      ∀t' c' s' b', KH { k with ar:=setA k.ar i (.thr t' c' s' b') } A ad kb (G (thrO t' c' s' b')):=by
  obtain ⟨G,R,h0,h1,h2,h3,h4⟩:=hK.upd he;exact ⟨G,R,h0,h1,h2,h3,fun t' c' s' b' => h4 (.thr t' c' s' b') trivial⟩
theorem KH.objs{f:FuncId}{args:List Value}{r:Value}(h:∀E,EnH k.ar ad E→TrR prog f args ((kb,kerO A k.wi)::(A.ob,mapO encI (kvM ad k.mp) k.ck)::E) r):TrR prog f args L r:=by
 obtain ⟨Iq,Lc,Ls,Lt,E,hI,hC,hS,hT,hE,rfl⟩:=hK;exact (h E hE).frame
end
end
section
theorem dput_no{l:List DN}{s:SlotM}{c:CapM}(h:(dput l s c).1≠0):(dput l s c).2=l:=by
 unfold dput at h ⊢
 split
 ·
  rfl
 ·
  rename_i hx
  rw[hx]at h;dsimp only at h
  split
  ·
   rfl
  ·
   rename_i h1
   rw[if_neg h1]at h
   split
   ·
    rfl
   ·
    rename_i h2
    rw[if_neg h2]at h
    split
    ·
     rfl
    ·
     rename_i h3
     rw[if_neg h3]at h;exact absurd rfl h
structure OpC where
  kind:Int
  a:SlotM
  b:SlotM
  d:SlotM
  c:CapM
  n:Int
  rights:Int
  badge:Int
  guard:Int
  bits:Int
abbrev OpC.cells (o:OpC):List Value:=[.int .i64 o.kind,.int .i64 o.a.1,.int .i64 o.a.2,.int .i64 o.b.1,.int .i64 o.b.2,.int .i64 o.d.1,.int .i64 o.d.2,.int .i64 o.c.kind,.int .i64 o.c.object,.int .i64 o.c.rights,.int .u64 o.c.badge,.int .u64 o.c.guard,.int .i64 o.c.bits,.int .i64 o.n,.int .i64 o.rights,.int .u64 o.badge,.int .u64 o.guard,.int .i64 o.bits]
end
section
structure OpT where
  kind:Int
  a:SlotM
  b:SlotM
abbrev OpT.cells (o:OpT):List Value:=[.int .i64 o.kind,.int .i64 o.a.1,.int .i64 o.a.2,.int .i64 o.b.1,.int .i64 o.b.2]
end
section
def mask4 (a b:Nat):Nat→Nat
  | 0=>0
  | k+1=>mask4 a b k+(if a/2^k%2=1∧b/2^k%2=1 then 2^k else 0)
def withinM (a b:Int):Prop:=(0≤a∧a≤7)∧(0≤b∧b≤7)∧(mask4 a.toNat b.toNat 3:Int)=a
def weakM (a b:CapM):Prop:=checkM a=0∧checkM b=0∧a.kind=b.kind∧a.object=b.object∧withinM a.rights b.rights∧(b.badge=0∨a.badge=b.badge)
end
section
abbrev HasS (l:List DN):Prop:=∃S,Rel S l
theorem dget_cap{l:List DN}{s:SlotM}{x:CapM}(h:dget l s=(x,0)):dcap? l s=some x:=by
 unfold dget at h;cases e:dcap? l s with
 | none=>rw[e]at h;have:=congrArg Prod.snd h;simp at this
 | some y=>rw[e]at h;exact congrArg some (congrArg Prod.fst h)
section
variable {l : List DN} (h : HasS l)
include h
theorem HasS.put(s:SlotM)(c:CapM):HasS (dput l s c).2:=by
 obtain ⟨S,hR⟩:=h;exact ⟨_,(rel_put hR s c).2⟩
theorem put_iff{s:SlotM}{c:CapM}:(dput l s c).1=0↔(dget l s).2=0∧(dget l s).1.kind=0∧checkM c=0∧c.kind≠0:=by
 unfold dput dget;cases e:dcap? l s with
 | none=>simp
 | some x =>
  dsimp only
  by_cases h1:checkM c=0
  ·
   by_cases h2:c.kind=0
   ·
    simp[h1,h2]
   ·
    by_cases h3:x.kind=0
    ·
     simp[h1,h2,h3]
    ·
     simp[h1,h2,h3]
  ·
   simp[h1]
theorem put_get{s:SlotM}{c:CapM}(h0:(dput l s c).1=0)(t:SlotM):dget (dput l s c).2 t=if t=s then (c,0) else dget l t:=by
 obtain ⟨S,hR⟩:=h;obtain ⟨h1,h2,h3,h4⟩:=(put_iff ⟨S,hR⟩).1 h0;obtain ⟨e,hR2⟩:=rel_put hR s c;rw[←rel_get hR2,←rel_get hR];have hx:S.cap? s=some (dget l s).1:=by
  rw[rel_cap hR];refine dget_cap ?_;rw[←h1]
 have:(S.put s c).2=S.setCap s c:=by
  unfold StoreM.put;rw[hx];dsimp only
  rw[if_neg (by simp[h3]),if_neg h4,if_neg (by simp[h2])]
 rw[this,get_set hx]
end
structure POk (p:PS):Prop where
  rel:HasS p.l
  nd:Fo.Nd p.F
  on:∀s,s∈p.F.all↔(dget p.l s).1.kind≠0
section
variable {p : PS} (hp : POk p)
include hp
theorem POk.out{s:SlotM}(h:(dget p.l s).1.kind=0):s ∉ p.F.all:=fun e=>(hp.on s).1 e h
end
end
section
theorem hasS_nil:HasS []:=⟨⟨0,0,[]⟩,rel_new rfl⟩
theorem HasS.add{l:List DN}(h:HasS l)(id r:Int):HasS (dadd l id r).2:=by
 obtain ⟨S,hR⟩:=h;unfold dadd;dsimp only
 split
 ·
  rename_i h0;exact ⟨_,rel_add hR (by rw[rel_addErr hR];exact h0) (insAt_place l) 0 0⟩
 ·
  exact ⟨S,hR⟩
theorem aadd_get{l:List DN}(h:HasS l)(id r:Int)(s:SlotM):(dget (dadd l id r).2 s).1=(dget l s).1:=by
 obtain ⟨S,hR⟩:=h;unfold dadd;dsimp only
 split
 ·
  rename_i h0
  have h0' : addErr S id r=0:=by rw[rel_addErr hR];exact h0
  have hR2:=rel_add hR h0' (insAt_place l) 0 0
  rw[←rel_get hR2,←rel_get hR];have hno:nget id S.nodes=none:=by
   unfold addErr at h0'
   split at h0'
   ·
    cases h0'
   ·
    cases e:nget id S.nodes with
    | none=>rfl
    | some n=>rw[e]at h0';simp at h0'
  unfold StoreM.get;rw[addNode_cap hno]
  by_cases e:s.1=id
  ·
   rw[if_pos e];have:S.cap? s=none:=by unfold StoreM.cap?;rw[e,hno]
   rw[this]
   split
   ·
    rfl
   ·
    rename_i x hx
    split at hx
    ·
     cases hx;rfl
    ·
     cases hx
  ·
   rw[if_neg e]
 ·
  rfl
section
variable {p : PS} (hp : POk p)
include hp
theorem POk.plant(s:SlotM)(c:CapM):POk (mPlant p s c).2:=by
 unfold mPlant;dsimp only
 by_cases h0:(dput p.l s c).1=0
 ·
  rw[if_pos h0];obtain ⟨_,h2,_,h4⟩:=(put_iff hp.rel).1 h0;have hs:=hp.out h2
  have hg:=put_get hp.rel h0
  have hF:(ftRoot p.F s).2=p.F.app (.one s):=by unfold ftRoot;rw[if_neg hs]
  refine ⟨hp.rel.put s c,ftRoot_nd hp.nd,fun t=>?_⟩;rw[hF]
  show t∈(p.F.app (.one s)).all↔(dget (dput p.l s c).2 t).1.kind≠0
  rw[hg,Fo.all_app,List.mem_append]
  by_cases e:t=s
  ·
   subst e;rw[if_pos rfl];simp[Fo.one,Fo.all,h4]
  ·
   rw[if_neg e,←hp.on t];simp[Fo.one,Fo.all,e]
 ·
  rw[if_neg h0,dput_no h0];exact hp
end
theorem zero_rg:CapM.zero.Rg:=⟨by unfold i64R;decide,by unfold u64R;decide,by unfold u64R;decide⟩
structure WOk (p:PS):Prop where
  ok:POk p
  rg:∀s,(dget p.l s).1.Rg
  weak:∀t x,x∈ftKin p.F t→weakM (dget p.l x).1 (dget p.l t).1
section
variable {p : PS} (h : WOk p)
include h
end
end
section
def takeBits (p l n:Nat):Nat:=p/2^(l-n)%2^n
def errS (e:Int):SlotM×Int×Int:=((0,0),0,e)
def nxtOk (l:Nat) (n:Int):Bool:=decide (0≤n∧n≤(l:Int))
def nxtV (p l:Nat) (n:Int):Nat:=if 0≤n∧n≤(l:Int) then takeBits p l n.toNat else 0
def nxtL (l:Nat) (n:Int):Nat:=if 0≤n∧n≤(l:Int) then l-n.toNat else l
section
variable {S : StoreM} {p m l : Nat} {c : CapM}
end
end
section
section
variable {S : StoreM} {p m l : Nat} {c : CapM}
end
structure PutM where
  slot:SlotM
  c:CapM
abbrev PutM.cells (o:PutM):List Value:=[.int .i64 o.slot.1,.int .i64 o.slot.2,.int .i64 o.c.kind,.int .i64 o.c.object,.int .i64 o.c.rights,.int .u64 o.c.badge,.int .u64 o.c.guard,.int .i64 o.c.bits]
end
section
theorem POk.same{p:PS}(hp:POk p){l:List DN}(hl:HasS l)(hg:∀s,(dget l s).1=(dget p.l s).1):POk ⟨l,p.F⟩:=⟨hl,hp.nd,fun s=>by rw[hg];exact hp.on s⟩
theorem POk.node{p:PS}(hp:POk p)(id r:Int):POk (mNode p id r).2:=hp.same (hp.rel.add id r) (aadd_get hp.rel id r)
end
section
structure OpC.Rg (o:OpC):Prop where
  c:o.c.Rg
  rights:i64R o.rights
  badge:u64R o.badge
  guard:u64R o.guard
end
section
structure ROk (p:PS):Prop where
  ok:POk p
  rg:∀s,(dget p.l s).1.Rg
theorem ROk.new:ROk PS.new:=by
 refine ⟨⟨hasS_nil,List.nodup_nil,fun s=>?_⟩,fun s=>?_⟩
 ·
  show s∈([]:List SlotM)↔_
  simp[PS.new,dget,dcap?,dfind]
 ·
  simp only[PS.new,dget,dcap?,dfind];exact zero_rg
theorem rg_put{l:List DN}(h:HasS l)(hr:∀s,(dget l s).1.Rg)(s:SlotM){c:CapM}(hc:c.Rg)(t:SlotM):(dget (dput l s c).2 t).1.Rg:=by
 by_cases h0:(dput l s c).1=0
 ·
  rw[put_get h h0];split
  ·
   exact hc
  ·
   exact hr t
 ·
  rw[dput_no h0];exact hr t
section
variable {p : PS} (h : ROk p)
include h
theorem ROk.node(id r:Int):ROk (mNode p id r).2:=⟨h.ok.node id r,fun s=>by
 show (dget (dadd p.l id r).2 s).1.Rg
 rw[aadd_get h.ok.rel];exact h.rg s⟩
theorem ROk.plant(s:SlotM){c:CapM}(hc:c.Rg):ROk (mPlant p s c).2:=⟨h.ok.plant s c,rg_put h.ok.rel h.rg s hc⟩
end
end
section
def rslG (g:SlotM→CapM) (rd:Int→Int) (p:Nat):Nat→CapM→Nat→SlotM×Int×Int
  | 0,_,_=>errS 6
  | k+1,c,l =>
    if rd c.object=0∨nxtOk l c.bits=false∨(nxtV p l c.bits:Int)≠c.guard then errS 6
    else if nxtOk (nxtL l c.bits) (rd c.object)=false then errS 6
    else if nxtL (nxtL l c.bits) (rd c.object)=0∨(g (c.object,(nxtV p (nxtL l c.bits) (rd c.object):Int))).kind≠2 then
      ((c.object,(nxtV p (nxtL l c.bits) (rd c.object):Int)),(nxtL (nxtL l c.bits) (rd c.object):Int),0)
    else rslG g rd p k (g (c.object,(nxtV p (nxtL l c.bits) (rd c.object):Int))) (nxtL (nxtL l c.bits) (rd c.object))
def resG (g:SlotM→CapM) (rd:Int→Int) (root:CapM) (p:Nat) (depth:Int):SlotM×Int×Int :=
  if depth<1∨16<depth∨p/2^depth.toNat≠0 then errS 1
  else if root.kind≠2 then errS 2
  else rslG g rd p (depth.toNat+1) root depth.toNat
def Kn.res (k:Kn) (root:CapM) (p:Int) (depth:Int):SlotM×Int×Int:=resG (fun s=>(dget k.p.l s).1) (dradix k.p.l) root p.toNat depth
def Kn.find (k:Kn) (root:CapM) (p:Int):SlotM×CapM×Int :=
  if (k.res root p 16).2.2≠0 then ((0,0),CapM.zero,(k.res root p 16).2.2)
  else if (dget k.p.l (k.res root p 16).1).1.kind=0 then ((0,0),CapM.zero,3)
  else ((k.res root p 16).1,(dget k.p.l (k.res root p 16).1).1,0)
def Kn.slot (k:Kn) (root:CapM) (p:Int) (depth:Int):SlotM×Int :=
  if (k.res root p depth).2.2≠0 then ((0,0),(k.res root p depth).2.2)
  else if 0<(k.res root p depth).2.1 then ((0,0),6)
  else ((k.res root p depth).1,0)
structure KX (k:Kn):Prop where
  kw:KW k
  rok:ROk k.p
structure Kq (m:Nat) (k k' : Kn):Prop where
  kp:Kp k k'
  nk:k'.nk≤k.nk+m
section
variable {k k' k2 : Kn}
end
end
section
abbrev PN (k k' : Kn):Prop:=k'.p=k.p∧k'.nk=k.nk
theorem setI_pn(k:Kn)(i:Nat)(f:ThrM→ThrM):PN k (k.setI i f):=by unfold Kn.setI; split <;> exact ⟨rfl,rfl⟩
theorem setThr_pn(k:Kn)(n:Int)(f:ThrM→ThrM):PN k (k.setThr n f):=by
 unfold Kn.setThr;split
 ·
  exact setI_pn ..
 ·
  exact ⟨rfl,rfl⟩
theorem be_pn(k:Kn)(n:Int)(x:ThrM):PN k (k.be n x):=setThr_pn k n _
theorem KX.of{k k' : Kn}(h:KX k)(hw:KW k' ∧ Kp k k')(hp:PN k k'):KX k' ∧ Kq 0 k k' := ⟨⟨hw.1,by rw[hp.1];exact h.rok⟩,hw.2,by rw[hp.2];exact Nat.le_refl _⟩
section
variable {k : Kn} (h : KX k)
include h
end
section
variable {k : Kn} (h : KX k) (hn : k.nk < 2 ^ 18)
include h hn
end
end
section
section
variable {k : Kn} {A : KA} {ad : Nat → Ad} {kb : Nat} {L : Hp} (hK : KH k A ad kb L)
include hK
theorem KH.gThrY{n:Int}{i:Nat}{t:ThrM}{c:CapM}{s b:Int}{sp:Int×Int}(hi:k.ix n=some i)(he:k.ar[i]?=some ⟨.thr t c s b,sp⟩):TrR prog 54 [pV kb,.int .i64 n] L (.tuple #[pV (ad i).tb,.bool true]):=hK.objs fun E hE=>tr_getThrY k A ad kb E hE n hi he
theorem KH.gThrZ(hw:KW k){n:Int}(hn:k.thr n=none):TrR prog 54 [pV kb,.int .i64 n] L (.tuple #[.pointer none,.bool false]):=hK.objs fun E hE=>tr_getThrZ k A ad kb E hE hw n hn
end
section
variable {l : List DN} {sb : Nat} {L : Hp} (hH : StF l sb L) {S : StoreM} (hR : Rel S l) (root : CapM) (p : Nat) (hp : p < 2 ^ 64)
include hH hR hp
end
section
variable {k : Kn} {A : KA} {ad : Nat → Ad} {kb : Nat} {L : Hp} (hK : KH k A ad kb L)
include hK
end
attribute [local irreducible] infCap
end
section
def irqL (ch:Nat→Nat) (i j:Nat):List Value:=if j<i then [.chan (some (ch j)),.int .i64 (-1),.bool true] else [.chan none,.int .i64 0,.bool false]
def irqC (ch:Nat→Nat) (i:Nat):List Value:=irqL ch i 0++(irqL ch i 1++(irqL ch i 2++(irqL ch i 3++(irqL ch i 4++(irqL ch i 5++(irqL ch i 6++irqL ch i 7))))))
theorem irqC_set(ch:Nat→Nat)(b:Nat){i:Nat}(h:i<8):SetL (irqC ch i) (i*3) [.chan (some b),.int .i64 (-1),.bool true] (irqC (fset ch i b) (i+1)):=by
 match i,h with
 | 0,_=>exact (inferInstance:SetL [.chan none,.int .i64 0,.bool false,.chan none,.int .i64 0,.bool false,.chan none,.int .i64 0,.bool false,.chan none,.int .i64 0,.bool false,.chan none,.int .i64 0,.bool false,.chan none,.int .i64 0,.bool false,.chan none,.int .i64 0,.bool false,.chan none,.int .i64 0,.bool false] 0 [.chan (some b),.int .i64 (-1),.bool true] _)
 | 1,_=>exact (inferInstance:SetL [.chan (some (ch 0)),.int .i64 (-1),.bool true,.chan none,.int .i64 0,.bool false,.chan none,.int .i64 0,.bool false,.chan none,.int .i64 0,.bool false,.chan none,.int .i64 0,.bool false,.chan none,.int .i64 0,.bool false,.chan none,.int .i64 0,.bool false,.chan none,.int .i64 0,.bool false] 3 [.chan (some b),.int .i64 (-1),.bool true] _)
 | 2,_=>exact (inferInstance:SetL [.chan (some (ch 0)),.int .i64 (-1),.bool true,.chan (some (ch 1)),.int .i64 (-1),.bool true,.chan none,.int .i64 0,.bool false,.chan none,.int .i64 0,.bool false,.chan none,.int .i64 0,.bool false,.chan none,.int .i64 0,.bool false,.chan none,.int .i64 0,.bool false,.chan none,.int .i64 0,.bool false] 6 [.chan (some b),.int .i64 (-1),.bool true] _)
 | 3,_=>exact (inferInstance:SetL [.chan (some (ch 0)),.int .i64 (-1),.bool true,.chan (some (ch 1)),.int .i64 (-1),.bool true,.chan (some (ch 2)),.int .i64 (-1),.bool true,.chan none,.int .i64 0,.bool false,.chan none,.int .i64 0,.bool false,.chan none,.int .i64 0,.bool false,.chan none,.int .i64 0,.bool false,.chan none,.int .i64 0,.bool false] 9 [.chan (some b),.int .i64 (-1),.bool true] _)
 | 4,_=>exact (inferInstance:SetL [.chan (some (ch 0)),.int .i64 (-1),.bool true,.chan (some (ch 1)),.int .i64 (-1),.bool true,.chan (some (ch 2)),.int .i64 (-1),.bool true,.chan (some (ch 3)),.int .i64 (-1),.bool true,.chan none,.int .i64 0,.bool false,.chan none,.int .i64 0,.bool false,.chan none,.int .i64 0,.bool false,.chan none,.int .i64 0,.bool false] 12 [.chan (some b),.int .i64 (-1),.bool true] _)
 | 5,_=>exact (inferInstance:SetL [.chan (some (ch 0)),.int .i64 (-1),.bool true,.chan (some (ch 1)),.int .i64 (-1),.bool true,.chan (some (ch 2)),.int .i64 (-1),.bool true,.chan (some (ch 3)),.int .i64 (-1),.bool true,.chan (some (ch 4)),.int .i64 (-1),.bool true,.chan none,.int .i64 0,.bool false,.chan none,.int .i64 0,.bool false,.chan none,.int .i64 0,.bool false] 15 [.chan (some b),.int .i64 (-1),.bool true] _)
 | 6,_=>exact (inferInstance:SetL [.chan (some (ch 0)),.int .i64 (-1),.bool true,.chan (some (ch 1)),.int .i64 (-1),.bool true,.chan (some (ch 2)),.int .i64 (-1),.bool true,.chan (some (ch 3)),.int .i64 (-1),.bool true,.chan (some (ch 4)),.int .i64 (-1),.bool true,.chan (some (ch 5)),.int .i64 (-1),.bool true,.chan none,.int .i64 0,.bool false,.chan none,.int .i64 0,.bool false] 18 [.chan (some b),.int .i64 (-1),.bool true] _)
 | 7,_=>exact (inferInstance:SetL [.chan (some (ch 0)),.int .i64 (-1),.bool true,.chan (some (ch 1)),.int .i64 (-1),.bool true,.chan (some (ch 2)),.int .i64 (-1),.bool true,.chan (some (ch 3)),.int .i64 (-1),.bool true,.chan (some (ch 4)),.int .i64 (-1),.bool true,.chan (some (ch 5)),.int .i64 (-1),.bool true,.chan (some (ch 6)),.int .i64 (-1),.bool true,.chan none,.int .i64 0,.bool false] 21 [.chan (some b),.int .i64 (-1),.bool true] _)
instance:TyZ prog 322 (.agg [.chan none,.int .i64 0,.bool false,.chan none,.int .i64 0,.bool false,.chan none,.int .i64 0,.bool false,.chan none,.int .i64 0,.bool false,.chan none,.int .i64 0,.bool false,.chan none,.int .i64 0,.bool false,.chan none,.int .i64 0,.bool false,.chan none,.int .i64 0,.bool false].toArray):=⟨by kernel_rfl⟩
instance:TyD prog 317 (.chan .both 199):=⟨by kernel_rfl⟩
instance {x:Option Nat}:Cells (.chan x) [.chan x]:=⟨rfl⟩
instance:TyZ prog 319 (.agg [.chan none,.int .i64 0,.bool false].toArray):=⟨by kernel_rfl⟩
def chS (ch:Nat→Nat) (i:Nat):Hp:=segs (fun j=>[(ch j,chO false)]) i
theorem chS_more(ch:Nat→Nat)(b i:Nat):chS (fset ch i b) (i+1)=chS ch i++[(b,chO false)]:=by
 unfold chS;rw[segs_succ,fset_same]
 congr 1
 exact segs_congr (fun j hj=>by rw[fset_ne (by omega)])
theorem tr_qNew  : Tr prog 82 [] ([]) (fun u L' => ∃ib,u=.pointer (some ⟨ib,0,none⟩)∧IrqH (List.replicate 8 LineM.new) ib L'):=by
 refine YR func82 ntmps82 fun W F=>?_
 refine zq [3,4,1,2,5,3,4,23] ?_;refine zB fun b1=>?_
 refine zq [1,2,5,3,3,4] ?_;refine Ops.heap (L' := (b1,.cells (irqC (fun _=>0) 0).toArray 322)::(chS (fun _=>0) 0++F)) (fun w ho=>ho) ?_;refine zq [0,2,5,20] ?_;refine YM (σ:=Nat×(Nat→Nat)) [(1,_)] (fun s=>[(5,.int .i64 s.1)]) (fun s=>(b1,.cells (irqC s.2 s.1).toArray 322)::(chS s.2 s.1++F)) (fun s=>s.1≤8) (fun s=>8-s.1) (0,fun _=>0) (Nat.zero_le _) ?_;rintro ⟨i,ch⟩ KK hi hK;dsimp only[Y1,Y2]at hK ⊢;dsimp only at hi ⊢;refine zq [3,4,42,2,5,3] ?_;refine Yd rfl (fun h1=>?_) (fun h1=>?_)
 ·
  have hi8:i<8:=by omega
  haveI hset:=fun b=>irqC_set ch b hi8
  refine zq [11,5,3,20,3,4,0,1,2,5] ?_;refine AnyH.start [] 8 rfl ?_;refine zd [0,1,1,1,4,3,5,0] ?_;refine YA 2 ?_;refine Yw rfl rfl (ef_makeChan (k:=1) rfl (by decide) (by decide) rfl) fun b2=>?_
  refine zd [3,9] ?_;refine Yh 6 rfl (pv_indexAddrN (i:=i) (o2:=i*3) rfl rfl (by omega) (by omega) (by omega)) ?_;refine zK 7 ?_;refine YD ?_;refine zq [19,5,4] ?_;refine Ops.heap (L' := (b1,.cells (irqC (fset ch i b2) (i+1)).toArray 322)::(chS (fset ch i b2) (i+1)++F)) (fun w ho=>by rw[chS_more,Y7];have h2:Own W w ((b1,.cells (irqC (fset ch i b2) (i+1)).toArray 322)::(chS ch i++((b2,.chan 1 #[] false 0 0 false)::F))):=Drop.own ho;exact h2) ?_;refine Ya rfl rfl (i+1) ?_;refine zq [0,2,49] ?_;refine Yy (hK (i+1,fset ch i b2) (by dsimp only;omega) (by dsimp only;omega))
 obtain rfl:i=8:=by omega
 refine zq [41,16,16,40,5,3,4,0,1,2,5,10] ?_;exact zs (L' := (b1,.cells (irqC ch 8).toArray 322)::chS ch 8) (h:=⟨b1,rfl,ch,rfl⟩)
theorem tr_kTlbNew  : Tr prog 83 [] ([]) (fun u L' => ∃tb,u=.pointer (some ⟨tb,0,none⟩)∧TlbH [] tb L'):=by
 refine YR func83 ntmps83 fun W F=>?_
 refine zq [3,4,1,2,5,3,4,23] ?_;refine zB fun b1=>?_
 refine zq [1,2,5,10] ?_;exact zs (L' := (b1,.cells [.slice none 0 0].toArray 325)::[]) (h:=⟨b1,rfl,_,[],Slc.nil _ _,rfl⟩)
instance:TyZ prog 160 (.agg [.pointer none,.pointer none,.map none,.pointer none,.bool false,.int .i64 0,.int .u64 0,.bool false,.int .i64 0,.int .u64 0,.bool false,.int .i64 0,.int .u64 0,.bool false,.int .i64 0,.int .u64 0,.bool false,.int .i64 0,.int .u64 0,.bool false,.int .i64 0,.int .u64 0,.bool false,.int .i64 0,.int .u64 0,.bool false,.int .i64 0,.int .u64 0,.pointer none,.pointer none].toArray):=⟨by kernel_rfl⟩
theorem tr_sNewY(G:Hp)(a:Option Addr)(c:Nat)(T:Ones)(hv:View G 2 (.slice a T.length c) T.length (cel oneC T))(hl:T.length≤2^30)(hT:tmsOk T):Tr prog 80 [.slice a T.length c] (G) (fun u L' => ∃sb H,u=.tuple #[.pointer (some ⟨sb,0,none⟩),.int .i64 0]∧SchH T 0 (tkd T 0).2 (fun _=>[]) sb H∧L' = H++G) :=
  (tr_sNew G a c T hv hl).mono (by
    rintro v L' (⟨_,h⟩ | ⟨h,_⟩)
    · exact h
    · exact absurd hT h)
def Kn.new (n:Nat) (T:Ones):Kn:=⟨List.replicate n 0,PS.new,0,[],[],0,fun _=>.zero,List.replicate 8 .new,T,0,(tkd T 0).2,fun _=>[],[]⟩
theorem tr_kNew(G:Hp)(n:Nat)(hn1:64≤n)(hn2:n≤65536)(a:Option Addr)(c:Nat)(T:Ones)(hv:View G 2 (.slice a T.length c) T.length (cel oneC T))(hl:T.length≤2^30)(hT:tmsOk T)(ad:Nat→Ad):Tr prog 37 [.int .i64 n,.slice a T.length c] (G) (fun u L' => ∃kb A L1,u=.tuple #[.pointer (some ⟨kb,0,none⟩),.int .i64 0]∧KH (Kn.new n T) A ad kb L1∧L' = L1++G):=by
 refine YR func37 ntmps37 fun W F=>?_
 refine zq [3,4,1,1,2,5,3,4,0] ?_;refine zD (tr_memNew n hn1 hn2) ?_;rintro _ _ ⟨mb1,wb1,rfl,rfl⟩;refine Ops.app ?_;refine zq [0,7,7,1,1,2,5,3,3,4,0,67,2,5,17,11,5,3,4,0] ?_;refine zD (tr_sNewY G a c T hv hl hT) ?_;rintro _ _ ⟨sb1,Hs1,rfl,hs1,rfl⟩;refine Ops.app ?_;refine zq [0,7,7,1,1,2,5,3,3,4,0,67,2,5,17,11,5,3,4,0] ?_;refine zD tr_mNew ?_;rintro _ C1 ⟨cb1,rfl,hc1⟩;refine Ops.app ?_;refine Yq (ef_makeMap rfl rfl) fun b1=>?_
 refine zD tr_qNew ?_;rintro _ Q1 ⟨ib1,rfl,hq1⟩;refine Ops.app ?_;refine zq [0] ?_;refine zD tr_kTlbNew ?_;rintro _ Z1 ⟨tb1,rfl,ht1⟩;refine Ops.app ?_;refine zq [23] ?_;refine zB fun b2=>?_
 refine zq [1,1,2,5,10] ?_;exact zs (L' := (b2,kerO ⟨mb1,wb1,cb1,b1,ib1,sb1,tb1⟩ (fun _=>.zero))::(b1,.map #[] 0)::(mb1,.cells [.slice (some ⟨wb1,0,none⟩) n n].toArray 312)::(wb1,.cells (wordsC (List.replicate n 0)).toArray 50)::(Q1++(C1++(Hs1++(Z1++G))))) (h:=⟨b2,⟨mb1,wb1,cb1,b1,ib1,sb1,tb1⟩,_,rfl,⟨Q1,C1,Hs1,Z1,[],hq1,hc1,hs1,ht1,⟨fun _=>[],fun i en h=>by simp[Kn.new]at h,rfl⟩,rfl⟩,by simp[mapO,entsL,kvM,Kn.new]⟩)
end
section
theorem KW.new{n:Nat}(h1:64≤n)(h2:n≤65536){T:Ones}(hT:tmsOk T):KW (Kn.new n T) :=
  ⟨by simp[Kn.new];exact ⟨h1,h2⟩,WdOk.new n,by simp[Kn.new],fun e h=>by simp[Kn.new]at h,by simp[Kn.new],At.start hT,RdysW.nil,fun d hd=>N64.nil,fun i en h=>by simp[Kn.new]at h,fun x h=>by simp[Kn.new]at h,by simp[Kn.new]⟩
theorem fresh_ok(kd:Int):ThOk (freshT kd):=by
 unfold freshT
 repeat' split
 all_goals first
  | trivial
  | exact ⟨⟨⟨by decide,by decide,by decide,by decide,by decide,by decide,by decide,RegsM.zero_ok⟩,by decide⟩,.inl rfl⟩
  | exact N64.nil
  | exact ⟨N64.nil,by decide⟩
theorem KW.made{k:Kn}(h:KW k){n kd size:Int}{q:Int×Int}(hc:createE k n kd q size=0):KW (k.made n kd q size):=by
 obtain ⟨f1,f2,f3,f4,f5,f6⟩:=create_facts hc;have hl:(if kd≠1 then memZero k.ws q.1 (pw q.2) else k.ws).length=k.ws.length:=by split;exact memZero_len ..;rfl
 refine ⟨by unfold Kn.made;dsimp only;rw[hl];exact h.len,?_,h.nk,?_,⟨h.q.1,?_⟩,h.at_,h.rw,h.rr,?_,h.tk⟩
 ·
  unfold Kn.made;dsimp only;split
  ·
   exact h.wok.zero _ _
  ·
   exact h.wok
 ·
  intro e he;unfold Kn.made at he ⊢;dsimp only at he ⊢;rw[Y3,List.length_singleton]
  rcases List.mem_append.1 he with he | he
  ·
   have:=h.mp e he;omega
  ·
   simp at he;subst he;dsimp only;omega
 ·
  unfold Kn.made;dsimp only;rw[List.map_append,List.nodup_append];refine ⟨h.q.2,by simp,fun a ha b hb=>?_⟩;simp at hb;subst hb
  obtain ⟨e,he,rfl⟩:=List.mem_map.1 ha;have:=(h.mp e he).2.2.2;omega
 ·
  intro i en hi;unfold Kn.made at hi;dsimp only at hi
  rcases Nat.lt_or_ge i k.ar.length with hlt | hge
  ·
   rw[List.getElem?_append_left hlt]at hi;exact h.ths i en hi
  ·
   rw[List.getElem?_append_right hge]at hi;have h0:i-k.ar.length=0:=by have:=lt_of_some hi;simp at this;omega
   rw[h0]at hi;simp at hi;subst hi;exact fresh_ok kd
theorem KW.plant{k:Kn}(h:KW k)(s:SlotM)(c:CapM)(hn:k.nk<2^18):KW (k.plant s c).2:=by
 unfold Kn.plant
 split
 ·
  exact h
 ·
  exact ⟨h.len,h.wok,by dsimp only;omega,h.mp,h.q,h.at_,h.rw,h.rr,h.ths,h.tk⟩
theorem KW.setW{k:Kn}(h:KW k){ws:List Int}(hl:ws.length=k.ws.length)(hw:WdOk ws):KW { k with ws:=ws } :=
  ⟨by dsimp only;rw[hl];exact h.len,hw,h.nk,h.mp,h.q,h.at_,h.rw,h.rr,h.ths,h.tk⟩
theorem table_ok{ws:List Int}(h:WdOk ws)(d a t:Int):WdOk (tableW ws d a t):=by
 unfold tableW;split
 ·
  exact h
 ·
  exact applyW_ok h _ (setF_u64 _ _)
theorem smap_ok{ws:List Int}(h:WdOk ws)(d a t:Int)(wr:Bool):WdOk (smapW ws d a t wr):=by
 unfold smapW;split
 ·
  exact h
 ·
  exact applyW_ok h _ (setF_u64 _ _)
end
section
abbrev rootM:CapM:=⟨2,0,0,0,0,12⟩
def pokeW (ws:List Int) (at_:Int):List Int→List Int
  | []=>ws
  | v::l=>pokeW (memPut ws at_ v) (at_+1) l
def yieldF (k:Kn) (n:Int) (i:Nat) (c:Int):Kn×Bool:=if c=7 then (({ k with L:=syL k.L n }:Kn).tell i 0,false) else (k,false)
def codeN (op a b imm:Nat):Nat:=op+32*a+256*b+2048*imm
end
section
theorem tr_lCode(op a b imm:Nat)(h1o:op<32)(h2a:a<8)(h3b:b<8)(h4i:imm<4096):TrR prog 58 [.int .i64 op,.int .i64 a,.int .i64 b,.int .i64 imm] ([]) (.int .u64 (codeN op a b imm:Nat)):=by
 have e1:(op:Int).tmod 32=(op:Nat):=by rw[Int.tmod_eq_emod_of_nonneg (by omega)];omega
 have e2:(a:Int).tmod 8=(a:Nat):=by rw[Int.tmod_eq_emod_of_nonneg (by omega)];omega
 have e3:(b:Int).tmod 8=(b:Nat):=by rw[Int.tmod_eq_emod_of_nonneg (by omega)];omega
 have e4:(imm:Int).tmod 4096=(imm:Nat):=by rw[Int.tmod_eq_emod_of_nonneg (by omega)];omega
 refine YR func58 ntmps58 fun W F=>?_
 refine zq [3,4,1,2,5,3,4,0] ?_;refine Yp (pv_rem rfl rfl (by decide) e1) ?_;refine zq [0] ?_;refine Yp (pv_rem rfl rfl (by decide) e2) ?_;refine Yp (pv_mul rfl rfl (w64n (k:=32*a) (by omega) (by omega))) ?_;refine Ya rfl rfl (op+32*a) ?_;refine zq [0] ?_;refine Yp (pv_rem rfl rfl (by decide) e3) ?_;refine Yp (pv_mul rfl rfl (w64n (k:=256*b) (by omega) (by omega))) ?_;refine Ya rfl rfl (op+32*a+256*b) ?_;refine zq [0] ?_;refine Yp (pv_rem rfl rfl (by decide) e4) ?_;refine Yp (pv_mul rfl rfl (w64n (k:=2048*imm) (by omega) (by omega))) ?_;refine Yp (pv_add rfl rfl (w64n (k:=codeN op a b imm) (by unfold codeN;omega) (by unfold codeN;omega))) ?_;refine Yp (pv_conv rfl (u64n (k:=codeN op a b imm) rfl (by unfold codeN;omega))) ?_;refine zq [1,2,5,10] ?_;exact zr ⟨rfl,rfl⟩
theorem putE_ne{ws:List Int}{a v:Int}(h:memPutE ws a≠0):memPut ws a v=ws:=by
 unfold memPutE at h;unfold memPut
 by_cases hc:memIn ws a 1
 ·
  rw[if_pos hc]at h;exact absurd rfl h
 rw[if_neg hc]
theorem atK_kp(k:Kn)(s a:Int):Kp k (k.atK s a):=⟨rfl,fun i t c s b sp h=>⟨t,h⟩⟩
theorem Kp.ws{k:Kn}{ws:List Int}:Kp k { k with ws:=ws }:=⟨rfl,fun i t c s b sp h=>⟨t,h⟩⟩
theorem Kp.sl{k:Kn}{L:Nat→Ones}:Kp k { k with L:=L }:=⟨rfl,fun i t c s b sp h=>⟨t,h⟩⟩
theorem run_kw{k:Kn}(hw:KW k){i:Nat}{t:ThrM}{c:CapM}{s b:Int}{sp:Int×Int}(he:k.ar[i]?=some ⟨.thr t c s b,sp⟩)(n:Int)(hr:k.tl.length≤6) :
    KW (k.run (fun k' c=>yieldF k' n i c) i t s).1∧Kp k (k.run (fun k' c=>yieldF k' n i c) i t s).1:=by
  have htw:=(hw.ths i _ he).1
  have hw1:=hw.atK s t.pc (by omega)
  have hl1:=atK_len s t.pc (k:=k) (by omega)
  have hw2:=fun a=>hw1.atK s a (by omega)
  have k1:=atK_kp k s t.pc
  have k2:=fun a=>k1.trans (atK_kp (k.atK s t.pc) s a)
  unfold Kn.run;dsimp only
  split
  · exact ⟨hw1,k1⟩
  · rename_i hb
    have hxo:(effI k t s).Ok:=run_ok (unpI_ok (Decidable.of_not_not (fun h=>hb (.inr h)))) htw.wf.regs htw.pc
    have hd:∀u,ThW u→ThW (doneT (effI k t s) u):=fun u hu=>done_w hu hxo
    split
    · exact ⟨hw1,k1⟩
    · split
      · split
        · exact ⟨hw2 _,k2 _⟩
        · have h:=(hw2 (effI k t s).at_).setI i (f:=doneT { effI k t s with regs:=(effI k t s).regs.set ((k.atK s t.pc).loadR s (effI k t s).at_).1 (effI k t s).reg.toNat }) (fun u hu=>done_w hu ⟨hxo.regs.set (load_u64 hw1 _ _) _,hxo.pc,hxo.at_,hxo.reg,hxo.val⟩)
          exact ⟨h.1,(k2 _).trans h.2⟩
      · split
        · split
          · exact ⟨hw2 _,k2 _⟩
          · split
            · exact ⟨hw2 _,k2 _⟩
            · have h:=((hw2 (effI k t s).at_).setM ((k.atK s t.pc).atR s (effI k t s).at_ true).1 hxo.val).setI i hd
              exact ⟨h.1,((k2 _).trans Kp.ws).trans h.2⟩
        · split
          · have h:=hw1.setI i hd
            unfold yieldF
            split
            · have h2:=(h.1.setL (syW h.1.rw n) (syR h.1.rr n)).setI i (f:=fun t=>{ t with regs:=ansR t.regs 0 }) (fun u hu=>hu.regs (ans_ok hu.wf.regs (by decide)))
              simp only[Bool.false_eq_true,if_false];exact ⟨h2.1,((k1.trans h.2).trans Kp.sl).trans h2.2⟩
            · simp only[Bool.false_eq_true,if_false]
              exact ⟨h.1,k1.trans h.2⟩
          · have h:=hw1.setI i hd
            exact ⟨h.1,k1.trans h.2⟩
structure StY (k:Kn):Prop where
  kw:KW k
  tl:k.tl.length≤6
  cur:k.curB=true→(k.thr k.cur).isSome=true
  sp:∀x,k.thr k.cur=some x→x.2.2.1 = -1∨(k.ix x.2.2.1).isSome=true
  c3:∀x,k.thr k.cur=some x→¬badI k x.1 x.2.2.1→(effI k x.1 x.2.2.1).asks=3→(effI k x.1 x.2.2.1).val=7
theorem step_yes{k:Kn}{F:Kn→Int→Nat→Int→Kn×Bool}(hB:k.curB=true){i:Nat}{x:ThrM×CapM×Int×Int}(hi:k.ix k.cur=some i)(hx:k.thr k.cur=some x) :
    k.step F=(if (k.run (fun k' c=>F k' k.cur i c) i x.1 x.2.2.1).2=true then (k.run (fun k' c=>F k' k.cur i c) i x.1 x.2.2.1).1 else (k.run (fun k' c=>F k' k.cur i c) i x.1 x.2.2.1).1.halt k.cur,true):=by
  unfold Kn.step;rw[if_pos hB,hi,hx]
theorem step_kw{k:Kn}(h:StY k):KW (k.step yieldF).1∧Kp k (k.step yieldF).1:=by
 cases hB:k.curB with
 | false =>
  have e:k.step yieldF=(k,false):=by unfold Kn.step;rw[hB];rfl
  rw[e];exact ⟨h.kw,Kp.refl _⟩
 | true =>
  obtain ⟨x,hx⟩:=Option.isSome_iff_exists.1 (h.cur hB);obtain ⟨i,sp,hi,he⟩:=thr_ex hx;rw[step_yes hB hi hx];obtain ⟨hwq,hkp⟩:=run_kw h.kw he k.cur h.tl;dsimp only
  split
  ·
   exact ⟨hwq,hkp⟩
  ·
   obtain ⟨h1,h2⟩:=hwq.halt k.cur;exact ⟨h1,hkp.trans h2⟩
def stB (k:Kn):Bool:=match k.thr k.cur with
  | none=>!k.curB
  | some x=>(decide (x.2.2.1 = -1) || (k.ix x.2.2.1).isSome) && (decide (badI k x.1 x.2.2.1) || decide ((effI k x.1 x.2.2.1).asks≠3) || decide ((effI k x.1 x.2.2.1).val=7))
theorem StY.of{k:Kn}(hw:KW k)(ht:k.tl.length≤6)(hb:stB k=true):StY k:=by
 cases hx:k.thr k.cur with
 | none =>
  unfold stB at hb;rw[hx]at hb
  refine ⟨hw,ht,fun h=>?_,fun x h=>?_,fun x h=>?_⟩
  ·
   rw[h]at hb;cases hb
  ·
   rw[hx]at h;cases h
  ·
   rw[hx]at h;cases h
 | some x =>
  unfold stB at hb;rw[hx]at hb
  simp only[Bool.and_eq_true,Bool.or_eq_true,decide_eq_true_eq]at hb;refine ⟨hw,ht,fun h=>by rw[hx];rfl,fun y h=>?_,fun y h h1 h2=>?_⟩
  ·
   rw[hx]at h;cases h;exact hb.1
  ·
   rw[hx]at h;cases h
   rcases hb.2 with (h3 | h3) | h3
   ·
    exact absurd h3 h1
   ·
    exact absurd h2 h3
   ·
    exact h3
end
section
section
variable {k : Kn} {A : KA} {ad : Nat → Ad} {kb : Nat} {L : Hp} (hK : KH k A ad kb L)
include hK
theorem KH.isK(hw:KW k)(n kd:Int):TrR prog 99 [pV kb,.int .i64 n,.int .i64 kd] L (.bool (k.isK n kd)):=hK.objs fun E hE=>tr_is k A ad kb E hE hw n kd
theorem KH.gPageY{n:Int}{i:Nat}{q:Int}{m:Bool}{s a:Int}{sp:Int×Int}(hi:k.ix n=some i)(he:k.ar[i]?=some ⟨.page q m s a,sp⟩):TrR prog 156 [pV kb,.int .i64 n] L (.tuple #[pV (ad i).tb,.bool true]):=hK.objs fun E hE=>tr_getPageY k A ad kb E hE n hi he
theorem KH.gPageF(hw:KW k){n:Int}(hn:gIs k n 169=false):TrR prog 156 [pV kb,.int .i64 n] L (.tuple #[.pointer none,.bool false]):=hK.objs fun E hE=>tr_getPageF k A ad kb E hE hw n hn
theorem KH.memSize:TrR prog 85 [memP A.mb] L (.int .i64 k.ws.length):=by
 obtain ⟨Iq,Lc,Ls,Lt,E,hI,hC,hS,hT,hE,rfl⟩:=hK;exact (tr_memSize k.ws A.mb A.wb k.ws.length).frame
theorem KH.taken(hw:KW k)(kd:Int)(q:Int×Int):TrR prog 86 [pV kb,.int .i64 kd,slotV q] L (.bool (k.taken kd q)):=hK.objs fun E hE=>tr_kTaken k A ad kb E hE hw kd q
end
theorem page_ex{k:Kn}{n:Int}{x:Int×Bool×Int×Int}(h:k.page n=some x):∃i sp,k.ix n=some i∧k.ar[i]?=some ⟨.page x.1 x.2.1 x.2.2.1 x.2.2.2,sp⟩:=by
 unfold Kn.page Kn.en at h;cases hi:k.ix n with
 | none=>rw[hi]at h;cases h
 | some i =>
  rw[hi,Option.bind_some]at h
  split at h
  ·
   rename_i q m s a sp he;cases h;exact ⟨i,sp,rfl,he⟩
  ·
   cases h
theorem page_is{k:Kn}(hw:KW k)(n:Int):gIs k n 169=(k.page n).isSome:=by
 cases hi:k.ix n with
 | none=>rw[gIs_none hi];unfold Kn.page Kn.en;rw[hi];rfl
 | some i =>
  obtain ⟨⟨th,sp⟩,he⟩:=hw.en hi;rw[gIs_some hi he];unfold Kn.page Kn.en;rw[hi,Option.bind_some,he]
  cases th <;> rfl
theorem page_eq{k:Kn}{n:Int}{i:Nat}{q:Int}{m:Bool}{s a:Int}{sp:Int×Int}(hi:k.ix n=some i)(he:k.ar[i]?=some ⟨.page q m s a,sp⟩):k.page n=some (q,m,s,a):=by
 unfold Kn.page Kn.en;rw[hi,Option.bind_some,he]
theorem isK_ex{k:Kn}{n kd:Int}(h:k.isK n kd=true):∃i en,k.ix n=some i∧k.ar[i]?=some en∧en.th.kind=kd:=by
 unfold Kn.isK Kn.en at h;cases hi:k.ix n with
 | none=>rw[hi]at h;cases h
 | some i =>
  rw[hi,Option.bind_some]at h;cases he:k.ar[i]? with
  | none=>rw[he]at h;cases h
  | some en=>rw[he]at h;exact ⟨i,en,rfl,he,of_decide_eq_true h⟩
theorem create_e1{k:Kn}{n kd:Int}{q:Int×Int}{size:Int}(h:n<0∨n≥64):createE k n kd q size=1:=if_pos h
theorem create_e2{k:Kn}{n kd:Int}{q:Int×Int}{size:Int}(h:¬(n<0∨n≥64))(h2:k.free n=false):createE k n kd q size=4:=(if_neg h).trans (if_pos h2)
theorem create_e3{k:Kn}{n kd:Int}{q:Int×Int}{size:Int}(h:¬(n<0∨n≥64))(h2:k.free n=true)(h3:spanE k kd size q≠0):createE k n kd q size=spanE k kd size q:=(if_neg h).trans ((if_neg (by rw[h2];decide)).trans (if_pos h3))
theorem create_e4{k:Kn}{n kd:Int}{q:Int×Int}{size:Int}(h:¬(n<0∨n≥64))(h2:k.free n=true)(h3:¬spanE k kd size q≠0)(h4:k.taken kd q=true):createE k n kd q size=7:=(if_neg h).trans ((if_neg (by rw[h2];decide)).trans ((if_neg h3).trans (if_pos h4)))
theorem create_e5{k:Kn}{n kd:Int}{q:Int×Int}{size:Int}(h:¬(n<0∨n≥64))(h2:k.free n=true)(h3:¬spanE k kd size q≠0)(h4:k.taken kd q=false):createE k n kd q size=0:=(if_neg h).trans ((if_neg (by rw[h2];decide)).trans ((if_neg h3).trans (if_neg (by rw[h4];decide))))
theorem tr_kCreateN(k:Kn)(A:KA)(ad:Nat→Ad)(kb:Nat)(L:Hp)(hK:KH k A ad kb L)(hx:KX k)(n kd:Int)(q:Int×Int)(size:Int)(hsz:I64 size)(hc:createE k n kd q size≠0):TrR prog 40 [pV kb,.int .i64 n,.int .i64 kd,slotV q,.int .i64 size] (L) (.int .i64 (createE k n kd q size)):=by
 have hw:=hx.kw
 haveI:=hK.kblk
 refine YR func40 ntmps40 fun W F=>?_
 refine Wr ?_;refine zB fun b1=>?_
 refine zq [1,2,5,3,20,3,4,0,42,0] ?_;refine Yn rfl rfl (fun hg=>pv_move rfl) ?_;refine Yn rfl rfl (fun hg=>Ys 17 rfl hg (pv_geq rfl rfl)) ?_;refine zq [47,1,2,5] ?_;refine Yd rfl (fun h1=>?_) (fun h1=>?_)
 ·
  refine zq [3,4,1,2,5,10,15,12] ?_;exact zs (h:=⟨by rw[create_e1 (by assumption)],rfl⟩)
 refine zq [3,4,0,0] ?_;refine zC (tr_kFree k A ad kb _ hK hw n) ?_;refine zq [39,1,2,5] ?_;refine Wp.cond_t rfl (fun h2=>?_) (fun h2=>?_)
 ·
  refine zq [3,4,1,2,5,10,15,12] ?_;exact zs (h:=⟨by rw[create_e2 (by assumption) (by simp_all)],rfl⟩)
 refine zq [11,19,5,3,4,0,0] ?_;refine zC (tr_uBits kd size hsz) ?_;refine zq [0,7,7,1,1,2,5,3,3,4,0,22,0] ?_;refine Yc rfl rfl (fun hg=>pv_move rfl) ?_;refine Yc rfl rfl (fun hg=>Ys 34 rfl hg (pv_fieldAddr0 rfl rfl)) ?_;refine Yc rfl rfl (fun hg=>Ys 34 rfl hg (Ys 35 rfl hg (pv_load rfl rfl rfl))) ?_;refine Yc rfl rfl (fun hg=>Ys 34 rfl hg (Ys 35 rfl hg (Ys 36 rfl hg (pv_neq rfl rfl)))) ?_;refine zq [46,2,5] ?_;refine Yd rfl (fun h3=>?_) (fun h3=>?_)
 ·
  have hbe:bitsE kd size q.2=1:=if_pos (by assumption)
  refine zq [4,1,2,5,3,3,4,0,22,2,5] ?_;refine Yd rfl (fun h4=>?_) (fun h4=>?_)
  ·
   have hse:spanE k kd size q=checkS q k.ws.length:=if_pos (by rw[hbe];assumption)
   refine AnyH.start [(kb,kerO A k.wi),(b1,.cells [.int .i64 q.1,.int .i64 q.2].toArray 55)] 8 rfl ?_;refine zd [0,10,1,1,2,3,3,0,4,2] ?_;refine YA 5 ?_;refine Yu rfl rfl (ef_callr (hK.memSize) rfl rfl) ?_;refine YA 6 ?_;refine Yu rfl rfl (ef_callr (tr_spCheck q k.ws.length) rfl rfl) ?_;refine zd [7,5] ?_;refine YD ?_;refine zq [5,3,20,3,4,0,27,1,2,5] ?_;refine Yd rfl (fun h5=>?_) (fun h5=>?_)
   ·
    refine zq [3,4,0,1,2,5,10,15,12] ?_;exact zs (h:=⟨by rw[create_e3 (by assumption) (by simp_all) (by rw[hse];assumption),hse],rfl⟩)
   refine zq [3,4,0,0,30] ?_;refine zC (hK.taken hw kd q) ?_;refine zq [1,2,5] ?_;refine Wp.cond_t rfl (fun h6=>?_) (fun h6=>absurd (create_e5 (by assumption) (by simp_all) (by rw[hse];assumption) (by assumption)) hc);refine zq [3,4,1,2,5,10,15,12] ?_;exact zs (h:=⟨by rw[create_e4 (by assumption) (by simp_all) (by rw[hse];assumption) (by assumption)],rfl⟩)
  have hse:spanE k kd size q=1:=(if_neg (by rw[hbe];assumption)).trans hbe
  refine zq [11,5,3,20,3,4,0,27,1,2,5] ?_;refine Yd rfl (fun h7=>?_) (fun h7=>?_)
  ·
   refine zq [3,4,0,1,2,5,10,15,12] ?_;exact zs (h:=⟨by rw[create_e3 (by assumption) (by simp_all) (by rw[hse];assumption),hse],rfl⟩)
  refine zq [3,4,0,0,30] ?_;refine zC (hK.taken hw kd q) ?_;refine zq [1,2,5] ?_;refine Wp.cond_t rfl (fun h8=>?_) (fun h8=>absurd (create_e5 (by assumption) (by simp_all) (by rw[hse];assumption) (by assumption)) hc);refine zq [3,4,1,2,5,10,15,12] ?_;exact zs (h:=⟨by rw[create_e4 (by assumption) (by simp_all) (by rw[hse];assumption) (by assumption)],rfl⟩)
 have hbe:bitsE kd size q.2=(bitsU kd size).2:=if_neg (by assumption)
 refine zq [11,5,3,3,4,0,22,2,5] ?_;refine Yd rfl (fun h9=>?_) (fun h9=>?_)
 ·
  have hse:spanE k kd size q=checkS q k.ws.length:=if_pos (by rw[hbe];assumption)
  refine AnyH.start [(kb,kerO A k.wi),(b1,.cells [.int .i64 q.1,.int .i64 q.2].toArray 55)] 8 rfl ?_;refine zd [0,10,1,1,2,3,3,0,4,2] ?_;refine YA 5 ?_;refine Yu rfl rfl (ef_callr (hK.memSize) rfl rfl) ?_;refine YA 6 ?_;refine Yu rfl rfl (ef_callr (tr_spCheck q k.ws.length) rfl rfl) ?_;refine zd [7,5] ?_;refine YD ?_;refine zq [5,3,20,3,4,0,27,1,2,5] ?_;refine Yd rfl (fun h10=>?_) (fun h10=>?_)
  ·
   refine zq [3,4,0,1,2,5,10,15,12] ?_;exact zs (h:=⟨by rw[create_e3 (by assumption) (by simp_all) (by rw[hse];assumption),hse],rfl⟩)
  refine zq [3,4,0,0,30] ?_;refine zC (hK.taken hw kd q) ?_;refine zq [1,2,5] ?_;refine Wp.cond_t rfl (fun h11=>?_) (fun h11=>absurd (create_e5 (by assumption) (by simp_all) (by rw[hse];assumption) (by assumption)) hc);refine zq [3,4,1,2,5,10,15,12] ?_;exact zs (h:=⟨by rw[create_e4 (by assumption) (by simp_all) (by rw[hse];assumption) (by assumption)],rfl⟩)
 have hse:spanE k kd size q=(bitsU kd size).2:=(if_neg (by rw[hbe];assumption)).trans hbe
 refine zq [11,5,3,20,3,4,0,27,1,2,5] ?_;refine Yd rfl (fun h12=>?_) (fun h12=>?_)
 ·
  refine zq [3,4,0,1,2,5,10,15,12] ?_;exact zs (h:=⟨by rw[create_e3 (by assumption) (by simp_all) (by rw[hse];assumption),hse],rfl⟩)
 refine zq [3,4,0,0,30] ?_;refine zC (hK.taken hw kd q) ?_;refine zq [1,2,5] ?_;refine Wp.cond_t rfl (fun h13=>?_) (fun h13=>absurd (create_e5 (by assumption) (by simp_all) (by rw[hse];assumption) (by assumption)) hc);refine zq [3,4,1,2,5,10,15,12] ?_;exact zs (h:=⟨by rw[create_e4 (by assumption) (by simp_all) (by rw[hse];assumption) (by assumption)],rfl⟩)
theorem tr_kCreate(k:Kn)(A:KA)(ad:Nat→Ad)(kb:Nat)(L:Hp)(hK:KH k A ad kb L)(hx:KX k)(n kd:Int)(q:Int×Int)(size:Int)(hsz:I64 size):Tr prog 40 [pV kb,.int .i64 n,.int .i64 kd,slotV q,.int .i64 size] L (fun u L' => u=.int .i64 (createE k n kd q size)∧∃a,KH (if createE k n kd q size=0 then k.made n kd q size else k) A (if createE k n kd q size=0 then fset ad k.ar.length a else ad) kb L'):=by
 by_cases hc:createE k n kd q size=0
 ·
  simp only[if_pos hc,hc]
  by_cases h1:kd=1
  ·
   exact tr_kCreateUa k A ad kb L hK hx.kw n kd q size hsz hc h1
  exact tr_kCreateZa k A ad kb L hK hx.kw n kd q size hsz hc h1
 simp only[if_neg hc];exact Tr.mono (tr_kCreateN k A ad kb L hK hx n kd q size hsz hc) (fun v L' h=>⟨h.1,⟨0,0,0⟩,by rw[h.2];exact hK⟩)
theorem apply_no{ws:List Int}{a:Int}{f:Int→Int×Int}(h:applyE ws a f≠0):applyW ws a f=ws:=by
 unfold applyE at h;unfold applyW
 split
 ·
  rfl
 rename_i h1;rw[if_neg h1]at h;exact putE_ne h
theorem table_no{ws:List Int}{d a t:Int}(h:tableE ws d a t≠0):tableW ws d a t=ws:=by
 unfold tableE at h;unfold tableW
 split
 ·
  rfl
 rename_i h1;rw[if_neg h1]at h;exact apply_no h
theorem smap_no{ws:List Int}{d a t:Int}{wr:Bool}(h:smapE ws d a t wr≠0):smapW ws d a t wr=ws:=by
 unfold smapE at h;unfold smapW
 split
 ·
  rfl
 rename_i h1;rw[if_neg h1]at h;exact apply_no h
theorem mapE_none{k:Kn}{n into a:Int}{wr:Bool}(h:k.page n=none):mapE k n into a wr=3:=by unfold mapE;rw[h]
theorem mapE_spc{k:Kn}{n into a:Int}{wr:Bool}{x:Int×Bool×Int×Int}(h:k.page n=some x)(h2:k.isK into 8=false):mapE k n into a wr=3:=by unfold mapE;rw[h];dsimp only;rw[if_pos h2]
theorem mapE_twice{k:Kn}{n into a:Int}{wr:Bool}{x:Int×Bool×Int×Int}(h:k.page n=some x)(h2:k.isK into 8=true)(h3:x.2.1=true):mapE k n into a wr=4:=by unfold mapE;rw[h];dsimp only;rw[if_neg (by rw[h2];decide),if_pos h3]
theorem mapE_go{k:Kn}{n into a:Int}{wr:Bool}{x:Int×Bool×Int×Int}(h:k.page n=some x)(h2:k.isK into 8=true)(h3:x.2.1=false):mapE k n into a wr=if x.1=7 then tableE k.ws (spcAt k into) a (spcAt k n) else smapE k.ws (spcAt k into) a (spcAt k n) wr:=by unfold mapE;rw[h];dsimp only;rw[if_neg (by rw[h2];decide),if_neg (by rw[h3];decide)]
theorem map_no{k:Kn}{n into a:Int}{wr:Bool}(h:mapE k n into a wr≠0):k.map n into a wr=k:=by
 unfold Kn.map
 split
 ·
  rw[if_pos h]
 rfl
theorem tr_kMapN(k:Kn)(A:KA)(ad:Nat→Ad)(kb:Nat)(L:Hp)(hK:KH k A ad kb L)(hx:KX k)(n into a:Int)(ha:I64 a)(wr:Bool)(hn:k.page n=none):TrR prog 93 [pV kb,.int .i64 n,.int .i64 into,.int .i64 a,.bool wr] (L) (.int .i64 3):=by
 have hw:=hx.kw
 have hg:=page_is hw n
 rw[hn]at hg;refine YR func93 ntmps93 fun W F=>?_
 refine zq [3,4,1,2,5,3,4,0,0] ?_;refine zC (hK.gPageF hw hg) ?_;refine zq [0,7,7,1,1,2,5,3,20,3,4,0,0] ?_;refine zC (hK.isK hw into 8) ?_;refine zq [39,0] ?_;refine Ops.splitb (t:=27) rfl (fun h1=>?_) (fun h1=>?_)
 ·
  refine zq [13,13,24,1,2,5,18,3,4,1,2,5,10,15,12] ?_;exact zr ⟨rfl,rfl⟩
 refine zq [21,54,26,1,2,5] ?_;refine Wp.cond_t rfl (fun h2=>?_) (fun h2=>(by exfalso;simp_all));refine zq [3,4,1,2,5,10,15,12] ?_;exact zr ⟨rfl,rfl⟩
theorem tr_kMapB(k:Kn)(A:KA)(ad:Nat→Ad)(kb:Nat)(L:Hp)(hK:KH k A ad kb L)(hx:KX k)(n into a:Int)(ha:I64 a)(wr:Bool){i:Nat}{q s0 a0:Int}{m:Bool}{sp:Int×Int}(hi:k.ix n=some i)(he:k.ar[i]?=some ⟨.page q m s0 a0,sp⟩)(hbad:k.isK into 8=false∨m=true):TrR prog 93 [pV kb,.int .i64 n,.int .i64 into,.int .i64 a,.bool wr] (L) (.int .i64 (mapE k n into a wr)):=by
 have hw:=hx.kw
 haveI:Blk L (ad i).tb (pageO q m s0 a0):=hK.tb he
 have hp:=page_eq hi he
 refine YR func93 ntmps93 fun W F=>?_
 refine zq [3,4,1,2,5,3,4,0,0] ?_;refine zC (hK.gPageY hi he) ?_;refine zq [0,7,7,1,1,2,5,3,20,3,4,0,0] ?_;refine zC (hK.isK hw into 8) ?_;refine zq [39,0] ?_;refine Ops.splitb (t:=27) rfl (fun h1=>?_) (fun h1=>?_)
 ·
  refine zq [13,13,24,1,2,5,18,3,4,1,2,5,10,15,12] ?_;exact zs (h:=⟨by rw[mapE_spc hp (by simp_all)],rfl⟩)
 refine zq [21,54,26,1,2,5] ?_;refine Wp.cond_t rfl (fun h2=>?_) (fun h2=>?_)
 ·
  refine zq [3,4,1,2,5,10,15,12] ?_;exact zs (h:=⟨by rw[mapE_spc hp (by simp_all)],rfl⟩)
 refine zq [3,4,0,9,6,8,1,2,5] ?_;refine Wp.cond_t rfl (fun h3=>?_) (fun h3=>(by exfalso;simp_all));refine zq [3,4,1,2,5,10,15,12] ?_;exact zs (h:=⟨by rw[mapE_twice hp (by simp_all) (by assumption)],rfl⟩)
theorem tr_kMap(k:Kn)(A:KA)(ad:Nat→Ad)(kb:Nat)(L:Hp)(hK:KH k A ad kb L)(hx:KX k)(n into a:Int)(ha:I64 a)(wr:Bool):Tr prog 93 [pV kb,.int .i64 n,.int .i64 into,.int .i64 a,.bool wr] L (fun u L' => u=.int .i64 (mapE k n into a wr)∧KH (k.map n into a wr) A ad kb L'):=by
 cases hp:k.page n with
 | none =>
  have e:=mapE_none (into:=into) (a:=a) (wr:=wr) hp
  rw[map_no (by rw[e];decide),e];exact Tr.mono (tr_kMapN k A ad kb L hK hx n into a ha wr hp) (fun v L' h=>⟨h.1,by rw[h.2];exact hK⟩)
 | some x =>
  obtain ⟨q,m,s0,a0⟩:=x;obtain ⟨i,sp,hi,he⟩:=page_ex hp;dsimp only at he
  by_cases hb:k.isK into 8=false∨m=true
  ·
   have e:mapE k n into a wr≠0:=by
    cases h2:k.isK into 8 with
    | false=>rw[mapE_spc hp h2];decide
    | true=>rw[mapE_twice hp h2 (by simp_all)];decide
   rw[map_no e];exact Tr.mono (tr_kMapB k A ad kb L hK hx n into a ha wr hi he hb) (fun v L' h=>⟨h.1,by rw[h.2];exact hK⟩)
  ·
   simp only[not_or,Bool.not_eq_false,Bool.not_eq_true]at hb;obtain ⟨h8,hm⟩:=hb;subst hm;obtain ⟨j,en,hj,hej,hk8⟩:=isK_ex h8;have eg:=mapE_go (a:=a) (wr:=wr) hp h8 rfl
   rw[spcAt_eq hj hej,spcAt_eq hi he]at eg
   by_cases h7:q=7
   ·
    rw[if_pos h7]at eg;refine (tr_kMapTable k A ad kb L hK hx.kw n into hi he hj hej hk8 a ha wr h7).mono ?_;rintro v L' ⟨rfl,h2⟩;refine ⟨by rw[eg],?_⟩
    by_cases h0:tableE k.ws en.sp.1 a sp.1=0
    ·
     rw[if_pos h0]at h2;unfold Kn.map;rw[hi,hp];dsimp only
     rw[if_neg (by rw[eg,h0];decide),if_pos h7,spcAt_eq hj hej,spcAt_eq hi he];exact h2
    ·
     rw[if_neg h0,table_no h0]at h2;rw[map_no (by rw[eg];exact h0)];exact h2
   ·
    rw[if_neg h7]at eg;refine (tr_kMapFrame k A ad kb L hK hx.kw n into hi he hj hej hk8 a ha wr h7).mono ?_;rintro v L' ⟨rfl,h2⟩;refine ⟨by rw[eg],?_⟩
    by_cases h0:smapE k.ws en.sp.1 a sp.1 wr=0
    ·
     rw[if_pos h0]at h2;unfold Kn.map;rw[hi,hp];dsimp only
     rw[if_neg (by rw[eg,h0];decide),if_neg h7,spcAt_eq hj hej,spcAt_eq hi he];exact h2
    ·
     rw[if_neg h0,smap_no h0]at h2;rw[map_no (by rw[eg];exact h0)];exact h2
theorem setup_none{k:Kn}{n lvl dom pc:Int}{root:CapM}{space:Int}(h:k.thr n=none):setupE k n lvl dom pc root space=3:=by unfold setupE;rw[h]
theorem setup_no{k:Kn}{n lvl dom pc:Int}{root:CapM}{space:Int}{r:RegsM}(h:setupE k n lvl dom pc root space≠0):k.setup n lvl dom pc root space r=k:=if_pos h
section
variable {k : Kn} {n lvl dom pc : Int} {root : CapM} {space : Int} {i : Nat} {t : ThrM} {c : CapM} {s b : Int} {sp : Int × Int} (hi : k.ix n = some i) (he : k.ar[i]? = some ⟨.thr t c s b, sp⟩)
include hi he
theorem setup_eq:setupE k n lvl dom pc root space=if (newTM lvl dom).2≠0 then (newTM lvl dom).2 else if pc<0∨pc≥4096 then 1 else if t.st≠0 then 8 else if root.kind≠2∨k.named root=false∨(space ≠ -1∧k.isK space 8=false) then 2 else 0:=by
 unfold setupE;rw[thr_eq hi he]
theorem setup_yes(h0:setupE k n lvl dom pc root space=0)(r:RegsM):k.setup n lvl dom pc root space r={ k with ar:=setA k.ar i (.thr ⟨0,0,0,false,t.caller,lvl,dom,pc,r⟩ root space b) }:=by
 unfold Kn.setup;rw[if_neg (fun h=>h h0),hi,thr_eq hi he];rfl
end
theorem newTM_yes{lvl dom:Int}(h:(newTM lvl dom).2=0):newTM lvl dom=(newT lvl dom,0):=by
 unfold newTM at *
 split
 ·
  rfl
 rename_i h1;rw[if_neg h1]at h;cases h
theorem tr_kSetupN(k:Kn)(A:KA)(ad:Nat→Ad)(kb:Nat)(L:Hp)(hK:KH k A ad kb L)(hx:KX k)(n lvl dom pc:Int)(root:CapM)(space:Int)(r:RegsM)(hn:k.thr n=none):TrR prog 98 [pV kb,.int .i64 n,.int .i64 lvl,.int .i64 dom,.int .i64 pc,root.v,.int .i64 space,r.v] (L) (.int .i64 3):=by
 refine YR func98 ntmps98 fun W F=>?_
 refine Wr ?_;refine zB fun b1=>?_
 refine zB fun b2=>?_
 refine zq [1,2,5,3,4,0,0] ?_;refine zC (hK.gThrZ hx.kw hn) ?_;refine zq [0,7,7,1,1,2,5,3,3,4,0,39,2,5,18,3,4,1,2,5,10,12] ?_;exact zr ⟨rfl,rfl⟩
theorem tr_kSetupS(k:Kn)(A:KA)(ad:Nat→Ad)(kb:Nat)(L:Hp)(hK:KH k A ad kb L)(hx:KX k)(n lvl dom pc:Int)(root:CapM)(space:Int)(r:RegsM){i:Nat}{t:ThrM}{c:CapM}{s b:Int}{sp:Int×Int}(hi:k.ix n=some i)(he:k.ar[i]?=some ⟨.thr t c s b,sp⟩):Tr prog 98 [pV kb,.int .i64 n,.int .i64 lvl,.int .i64 dom,.int .i64 pc,root.v,.int .i64 space,r.v] (L) (fun u L' => u=.int .i64 (setupE k n lvl dom pc root space)∧KH (k.setup n lvl dom pc root space r) A ad kb L'):=by
 have hw:=hx.kw
 haveI:=hK.thr he
 haveI:=hK.kblk
 refine YR func98 ntmps98 fun W F=>?_
 refine Wr ?_;refine zB fun b1=>?_
 refine zB fun b2=>?_
 refine zq [1,2,5,3,4,0,0] ?_;refine zC (hK.gThrY hi he) ?_;refine zq [0,7,7,1,1,2,5,3,3,4,0,39,2,5,17,11,5,3,4,0,0] ?_;refine zC (tr_tNew lvl dom) ?_;refine zq [0,7,7] ?_;refine zA fun b3=>?_
 refine zq [14,1,2,5,3,20,3,4,0,27,1,2,5] ?_;refine Yd rfl (fun h1=>?_) (fun h1=>?_)
 ·
  have h35:(newTM lvl dom).2≠0:=by assumption
  refine zq [3,4,0,1,2,5,10,15,12] ?_;have e0:setupE k n lvl dom pc root space=(newTM lvl dom).2:=by rw[setup_eq hi he,if_pos h35]
  rw[setup_no (by rw[e0];exact h35),e0];exact zr (L' := L) ⟨rfl,hK⟩
 have h35:¬(newTM lvl dom).2≠0:=by assumption
 have h1n:(newTM lvl dom).2=0:=by omega
 rw[newTM_yes h1n];dsimp only[newT];refine zq [3,4,0,42,0] ?_;refine Yn rfl rfl (fun hg=>pv_move rfl) ?_;refine Yn rfl rfl (fun hg=>Ys 43 rfl hg (pv_geq rfl rfl)) ?_;refine zq [47,1,2,5] ?_;refine Yd rfl (fun h2=>?_) (fun h2=>?_)
 ·
  have h39:pc<0∨pc≥4096:=by omega
  refine zq [3,4,1,2,5,10,15,12] ?_;have e0:setupE k n lvl dom pc root space=1:=by rw[setup_eq hi he,if_neg h35,if_pos h39]
  rw[setup_no (by rw[e0];exact (by decide)),e0];exact zr (L' := L) ⟨rfl,hK⟩
 have h39:¬(pc<0∨pc≥4096):=by omega
 refine zq [3,4,0,9,6,6,8,27,1,2,5] ?_;refine Yd rfl (fun h3=>?_) (fun h3=>?_)
 ·
  have h46:t.st≠0:=by assumption
  refine zq [3,4,1,2,5,10,15,12] ?_;have e0:setupE k n lvl dom pc root space=8:=by rw[setup_eq hi he,if_neg h35,if_neg h39,if_pos h46]
  rw[setup_no (by rw[e0];exact (by decide)),e0];exact zr (L' := L) ⟨rfl,hK⟩
 have h46:¬t.st≠0:=by assumption
 refine zq [3,4,6,8,27,0] ?_;refine Ops.split (t:=57) rfl (fun h4=>?_) (fun h4=>?_)
 ·
  refine zq [13,13,13,13,24,0,13,13,13] ?_;refine Ops.skipu rfl rfl rfl ?_;refine Ops.skipu rfl rfl rfl ?_;refine Ops.skipu rfl rfl rfl ?_;refine Ops.skipu rfl rfl rfl ?_;refine zq [13,24,1,2,5,18,3,4,1,2,5,10,15,12] ?_;have h53:root.kind≠2∨k.named root=false∨(space ≠ -1∧k.isK space 8=false):=by simp_all
  have e0:setupE k n lvl dom pc root space=2:=by rw[setup_eq hi he,if_neg h35,if_neg h39,if_neg h46,if_pos h53]
  rw[setup_no (by rw[e0];exact (by decide)),e0];exact zr (L' := L) ⟨rfl,hK⟩
 refine zq [21] ?_;refine Yg (pv_loadK [_,_,_,_,_,_] rfl rfl rfl ⟨rfl,rfl,rfl,rfl,rfl,rfl,trivial⟩) ?_;refine Yog (ef_callr (tr_kNamed k A ad kb _ hK hw root) rfl rfl) ?_;refine zq [54,26,0] ?_;refine Ops.splitb (t:=63) rfl (fun h5=>?_) (fun h5=>?_)
 ·
  refine zq [13,13,13] ?_;refine Ops.skipu rfl rfl rfl ?_;refine Ops.skipu rfl rfl rfl ?_;refine Ops.skipu rfl rfl rfl ?_;refine Ops.skipu rfl rfl rfl ?_;refine zq [13,24,1,2,5,18,3,4,1,2,5,10,15,12] ?_;have h53:root.kind≠2∨k.named root=false∨(space ≠ -1∧k.isK space 8=false):=by simp_all
  have e0:setupE k n lvl dom pc root space=2:=by rw[setup_eq hi he,if_neg h35,if_neg h39,if_neg h46,if_pos h53]
  rw[setup_no (by rw[e0];exact (by decide)),e0];exact zr (L' := L) ⟨rfl,hK⟩
 refine zq [21] ?_;refine Yg (pv_neq rfl rfl) ?_;refine zq [21] ?_;refine Ops.split (t:=66) rfl (fun h6=>?_) (fun h6=>?_)
 ·
  refine zq [21,21] ?_;refine Yog (ef_callr (hK.isK hw space 8) rfl rfl) ?_;refine zq [54] ?_;refine Yg (pv_pick_true rfl rfl) ?_;refine zq [26,1,2,5] ?_;refine Wp.cond_t rfl (fun h7=>?_) (fun h7=>?_)
  ·
   refine zq [3,4,1,2,5,10,15,12] ?_;have h53:root.kind≠2∨k.named root=false∨(space ≠ -1∧k.isK space 8=false):=by simp_all
   have e0:setupE k n lvl dom pc root space=2:=by rw[setup_eq hi he,if_neg h35,if_neg h39,if_neg h46,if_pos h53]
   rw[setup_no (by rw[e0];exact (by decide)),e0];exact zr (L' := L) ⟨rfl,hK⟩
  refine zq [11,19,5,3] ?_;refine AnyH.start [((ad i).tb,thrO t c s b),(b2,.cells r.cells.toArray 81)] 13 rfl ?_;refine zd [0,1,1,12,2,1,3,3,4,0,5,0,6,2,7,0] ?_;refine z1 8 ?_;refine zd [9,0] ?_;refine zK 10 ?_;refine zd [11,0] ?_;refine z1 12 ?_;refine YD ?_;refine zq [5,3] ?_;obtain ⟨G,R,rfl,hU,hB,hP,hEb⟩:=hK.thrU he
  haveI:=hU;haveI:=hB;haveI:=hP
  refine AnyH.start [(b3,.cells [.int .i64 0,.int .i64 0,.int .u64 0,.bool false,.int .i64 t.caller,.int .i64 lvl,.int .i64 dom,.int .i64 pc,.int .u64 r.r0,.int .u64 r.r1,.int .u64 r.r2,.int .u64 r.r3,.int .u64 r.r4,.int .u64 r.r5,.int .u64 r.r6,.int .u64 r.r7].toArray 83),(b1,.cells root.cells.toArray 63)] 15 rfl ?_;refine zd [0,1,1,1,2,1,3,13,4,11,5,1,6,3,7,0] ?_;refine zK 8 ?_;refine zd [9,3,10,0] ?_;refine zK 11 ?_;refine zd [12,3,13,0] ?_;refine z1 14 ?_;refine YD ?_;refine zq [5,3,4,1,2,5,10] ?_;have h53:¬(root.kind≠2∨k.named root=false∨(space ≠ -1∧k.isK space 8=false)):=by simp_all
  have h0:setupE k n lvl dom pc root space=0:=by rw[setup_eq hi he,if_neg h35,if_neg h39,if_neg h46,if_neg h53]
  rw[setup_yes hi he h0,h0];exact zr (L' := G (thrO ⟨0,0,0,false,t.caller,lvl,dom,pc,r⟩ root space b)) ⟨rfl,hEb ⟨0,0,0,false,t.caller,lvl,dom,pc,r⟩ root space b⟩
 refine zq [13,13,13,13] ?_;refine Yg (pv_pick_false rfl rfl) ?_;refine zq [26,1,2,5,17,11,19,5,3] ?_;refine AnyH.start [((ad i).tb,thrO t c s b),(b2,.cells r.cells.toArray 81)] 13 rfl ?_;refine zd [0,1,1,12,2,1,3,3,4,0,5,0,6,2,7,0] ?_;refine z1 8 ?_;refine zd [9,0] ?_;refine zK 10 ?_;refine zd [11,0] ?_;refine z1 12 ?_;refine YD ?_;refine zq [5,3] ?_;obtain ⟨G,R,rfl,hU,hB,hP,hEb⟩:=hK.thrU he
 haveI:=hU;haveI:=hB;haveI:=hP
 refine AnyH.start [(b3,.cells [.int .i64 0,.int .i64 0,.int .u64 0,.bool false,.int .i64 t.caller,.int .i64 lvl,.int .i64 dom,.int .i64 pc,.int .u64 r.r0,.int .u64 r.r1,.int .u64 r.r2,.int .u64 r.r3,.int .u64 r.r4,.int .u64 r.r5,.int .u64 r.r6,.int .u64 r.r7].toArray 83),(b1,.cells root.cells.toArray 63)] 15 rfl ?_;refine zd [0,1,1,1,2,1,3,13,4,11,5,1,6,3,7,0] ?_;refine zK 8 ?_;refine zd [9,3,10,0] ?_;refine zK 11 ?_;refine zd [12,3,13,0] ?_;refine z1 14 ?_;refine YD ?_;refine zq [5,3,4,1,2,5,10] ?_;have h53:¬(root.kind≠2∨k.named root=false∨(space ≠ -1∧k.isK space 8=false)):=by simp_all
 have h0:setupE k n lvl dom pc root space=0:=by rw[setup_eq hi he,if_neg h35,if_neg h39,if_neg h46,if_neg h53]
 rw[setup_yes hi he h0,h0];exact zr (L' := G (thrO ⟨0,0,0,false,t.caller,lvl,dom,pc,r⟩ root space b)) ⟨rfl,hEb ⟨0,0,0,false,t.caller,lvl,dom,pc,r⟩ root space b⟩
theorem tr_kSetupA(k:Kn)(A:KA)(ad:Nat→Ad)(kb:Nat)(L:Hp)(hK:KH k A ad kb L)(hx:KX k)(n lvl dom pc:Int)(root:CapM)(space:Int)(r:RegsM):Tr prog 98 [pV kb,.int .i64 n,.int .i64 lvl,.int .i64 dom,.int .i64 pc,root.v,.int .i64 space,r.v] L (fun u L' => u=.int .i64 (setupE k n lvl dom pc root space)∧KH (k.setup n lvl dom pc root space r) A ad kb L'):=by
 cases hz:k.thr n with
 | none =>
  rw[setup_no (by rw[setup_none hz];decide),setup_none hz];exact Tr.mono (tr_kSetupN k A ad kb L hK hx n lvl dom pc root space r hz) (fun v L' h=>⟨h.1,by rw[h.2];exact hK⟩)
 | some x =>
  obtain ⟨i,sp,hi,he⟩:=thr_ex hz;exact tr_kSetupS k A ad kb L hK hx n lvl dom pc root space r hi he
end
section
section
variable {k : Kn} (h : KX k)
include h
theorem KX.made{n kd size:Int}{q:Int×Int}(hc:createE k n kd q size=0):KX (k.made n kd q size):=by
 refine ⟨h.kw.made hc,?_⟩
 show ROk (freshP k.p n kd size)
 unfold freshP
 split
 ·
  exact h.rok.node _ _
 ·
  exact h.rok
theorem KX.plant(s:SlotM){c:CapM}(hc:c.Rg)(hn:k.nk<2^18):KX (k.plant s c).2:=by
 refine ⟨h.kw.plant s c hn,?_⟩;unfold Kn.plant
 split
 ·
  exact h.rok
 ·
  exact h.rok.plant s hc
theorem KX.setW{ws:List Int}(hl:ws.length=k.ws.length)(hw:WdOk ws):KX { k with ws:=ws }:=⟨h.kw.setW hl hw,h.rok⟩
theorem KX.map(n into a:Int)(wr:Bool):KX (k.map n into a wr):=by
 unfold Kn.map
 split
 ·
  split
  ·
   exact h
  ·
   rename_i i x hi hp _
   refine ⟨?_,h.rok⟩;have hw2:KW { k with ws:=if x.1=7 then tableW k.ws (spcAt k into) a (spcAt k n) else smapW k.ws (spcAt k into) a (spcAt k n) wr }:=by
    split
    ·
     exact h.kw.setW (table_len ..) (table_ok h.kw.wok _ _ _)
    ·
     exact h.kw.setW (smap_len ..) (smap_ok h.kw.wok _ _ _ _)
   exact hw2.setA (i:=i) (th:=.page x.1 true into a) trivial
 ·
  exact h
theorem KX.setup(n lvl dom:Int){pc:Int}(root:CapM)(space:Int){r:RegsM}(hr:r.Ok):KX (k.setup n lvl dom pc root space r):=by
 unfold Kn.setup
 split
 ·
  exact h
 ·
  rename_i h0
  split
  ·
   rename_i i x hi hx
   obtain ⟨i2,sp,hi2,he⟩:=thr_ex hx;have e0:=setup_eq (lvl:=lvl) (dom:=dom) (pc:=pc) (root:=root) (space:=space) hi2 he
   rw[Decidable.not_not.1 h0]at e0;have hth:=(h.kw.ths _ _ he).1
   refine ⟨h.kw.setA ?_,h.rok⟩
   by_cases a1:(newTM lvl dom).2≠0
   ·
    rw[if_pos a1]at e0;exact absurd e0.symm a1
   rw[if_neg a1]at e0;have a2:¬(pc<0∨pc≥4096):=fun a2=>by rw[if_pos a2]at e0;cases e0
   rw[if_neg a2]at e0;have a3:¬x.1.st≠0:=fun a3=>by rw[if_pos a3]at e0;cases e0
   rw[if_neg a3]at e0;have a4:¬(root.kind≠2∨k.named root=false∨(space ≠ -1∧k.isK space 8=false)):=fun a4=>by rw[if_pos a4]at e0;cases e0
   have a5:chkT (newT lvl dom)=0:=by
    unfold newTM at a1
    split at a1
    ·
     assumption
    ·
     exact absurd (by decide) a1
   have a6:(0≤lvl∧lvl≤7)∧(0≤dom∧dom≤3):=by
    unfold chkT at a5
    split at a5
    ·
     cases a5
    ·
     split at a5
     ·
      cases a5
     ·
      split at a5
      ·
       cases a5
      ·
       rename_i b3
       simp only[not_or,Decidable.not_not,newT]at b3;exact ⟨b3.1,b3.2.1⟩
   refine ⟨⟨⟨(by decide:I64 0),(by decide:I64 0),(by decide:U64 0),hth.wf.caller,by unfold I64;dsimp only[newT];omega,by unfold I64;dsimp only[newT];omega,by unfold I64;dsimp only;omega,hr⟩,by dsimp only;omega⟩,?_⟩
   by_cases b1:space = -1
   ·
    exact .inl b1
   ·
    right
    have b2:k.isK space 8=true:=by
     cases hb:k.isK space 8 with
     | true=>rfl
     | false=>exact absurd (.inr (.inr ⟨b1,hb⟩)) a4
    obtain ⟨j,en,hj,_,_⟩:=isK_ex b2;exact h.kw.num hj
  ·
   exact h
theorem start_w{t:ThrM}(ht:ThW t)(h0:(startTM t).2=0):ThW (startTM t).1:=by
 unfold startTM at *
 split
 ·
  exact ht.still (by decide:I64 1)
 ·
  rename_i h1;rw[if_neg h1]at h0;exact absurd h0 h1
theorem KX.start(n:Int):KX (k.start n)∧Kq 0 k (k.start n):=by
 refine h.of ?_ ?_
 ·
  unfold Kn.start
  split
  ·
   exact ⟨h.kw,Kp.refl _⟩
  ·
   rename_i x hx
   split
   ·
    rename_i h0
    exact h.kw.be n (start_w h (h.kw.thrW hx) h0)
   ·
    exact ⟨h.kw,Kp.refl _⟩
 ·
  unfold Kn.start
  split
  ·
   exact ⟨rfl,rfl⟩
  ·
   split
   ·
    exact be_pn ..
   ·
    exact ⟨rfl,rfl⟩
end
def regsOf (l:List Int):RegsM:=⟨l.getD 0 0,l.getD 1 0,l.getD 2 0,l.getD 3 0,l.getD 4 0,l.getD 5 0,l.getD 6 0,l.getD 7 0⟩
theorem new_kx{n:Nat}(h1:64≤n)(h2:n≤65536){T:Ones}(hT:tmsOk T):KX (Kn.new n T):=⟨KW.new h1 h2 hT,ROk.new⟩
def rnd1 (k:Kn) (i:Nat):Kn:=k.made (1+5*(i:Int)) 8 (32+64*(i:Int),4) 0
def rnd2 (k:Kn) (i:Nat):Kn:=(rnd1 k i).made (1+5*(i:Int)+1) 7 (32+64*(i:Int)+16,4) 0
def rnd3 (k:Kn) (i:Nat):Kn:=(rnd2 k i).made (1+5*(i:Int)+2) 6 (32+64*(i:Int)+32,4) 0
def rnd4 (k:Kn) (i:Nat):Kn:=(rnd3 k i).made (1+5*(i:Int)+3) 3 (32+64*(i:Int)+48,4) 0
def rnd5 (k:Kn) (i:Nat):Kn:=(rnd4 k i).map (1+5*(i:Int)+1) (1+5*(i:Int)) 0 false
def rnd6 (k:Kn) (i:Nat):Kn:=(rnd5 k i).map (1+5*(i:Int)+2) (1+5*(i:Int)) 0 true
def rndP (k:Kn) (i:Nat) (code:List Int) (j:Nat):Kn:={ rnd6 k i with ws:=pokeW (rnd6 k i).ws (32+64*(i:Int)+32) (code.take j) }
def rndS (k:Kn) (i:Nat) (code:List Int) (r:List Int):Kn:=(rndP k i code 16).setup (1+5*(i:Int)+3) (2-(i:Int)) 0 0 rootM (1+5*(i:Int)) (regsOf r)
structure RndOk (k:Kn) (i:Nat) (code:List Int) (r:List Int):Prop where
  c1:createE k (1+5*(i:Int)) 8 (32+64*(i:Int),4) 0=0
  c2:createE (rnd1 k i) (1+5*(i:Int)+1) 7 (32+64*(i:Int)+16,4) 0=0
  c3:createE (rnd2 k i) (1+5*(i:Int)+2) 6 (32+64*(i:Int)+32,4) 0=0
  c4:createE (rnd3 k i) (1+5*(i:Int)+3) 3 (32+64*(i:Int)+48,4) 0=0
  m5:mapE (rnd4 k i) (1+5*(i:Int)+1) (1+5*(i:Int)) 0 false=0
  m6:mapE (rnd5 k i) (1+5*(i:Int)+2) (1+5*(i:Int)) 0 true=0
  s8:setupE (rndP k i code 16) (1+5*(i:Int)+3) (2-(i:Int)) 0 0 rootM (1+5*(i:Int))=0
  s9:(rndS k i code r).startE (1+5*(i:Int)+3)=0
section
variable {k : Kn} {i : Nat} {code r : List Int} (h : RndOk k i code r) (hx : KX k) (hc : ∀ x, x ∈ code → U64 x) (hr : ∀ x, x ∈ r → U64 x)
include h hx
include hc
include hr
end
end
end Go.Proofs.YtmoeokkelkgnhaaGreat
namespace Go.SL
section
abbrev sV (l:List UInt8):Value:=.string ⟨l.toArray⟩
def bC (l:List UInt8):List Value:=l.map fun b=>.int .u8 (b.toNat:Int)
theorem bC_len(l:List UInt8):(bC l).length=l.length:=by simp[bC]
theorem bC_app(a b:List UInt8):bC (a++b)=bC a++bC b:=by simp[bC]
theorem bC_get{l:List UInt8}{j:Nat}{b:UInt8}(h:l[j]?=some b):(bC l)[j]?=some (.int .u8 (b.toNat:Int)):=by simp[bC,h]
theorem str_toList(l:List UInt8):(ByteArray.mk l.toArray).toList=l:=by rw[ByteArray.toList_eq]
theorem str_size(l:List UInt8):(ByteArray.mk l.toArray).size=l.length:=by simp[ByteArray.size]
section
variable {P : Program} {n : Nat} {D : List Deferred} {E : Env} {L : Hp} {d : Option Tmp} {ty : TypeId} {pos : String} {aft : Array Edge} {g : Option (Nat × Bool)} {T : TypeId} {x y z : Operand} {a b : List UInt8} {yt : TypeId}
theorem pv_str_eql(hx:ev E x=some (sV a))(hy:ev E y=some (sV b)):Pv P n D E L ⟨d,.binOp .eql T x y yt,ty,pos,aft,g⟩ (.bool (decide (a=b))):=by
 unfold Pv;intro c w hs _
 simp[execOp,hs.ev hx,hs.ev hy,eqGuard,binOp,Op.stringOp,str_toList]
 by_cases h:a=b <;> simp[h]
theorem pv_str_len{ats:Array TypeId}(hx:ev E x=some (sV a))(h0:ats[0]?=some T)[hT:TyD P T .string]:Pv P n D E L ⟨d,.call { callee:=.builtin .len,args:=#[x],argTypes:=ats },ty,pos,aft,g⟩ (.int .i64 a.length):=by
 unfold Pv;intro c w hs hh
 rw[BigFrame.execOp_builtin];simp only[BigFrame.builtin_len,List.map_toArray,List.map_cons,List.map_nil,hs.ev hx,Builtin.len_,h0,List.getElem?_toArray,List.getElem?_cons_zero,Sem.run_bind,TyD.run,Result.andThen_ok,Sem.run_pure,goInt,str_size]
section
variable{i:Nat}(hx:ev E x=some (sV a))(hy:ev E y=some (.int .i64 (i:Int)))(h:i≤a.length)[hT:TyD P T .string]
include i hx hy h hT
theorem pv_str_from:Pv P n D E L ⟨d,.slice T x (some y) none none,ty,pos,aft,g⟩ (sV (a.drop i)):=by
 unfold Pv;intro c w hs hh
 have hi:(0:Int)≤(i:Int)∧(i:Int)≤(a.length:Int):=⟨by omega,by omega⟩
 have he:(ByteArray.mk a.toArray).extract i a.length=⟨(a.drop i).toArray⟩:=by
  rw[ByteArray.extract_mk,List.take_of_length_le (by simp)]
 simp[execOp,hs.ev hx,hs.ev hy,Instr.sliceAt,Instr.slice,Instr.sliceBounds,Instr.sliceBound,asIntOf,TyD.run,str_size,hi,he];intro hc;omega
theorem pv_str_upto:Pv P n D E L ⟨d,.slice T x none (some y) none,ty,pos,aft,g⟩ (sV (a.take i)):=by
 unfold Pv;intro c w hs hh
 have hi:(0:Int)≤(i:Int)∧(i:Int)≤(a.length:Int):=⟨by omega,by omega⟩
 have he:(ByteArray.mk a.toArray).extract 0 i=⟨(a.take i).toArray⟩:=by
  rw[ByteArray.extract_mk];simp
 simp[execOp,hs.ev hx,hs.ev hy,Instr.sliceAt,Instr.slice,Instr.sliceBounds,Instr.sliceBound,asIntOf,TyD.run,str_size,hi,he];intro hc;omega
end
theorem pv_str_index{i:Nat}{v:UInt8}(hx:ev E x=some (sV a))(hy:ev E y=some (.int .i64 (i:Int)))(h:a[i]?=some v)[hT:TyD P T .string]:Pv P n D E L ⟨d,.index T x y,ty,pos,aft,g⟩ (.int .u8 (v.toNat:Int)):=by
 unfold Pv;intro c w hs hh
 obtain ⟨hi,hv⟩:=List.getElem?_eq_some_iff.1 h;have he:(ByteArray.mk a.toArray)[i]?=some v:=by
  rw[ByteArray.getElem?_lt' _ _ (by simpa [ByteArray.size] using hi)];subst hv;rfl
 simp[execOp,hs.ev hx,hs.ev hy,Instr.index,asIntOf,TyD.run,he]
end
section
variable {P : Program} {n : Nat} {D : List Deferred} {E : Env} {L : Hp} {d : Option Tmp} {ty : TypeId} {pos : String} {aft : Array Edge} {g : Option (Nat × Bool)} {T : TypeId} {x y z : Operand} {yt : TypeId}
theorem pv_same {f : FuncId} {fn : Func} {ats : Array TypeId} {v : Value} (hf : P.funcs[f]? = some fn) (h1 : (fn.name == "runtime.NumGoroutine") = false) (h2 : fn.body.isNone = true) (h3 : Extern.findNext fn = none) (h4 : Extern.find fn = some Extern.AbiNoEscape.same) (hx : ev E x = some v) :
    Pv P n D E L ⟨d,.call { callee:=.value (.func f),args:=#[x],argTypes:=ats },ty,pos,aft,g⟩ v:=by
  unfold Pv;intro a w hs _
  rw[execOp_call_go,run_callFunc_extern hf h1 h2 h3 h4];have e:(#[]++#[x].map a.eval++#[]:Array Value)=#[v]:=by simp[hs.ev hx]
  rw[e,Lib.run_noEscape];rfl
theorem shape_of{w:World}{b:Nat}{c:List Value}{T' : TypeId}{f:Nat×Nat}(h:w.heap[b]?=some (.cells c.toArray T' f)):w.shape? b=some (T', c.length):=by
 simp[World.shape?,h]
theorem pv_toUnsafe{b off k t dst:Nat}{c:List Value}{T' : TypeId}{f:Nat×Nat}(hx:ev E x=some (.pointer (some ⟨b,off,none⟩)))[h1:TyD P T (.pointer t)](h2:P.underlying dst=some .unsafePointer)[h3:TyS P t k](h4:Nat.beq k 0=false)[hb:Blk L b (.cells c.toArray T' f)](h5:Nat.blt off c.length=true) :
    Pv P n D E L ⟨d,.convert T dst x,ty,pos,aft,g⟩ (.pointer (some ⟨b,off,none⟩)):=by
  unfold Pv;intro a w hs hh
  obtain ⟨i,hi,hik⟩:∃i,P.info? t=some i∧i.size=k:=by
    have:=h3.eq
    cases hq:P.info? t with
    | none=>rw[hq]at this;cases this
    | some i=>rw[hq]at this;exact ⟨i,rfl,by simpa using this⟩
  have:=Lib.run_to_unsafe (P:=P) w (src:=T) (dst:=dst) (⟨b,off,none⟩:Addr) h1.eq h2 hi (by rw[hik];intro e;rw[e]at h4;cases h4) (shape_of (hh _ hb.mem)) (by simpa using h5)
  simp only[execOp,hs.ev hx,Sem.run_bind,this,Result.andThen_ok,Sem.run_pure]
theorem pv_fromUnsafe{b off u dst k:Nat}{c:List Value}{T' : TypeId}{f:Nat×Nat}(hx:ev E x=some (.pointer (some ⟨b,off,none⟩)))(h1:P.underlying T=some .unsafePointer)[h2:TyD P dst (.pointer u)][h3:TyS P u k][hb:Blk L b (.cells c.toArray T' f)](h4:liesAt P P.depth T' (c.length/P.cellsOf T') off u 1=true) :
    Pv P n D E L ⟨d,.convert T dst x,ty,pos,aft,g⟩ (.pointer (some ⟨b,off,none⟩)):=by
  unfold Pv;intro a w hs hh
  obtain ⟨i,hi,hik⟩:∃i,P.info? u=some i∧i.size=k:=by
    have:=h3.eq
    cases hq:P.info? u with
    | none=>rw[hq]at this;cases this
    | some i=>rw[hq]at this;exact ⟨i,rfl,by simpa using this⟩
  have:=Lib.run_from_unsafe (P:=P) w (src:=T) (dst:=dst) (⟨b,off,none⟩:Addr) h1 h2.eq hi (shape_of (hh _ hb.mem)) h4
  simp only[execOp,hs.ev hx,Sem.run_bind,this,Result.andThen_ok,Sem.run_pure]
theorem pv_neq_same{b off t k:Nat}(hx:ev E x=some (.pointer (some ⟨b,off,none⟩)))(hy:ev E y=some (.pointer (some ⟨b,off,none⟩)))[h1:TyD P T (.pointer t)][h2:TyS P t k] :
    Pv P n D E L ⟨d,.binOp .neq T x y yt,ty,pos,aft,g⟩ (.bool false):=by
  unfold Pv;intro a w hs hh
  obtain ⟨i,hi⟩:∃i,P.info? t=some i:=by
    have:=h2.eq
    cases hq:P.info? t with
    | none=>rw[hq]at this;cases this
    | some i=>exact ⟨i,rfl⟩
  have:=Lib.run_neq_ptr_same (P:=P) w (tp:=T) (⟨b,off,none⟩:Addr) h1.eq hi
  simp[execOp,hs.ev hx,hs.ev hy,eqGuard,this]
theorem pv_sliceData{a:Addr}{m c:Nat}{ats:Array TypeId}(hx:ev E x=some (.slice (some a) m c))(hc:c≠0) :
    Pv P n D E L ⟨d,.call { callee:=.builtin .unsafeSliceData,args:=#[x],argTypes:=ats },ty,pos,aft,g⟩ (.pointer (some a)):=by
  unfold Pv;intro A w hs hh
  rw[BigFrame.execOp_builtin];simp only[BigFrame.builtin_unsafeSliceData,List.map_toArray,List.map_cons,List.map_nil,hs.ev hx,Sem.run_bind,Lib.run_unsafeSliceData_row w _ _ a m c hc,Result.andThen_ok,Sem.run_pure]
theorem liesAt_bytes'{e:TypeId}(hc:P.cellsOf e=1)(count off m:Nat)(hm:off+m≤count):liesAt P P.depth e count off e m=true:=by
 have hd:P.depth=(2*(P.types.size+Made.depth)+1)+1:=rfl
 rw[hd];simp only[liesAt,Bool.or_eq_true]
 left
 rw[hd];simp[rowAt,hc,hm,sameLayout];exact .inl (Nat.mod_one off)
theorem run_unsafeString_at(w:World)(pt it tt e:TypeId)(hp:P.underlying pt=some (.pointer e))(hc:P.cellsOf e=1)(b off cells:Nat)(hsh:w.shape? b=some (e,cells))(l:List UInt8)(h0:l≠[])(hn:off+l.length≤cells)(h63:l.length≤9223372036854775807)
    (hcell:∀j x,l[j]?=some x→w.cell? ((⟨b,off,none⟩:Addr).add j)=some (.int .u8 x.toNat)) :
    (Builtin.unsafeString_ #[pt,it] tt #[.pointer (some ⟨b,off,none⟩),.int .i64 l.length]).run P w=.ok (.string ⟨l.toArray⟩) (w.freeze ⟨b,off,none⟩ l.length):=by
  have hl:l.length≠0:=by simpa using h0
  have hlb:=Lib.run_loadBytes (P:=P) w l ⟨b,off,none⟩ .empty hcell
  have hlies:=liesAt_bytes' (P:=P) hc (cells/P.cellsOf e) off l.length (by rw[hc];simpa using hn)
  have h63' : ¬(9223372036854775807:Int)<(l.length:Int):=by omega
  have hdef:Builtin.unsafeString_ #[pt,it] tt #[.pointer (some ⟨b,off,none⟩),.int .i64 l.length] =
      (do
        let n ←asInt (.int .i64 l.length)
        if n < 0 then runtimePanic (.error "unsafe.String: len out of range")
        if n > IntKind.i64.max then unsupported (.unsafePointer "String: a length above the largest int")
        if n=0 then pure (.string .empty)
        else if ←variablesAt ⟨b,off,none⟩ (←elemOf pt) n.toNat then do
          let s ←loadBytes ⟨b,off,none⟩ .empty n.toNat
          freeze ⟨b,off,none⟩ n.toNat
          pure (.string s)
        else unsupported (.unsafePointer "String: not so many bytes at ptr")) := rfl
  rw[hdef];have hmax:IntKind.i64.max=9223372036854775807:=rfl
  have hneg:¬(l.length:Int)<0:=by omega
  simp[asInt,asIntOf,hmax,h63', hneg,hl,variablesAt,hsh,elemOf,run_underlying hp,hlies,hlb]
end
section
variable {P : Program} {W : World} {n : Nat} {D : List Deferred} {E : Env} {L : Hp} {d : Nat} {ty : TypeId} {pos : String} {aft : Array Edge} {g : Option (Nat × Bool)} {T : TypeId} {x y z : Operand} {v : Value}
theorem ef_unsafeString{pt it e b off c:Nat}{l:List UInt8}{H R:Hp}(hx:ev E x=some (.pointer (some ⟨b,off,none⟩)))(hs' : Slc e 1 (.slice (some ⟨b,off,none⟩) l.length c) l.length (bC l) H)(hy:ev E y=some (.int .i64 (l.length:Int)))(h0:l≠[])(h63:l.length≤9223372036854775807)(hd:Nat.blt d n=true)
    [h1:TyD P pt (.pointer e)] (h2:P.cellsOf e=1) [hp:Part L H R] :
    Ef P W n D ⟨some d,.call { callee:=.builtin .unsafeString,args:=#[x,y],argTypes:=#[pt,it] },ty,pos,aft,g⟩ E L (fun E' L' => E' = (d,sV l)::E∧L' = R):=by
  unfold Ef;intro Q a w next hs ho hn;have ho' := ho.part hp
  rcases hs'.2 with ⟨h,_,_⟩ | ⟨b', pre,spare,cap,hv,hmc,hsp,rfl⟩
  · cases h
  · cases hv
    have hg:=ho'.get (b,.cells (pre++bC l++spare:List Value).toArray e) (by simp)
    have hr:=run_unsafeString_at (P:=P) w pt it ty e h1.eq h2 b pre.length _ (shape_of hg) l h0 (by simp[bC_len]) h63 (fun j u hu=>by
      have hj:j<l.length:=(List.getElem?_eq_some_iff.1 hu).1
      rw[addr_add];simp only[World.cell?,hg,Option.isSome_none,Bool.false_eq_true,if_false,List.getElem?_toArray];rw[Y7,List.getElem?_append_right (by omega),List.getElem?_append_left (by rw[bC_len];omega)];rw[show pre.length+j-pre.length=j by omega];exact bC_get hu)
    unfold Oper.wp;rw[BigFrame.execOp_builtin];simp only[BigFrame.builtin_unsafeString,List.map_toArray,List.map_cons,List.map_nil,hs.ev hx,hs.ev hy,Sem.run_bind,hr,Result.andThen_ok,Sem.run_pure];refine hn _ _ _ _ ⟨rfl,rfl⟩ (hs.put hd) ?_;have hr2:=ho'.app_right
    have hnb:∀p,p∈R→p.1≠b:=fun p hp e=>by
      have:=ho'.nd
      simp only[List.map_append,List.map_cons,List.map_nil,List.singleton_append,List.nodup_cons]at this;exact this.1 (e ▸ List.mem_map_of_mem hp)
    refine ⟨?_,?_,?_,hr2.nd,fun p hp=>?_⟩
    · unfold World.freeze; split <;> exact hr2.os
    · unfold World.freeze; split <;> exact hr2.tape
    · unfold World.freeze; split <;> exact hr2.out
    · have:=hr2.get p hp
      unfold World.freeze
      split
      · exact this
      · show (w.heap.modify b _)[p.1]?=_
        rw[Array.getElem?_modify,if_neg (fun e=>hnb p hp e.symm)];exact this
theorem ef_appendStr{t ts e bytes:Nat}{zv:Value}{l:List UInt8}(hx:ev E x=some (.slice none 0 0))(hy:ev E y=some (sV l))(h0:l≠[])(hbd:l.length*bytes≤140737488355328)(h63:l.length≤9223372036854775807)(hd:Nat.blt d n=true)
    [ht:TyD P t (.slice e)] [hts:TyD P ts .string] [hsz:TyS P e 1] [hby:TyB P e bytes] [hz:TyZ P e zv] (hzs:zv.cells.size=1) :
    Ef P W n D ⟨some d,.call { callee:=.builtin .append,args:=#[x,y],argTypes:=#[t,ts] },ty,pos,aft,g⟩ E L
      (fun E' L' => ∃v' H', Slc e 1 v' l.length (bC l) H' ∧ E' = (d,v')::E∧L' = H' ++ L):=by
  unfold Ef;intro Q a w next hs ho hn;obtain ⟨i,hi,hzi⟩:=Option.bind_eq_some_iff.1 hz.eq;have hisz:i.size=1:=by have:=hsz.eq;rw[hi]at this;simpa using this
  have hiby:i.bytes=bytes:=by have:=hby.eq;rw[hi]at this;simpa using this
  have hk:0<l.length:=by
    cases l with
    | nil=>exact absurd rfl h0
    | cons _ _=>exact Nat.succ_pos _
  have hn0:l≠[]:=h0
  have h63' : ¬(9223372036854775807<(l.length:Int)):=by omega
  have h48' : ¬(281474976710656<Builtin.nextslicecap l.length 0*i.bytes):=by rw[nextslicecap_zero hk,hiby];omega
  have hmap:((ByteArray.mk l.toArray).extract 0 l.length).data.map (fun b=>(Value.int .u8 b.toNat))=(bC l).toArray:=by
    rw[ByteArray.extract_mk];simp[bC]
  have hr:(Builtin.append_ #[t,ts] ty #[.slice none 0 0,sV l]).run P w=.ok (.slice (some ⟨w.heap.size,0,none⟩) l.length (grownCap w l.length 0 e)) (w.drew.alloc (.cells ((bC l).toArray++Builtin.zeroCells zv.cells (grownCap w l.length 0 e-l.length)) e)):=by
    simp[Builtin.append_,TyD.run,sizeOf,typeInfo,zeroValue,hi,hzi,Builtin.lenOf,str_size,hn0,h63', h48', Question.forced,run_firstCells_none,Builtin.firstCells,hmap,newRow,grownCap];rw[List.take_of_length_le (by simp)];rfl
  unfold Oper.wp;rw[BigFrame.execOp_builtin];simp only[BigFrame.builtin_append,List.map_toArray,List.map_cons,List.map_nil,hs.ev hx,hs.ev hy,Sem.run_bind,hr,Result.andThen_ok,Sem.run_pure];refine hn _ _ _ _ ⟨_,[(w.heap.size,.cells (([]:List Value)++bC l++(Builtin.zeroCells zv.cells (grownCap w l.length 0 e-l.length)).toList).toArray e)],⟨by rw[bC_len,Nat.mul_one],.inr ⟨w.heap.size,[],_,grownCap w l.length 0 e,rfl,grownCap_ge w l.length 0 e,?_,rfl⟩⟩,rfl,rfl⟩ (hs.put hd) ?_
  · rw[zeroCells_len,hzs];exact Nat.le_refl _
  · have:=(ho.drew).alloc (.cells (([]:List Value)++bC l++(Builtin.zeroCells zv.cells (grownCap w l.length 0 e-l.length)).toList).toArray e)
    have e1:(([]:List Value)++bC l++(Builtin.zeroCells zv.cells (grownCap w l.length 0 e-l.length)).toList).toArray=(bC l).toArray++Builtin.zeroCells zv.cells (grownCap w l.length 0 e-l.length):=by apply Array.ext';simp
    rw[e1]at this ⊢;exact this
end
end
end Go.SL
namespace Go.Proofs.YtmoeokkelkgnhaaGreat
open Go.SL
open Go.Proofs.Tryz
section
def leB:Nat→Nat→List UInt8
  | 0,_=>[]
  | w+1,v=>UInt8.ofNat v::leB w (v/256)
def leV:List UInt8→Nat
  | []=>0
  | b::l=>b.toNat+256*leV l
theorem leB_len:∀w v,(leB w v).length=w
  | 0,_=>rfl
  | w+1,v=>by rw[leB,Y4,leB_len w]
theorem leB_succ:∀i v,leB (i+1) v=leB i v++[UInt8.ofNat (v/256^i)]
  | 0,v=>by simp[leB]
  | i+1,v=>by
    rw[leB,leB_succ i (v/256),leB,Y1,Nat.div_div_eq_div_mul]
    congr 4
    rw[Nat.pow_succ,Nat.mul_comm]
theorem leV_lt:∀l:List UInt8,leV l<256^l.length
  | []=>by simp[leV]
  | b::l=>by
    have h1:=leV_lt l
    have h2:=b.toNat_lt
    rw[leV,Y4,Nat.pow_succ];omega
theorem leV_app:∀(l:List UInt8) (b:UInt8),leV (l++[b])=leV l+256^l.length*b.toNat
  | [],b=>by simp[leV]
  | c::l,b=>by
    rw[Y1,leV,leV_app l b,leV,Y4,Nat.pow_succ];rw[Nat.mul_add,←Nat.mul_assoc,Nat.mul_comm 256 (256^l.length)];omega
theorem leV_take{l:List UInt8}{i:Nat}{b:UInt8}(h:l[i]?=some b):leV (l.take (i+1))=leV (l.take i)+256^i*b.toNat:=by
 have hi:=(List.getElem?_eq_some_iff.1 h).1
 rw[List.take_add_one,h,Option.toList_some,leV_app,List.length_take,Nat.min_eq_left (by omega)]
theorem pow256{i:Nat}(h:i≤8):256^i≤18446744073709551616:=by
 have:=Nat.pow_le_pow_right (n:=256) (by decide) h
 exact this
theorem shrB(v i:Nat)(h:i≤8):((v:Nat):Int).fdiv (2^(min (((8*i:Nat):Int)).toNat IntKind.u64.bits))=((v/256^i:Nat):Int):=by
 have hb:IntKind.u64.bits=64:=rfl
 rw[hb,Int.toNat_natCast,show min (8*i) 64=8*i by omega,Int.fdiv_eq_ediv_of_nonneg _ (by exact_mod_cast Nat.zero_le _)];rw[show (256:Nat)^i=2^(8*i) by rw[Nat.pow_mul]]
 norm_cast
theorem shlB(b:UInt8)(i:Nat)(h:i<8):IntKind.u64.wrap ((b.toNat:Int)*2^(min (((8*i:Nat):Int)).toNat IntKind.u64.bits))=((256^i*b.toNat:Nat):Int):=by
 have hb:IntKind.u64.bits=64:=rfl
 have h1:=b.toNat_lt
 have h2:256^i*b.toNat<256^(i+1):=by
  rw[Nat.pow_succ];exact Nat.mul_lt_mul_of_pos_left (by omega) (Nat.pow_pos (by decide))
 have h3:=pow256 (i:=i+1) (by omega)
 rw[hb,Int.toNat_natCast,show min (8*i) 64=8*i by omega];rw[show ((b.toNat:Int)*2^(8*i))=((256^i*b.toNat:Nat):Int) by
  rw[show (256:Nat)^i=2^(8*i) by rw[Nat.pow_mul],Int.natCast_mul,Int.mul_comm];norm_cast]
 exact u64n rfl (by omega)
theorem u8conv(m:Nat):IntKind.u8.wrap ((m:Nat):Int)=((UInt8.ofNat m).toNat:Int):=by
 have:(UInt8.ofNat m).toNat=m%256:=by simp
 rw[this];simp[IntKind.wrap,IntKind.signed,IntKind.bits]
theorem orB{a b k:Nat}(h:a<256^k)(hk:k<8)(hb:b<256):bitsI .or .u64 ((a:Nat):Int) ((256^k*b:Nat):Int)=((a+256^k*b:Nat):Int):=by
 have h2:256^k*b<256^(k+1):=by
  rw[Nat.pow_succ];exact Nat.mul_lt_mul_of_pos_left hb (Nat.pow_pos (by decide))
 have h3:=pow256 (i:=k+1) (by omega)
 have h4:256^k*b+256^k≤256^(k+1):=by
  rw[Nat.pow_succ,←Nat.mul_succ];exact Nat.mul_le_mul_left _ hb
 have e:a ||| (256^k*b)=a+256^k*b:=by
  have hp:(256:Nat)^k=2^(8*k):=by rw[Nat.pow_mul]
  rw[Nat.or_comm,Nat.mul_comm,Nat.add_comm,hp,←Nat.shiftLeft_eq];rw[hp]at h;exact (Nat.shiftLeft_add_eq_or_of_lt h b).symm
 have e1:bitsI .or .u64 ((a:Nat):Int) ((256^k*b:Nat):Int)=IntKind.u64.wrap ((BitVec.ofInt 64 (a:Int) ||| BitVec.ofInt 64 ((256^k*b:Nat):Int)).toNat:Int):=rfl
 rw[e1,BitVec.toNat_or,BitVec.toNat_ofInt,BitVec.toNat_ofInt];have m1:(((a:Nat):Int)%((2^64:Nat):Int)).toNat=a:=by omega
 have m2:((((256^k*b:Nat):Nat):Int)%((2^64:Nat):Int)).toNat=256^k*b:=by omega
 rw[m1,m2,e];exact u64n rfl (by omega)
section
variable{c:List Value}{o:Nat}
include c o
theorem nth_lt{v:Value}(h:nth c o=some v):o<c.length:=by
 rw[nth_eq]at h;exact (List.getElem?_eq_some_iff.1 h).1
theorem nth_set{v:Value}(h:o<c.length):nth (c.set o v) o=some v:=by
 rw[nth_eq,List.getElem?_set_self h]
theorem setL_set{v:Value}(h:o<c.length):SetL c o [v] (c.set o v) where
  len:=List.length_set ..
  le:=by simp;omega
  at_:=fun j=>by
    rw[List.getElem?_set]
    by_cases e:o=j
    · subst e;simp[h]
    · rw[if_neg e,if_neg (by simp only[List.length_singleton];omega)]
theorem setL_set2{u v:Value}(h:o<c.length):SetL (c.set o u) o [v] (c.set o v):=by
 have:=setL_set (c:=c.set o u) (v:=v) (by rw[List.length_set];exact h)
 rwa [List.set_set]at this
end
section
variable{T sz n c:Nat}{pa:Option Addr}{cs:List Value}{H:Hp}(h:Slc T sz (.slice pa n c) n cs H)(h0:n≠0)
include T sz n c pa cs H h h0
theorem slc_some:∃b o,pa=some ⟨b,o,none⟩:=by
 rcases h.2 with ⟨_,h1,_⟩ | ⟨b,pre,spare,cap,hv,_⟩
 ·
  exact absurd h1 h0
 ·
  cases hv;exact ⟨b,pre.length,rfl⟩
theorem slc_cap:c≠0:=by
 rcases h.2 with ⟨_,h1,_⟩ | ⟨b,pre,spare,cap,hv,hc,_⟩
 ·
  exact absurd h1 h0
 ·
  cases hv;omega
end
end
section
def RgI (x:Int):Prop := -9223372036854775808≤x∧x<9223372036854775808
theorem uI_val(x:Int):(uI x:Int)=x%18446744073709551616:=by
 rw[←uI_eq];simp[IntKind.wrap,IntKind.signed,IntKind.bits]
theorem uI_ok{x:Int}(h:RgI x):uI x<65536↔0≤x∧x≤65535:=by
 have:=uI_val x
 unfold RgI at h;omega
theorem uI_nn{x:Int}(h:0≤x)(h2:x<9223372036854775808):(uI x:Int)=x:=by
 have:=uI_val x
 omega
def okT (xs:List Int):Prop:=∀x,x∈xs→0≤x∧x≤65535
def encT (xs:List Int):List UInt8:=(xs.map fun x=>leB 2 (uI x)).flatten
theorem encT_len(xs:List Int):(encT xs).length=2*xs.length:=by
 induction xs with
 | nil=>rfl
 | cons x l ih =>
  have:encT (x::l)=leB 2 (uI x)++encT l:=by simp[encT]
  rw[this,Y3,leB_len,ih,Y4];omega
theorem encT_take{xs:List Int}{i:Nat}{x:Int}(h:xs[i]?=some x):encT (xs.take (i+1))=encT (xs.take i)++leB 2 (uI x):=by
 rw[List.take_add_one,h];simp[encT]
def intC (xs:List Int):List Value:=xs.map (.int .i64)
theorem intC_len(xs:List Int):(intC xs).length=xs.length:=by simp[intC]
def rdTw:Nat→List UInt8→List Int
  | 0,_=>[]
  | m+1,s=>(leV (s.take 2):Int)::rdTw m (s.drop 2)
theorem rdTw_len:∀m s,(rdTw m s).length=m
  | 0,_=>rfl
  | m+1,s=>by rw[rdTw,Y4,rdTw_len m]
theorem rdTw_succ:∀m s,rdTw (m+1) s=rdTw m s++[(leV ((s.drop (2*m)).take 2):Int)]
  | 0,s=>by simp[rdTw]
  | m+1,s=>by
    have e:(s.drop 2).drop (2*m)=s.drop (2*(m+1)):=by rw[List.drop_drop];congr 1;omega
    rw[rdTw,rdTw_succ m (s.drop 2),rdTw,Y1,e]
theorem okT_take{xs:List Int}{i:Nat}{x:Int}(h:xs[i]?=some x)(ho:okT (xs.take i))(hx:0≤x∧x≤65535):okT (xs.take (i+1)):=by
 intro y hy;rw[List.take_add_one,h,List.mem_append]at hy
 rcases hy with hy | hy
 ·
  exact ho y hy
 ·
  simp only[Option.toList_some,List.mem_singleton]at hy;subst hy;exact hx
theorem intC_snoc(a:List Int)(v:Int):intC (a++[v])=intC a++[.int .i64 v]:=by simp[intC]
theorem cc_len{cc:List Value}{vo:Nat}{xs:List Int}(h:∀j x,xs[j]?=some x→nth cc (vo+j)=some (.int .i64 x))(h0:vo≤cc.length:=by omega):vo+xs.length≤cc.length:=by
 rcases Nat.eq_zero_or_pos xs.length with e | e
 ·
  rw[e];exact h0
 ·
  obtain ⟨x,hx⟩:∃x,xs[xs.length-1]?=some x:=Y9;have:=nth_lt (h _ _ hx)
  omega
def setAt (cc:List Value) (o:Nat) (vs:List Value):List Value:=cc.take o++vs++cc.drop (o+vs.length)
theorem setAt_nil(cc:List Value)(o:Nat):setAt cc o []=cc:=by simp[setAt]
section
variable{cc:List Value}{o:Nat}{vs:List Value}
include cc o vs
theorem setAt_len(h:o+vs.length≤cc.length):(setAt cc o vs).length=cc.length:=by
 unfold setAt;simp only[Y3,List.length_take,Y6];omega
theorem setAt_get(h:o+vs.length≤cc.length){j:Nat}(hj:o+vs.length≤j):(setAt cc o vs)[j]?=cc[j]?:=by
 unfold setAt;rw[List.getElem?_append_right (by simp only[Y3,List.length_take];omega),List.getElem?_drop]
 congr 1
 simp only[Y3,List.length_take];omega
theorem setAt_succ{v:Value}(h:o+vs.length<cc.length):setAt cc o (vs++[v])=(setAt cc o vs).set (o+vs.length) v:=by
 unfold setAt;have e:(cc.take o++vs).length=o+vs.length:=by simp only[Y3,List.length_take];omega
 rw[List.set_append_right _ _ (by omega),e,Nat.sub_self];obtain ⟨x,hx⟩:∃x,cc[o+vs.length]?=some x:=⟨_,Y8 h⟩;obtain ⟨hl,hx2⟩:=List.getElem?_eq_some_iff.1 hx;rw[List.drop_eq_getElem_cons hl,List.set_cons_zero];simp only[Y3,List.length_singleton,Y7,List.singleton_append]
 rfl
end
theorem setAt_app{A X Y:List Value}{vs:List Value}(h:vs.length≤X.length):setAt (A++(X++Y)) A.length vs=A++(vs++(X.drop vs.length++Y)):=by
 unfold setAt;rw[List.take_left' rfl,List.drop_append,List.drop_eq_nil_of_le (by omega),Y2,show A.length+vs.length-A.length=vs.length by omega,List.drop_append_of_le_length h,Y7]
theorem setL_same{c:List Value}{o:Nat}{v:Value}(h:nth c o=some v):SetL c o [v] c:=by
 have:=setL_set (c:=c) (v:=v) (nth_lt h)
 rwa [set_same h]at this
def ptrsM (vb:Nat) (vo:Nat):Nat→List Value
  | 0=>[]
  | m+1=>.pointer (some ⟨vb,vo,none⟩)::ptrsM vb (vo+1) m
theorem ptrsM_get(vb:Nat):∀m vo j,j<m→nth (ptrsM vb vo m) j=some (.pointer (some ⟨vb,vo+j,none⟩))
  | 0,_,j,h=>absurd h (Nat.not_lt_zero _)
  | m+1,vo,0,_=>rfl
  | m+1,vo,j+1,h=>by
    show nth (ptrsM vb (vo+1) m) j=_
    rw[ptrsM_get vb m (vo+1) j (by omega),show vo+1+j=vo+(j+1) by omega]
end
section
inductive Fld | two | lab | spc | w4 | w8 | flg
def Fld.cell:Fld→Int→Value
  | .two,x=>.int .i64 x
  | .lab,x=>.int .i64 x
  | .spc,x=>.int .i64 x
  | .w4,x=>.int .u64 x
  | .w8,x=>.int .u64 x
  | .flg,x=>.bool (decide (x=1))
def Fld.wid:Fld→Nat
  | .two=>2
  | .lab=>2
  | .spc=>2
  | .w4=>4
  | .w8=>8
  | .flg=>1
def Fld.rg:Fld→Int→Prop
  | .two,x=>RgI x
  | .lab,x=>RgI x
  | .spc,x=>RgI x
  | .w4,x=>0≤x∧x<18446744073709551616
  | .w8,x=>0≤x∧x<18446744073709551616
  | .flg,x=>x=0∨x=1
def Fld.ok:Fld→Int→Prop
  | .two,x=>0≤x∧x≤65535
  | .lab,x=>0≤x∧x≤7
  | .spc,x => -1≤x∧x≤65534
  | .w4,x=>x<4294967296
  | .w8,_=>True
  | .flg,_=>True
def Fld.enc:Fld→Int→List UInt8
  | .two,x=>leB 2 (uI x)
  | .lab,x=>leB 2 (uI x)
  | .spc,x=>leB 2 (uI (x+1))
  | .w4,x=>leB 4 x.toNat
  | .w8,x=>leB 8 x.toNat
  | .flg,x=>leB 1 x.toNat
def Fld.dec:Fld→Nat→Option Int
  | .two,v=>some v
  | .lab,v=>if v<8 then some v else none
  | .spc,v=>some ((v:Int)-1)
  | .w4,v=>some v
  | .w8,v=>some v
  | .flg,v=>if v<2 then some v else none
def cellsE (fs:List Fld) (e:List Int):List Value:=List.zipWith Fld.cell fs e
def rgE:List Fld→List Int→Prop
  | f::fs,x::e=>f.rg x∧rgE fs e
  | _,_=>True
def okE:List Fld→List Int→Prop
  | f::fs,x::e=>f.ok x∧okE fs e
  | _,_=>True
def encE:List Fld→List Int→List UInt8
  | f::fs,x::e=>f.enc x++encE fs e
  | _,_=>[]
def rdF (f:Fld) (s:List UInt8):Option (Int×List UInt8):=if s.length<f.wid then none else (f.dec (leV (s.take f.wid))).map fun v=>(v,s.drop f.wid)
def rdE:List Fld→List UInt8→Option (List Int×List UInt8)
  | [],s=>some ([],s)
  | f::fs,s=>match rdF f s with
    | none=>none
    | some (v,s1)=>match rdE fs s1 with
      | none=>none
      | some (e,s2)=>some (v::e,s2)
def widE (fs:List Fld):Nat:=(fs.map Fld.wid).sum
section
variable{f:Fld}{fs:List Fld}
include f fs
theorem rdE_some{s s1 s2:List UInt8}{v:Int}{e:List Int}(h1:rdF f s=some (v,s1))(h2:rdE fs s1=some (e,s2)):rdE (f::fs) s=some (v::e,s2):=by rw[rdE,h1];dsimp only;rw[h2]
theorem rdE_none{s s1:List UInt8}{v:Int}(h1:rdF f s=some (v,s1))(h2:rdE fs s1=none):rdE (f::fs) s=none:=by rw[rdE,h1];dsimp only;rw[h2]
theorem rdE_none'{s:List UInt8}(h1:rdF f s=none):rdE (f::fs) s=none:=by rw[rdE,h1]
end
theorem rdF_len{f:Fld}{s s1:List UInt8}{v:Int}(h:rdF f s=some (v,s1)):f.wid≤s.length∧s1=s.drop f.wid:=by
 unfold rdF at h
 split at h
 ·
  cases h
 ·
  cases hd:f.dec (leV (s.take f.wid)) with
  | none=>rw[hd]at h;cases h
  | some x=>rw[hd]at h;cases h;exact ⟨by omega,rfl⟩
theorem rdE_len:∀{fs:List Fld} {s s2:List UInt8} {e:List Int},rdE fs s=some (e,s2)→widE fs≤s.length∧s2=s.drop (widE fs)∧e.length=fs.length
  | [],s,s2,e,h=>by cases h;exact ⟨Nat.zero_le _,rfl,rfl⟩
  | f::fs,s,s2,e,h=>by
    rw[rdE]at h
    split at h
    · cases h
    · rename_i v s1 h1
      obtain ⟨l1,rfl⟩:=rdF_len h1
      split at h
      · cases h
      · rename_i e2 s3 h2
        cases h;obtain ⟨l2,rfl,l3⟩:=rdE_len h2;rw[Y6]at l2;have e:widE (f::fs)=f.wid+widE fs:=by simp[widE]
        rw[e,List.drop_drop,Y4,l3,Y4];exact ⟨by omega,rfl,rfl⟩
theorem rdE_short{fs:List Fld}{s:List UInt8}(h:s.length<widE fs):rdE fs s=none:=by
 cases hr:rdE fs s with
 | none=>rfl
 | some x=>obtain ⟨e,s2⟩:=x;have:=(rdE_len hr).1;omega
theorem rdF_of{f:Fld}{s:List UInt8}{v:Int}(h:f.wid≤s.length)(hd:f.dec (leV (s.take f.wid))=some v):rdF f s=some (v,s.drop f.wid):=by
 unfold rdF;rw[if_neg (by omega),hd];rfl
theorem rdF_bad{f:Fld}{s:List UInt8}(h:f.wid≤s.length)(hd:f.dec (leV (s.take f.wid))=none):rdF f s=none:=by
 unfold rdF;rw[if_neg (by omega),hd];rfl
def Lies (cc:List Value) (o:Nat) (X:List Value):Prop:=∀j v,X[j]?=some v→nth cc (o+j)=some v
theorem Lies.at_{cc X:List Value}{o:Nat}{v:Value}(h:Lies cc o X)(j:Nat)(hj:X[j]?=some v):nth cc (o+j)=some v:=h j v hj
theorem Lies.ints{cc X S:List Value}{o:Nat}{xs:List Int}(P:List Value)(h:Lies cc o X)(hX:X=P++(intC xs++S)):∀j x,xs[j]?=some x→nth cc (o+P.length+j)=some (.int .i64 x):=fun j x hx=>by
 have:=h (P.length+j) (.int .i64 x) (by
  rw[hX,List.getElem?_append_right (by omega),show P.length+j-P.length=j by omega];rw[List.getElem?_append_left (by rw[intC_len];exact (List.getElem?_eq_some_iff.1 hx).1)];simp[intC,hx])
 rwa [show o+(P.length+j)=o+P.length+j by omega]at this
theorem Lies.len{cc X:List Value}{o:Nat}(h:Lies cc o X)(h0:X≠[]):o+X.length≤cc.length:=by
 have hp:0<X.length:=List.length_pos_iff.2 h0
 obtain ⟨v,hv⟩:∃v,X[X.length-1]?=some v:=Y9;have:=nth_lt (h _ _ hv)
 omega
theorem lies_mid(A X B:List Value):Lies (A++(X++B)) A.length X:=fun j v hv=>by
 rw[nth_eq,List.getElem?_append_right (by omega),show A.length+j-A.length=j by omega,List.getElem?_append_left (List.getElem?_eq_some_iff.1 hv).1];exact hv
theorem setAt_setAt{cc:List Value}{o:Nat}{P Q:List Value}(h:o+P.length+Q.length≤cc.length):setAt (setAt cc o P) (o+P.length) Q=setAt cc o (P++Q):=by
 have e:(cc.take o++P).length=o+P.length:=by simp only[Y3,List.length_take];omega
 have h1:setAt cc o P=(cc.take o++P)++cc.drop (o+P.length):=rfl
 unfold setAt at h1 ⊢;rw[←e,List.take_left' rfl,List.drop_append,List.drop_eq_nil_of_le (by omega),Y2,show (cc.take o++P).length+Q.length-(cc.take o++P).length=Q.length by omega,e,List.drop_drop];simp only[Y7,Y3]
 congr 3
 congr 1
 omega
theorem set_setAt{cc:List Value}{o:Nat}{v:Value}(h:o<cc.length):cc.set o v=setAt cc o [v]:=by
 have:=setAt_succ (cc:=cc) (o:=o) (vs:=[]) (v:=v) (by simpa using h)
 rw[setAt_nil]at this
 simpa using this.symm
theorem nth_setAt{cc:List Value}{o j:Nat}{P:List Value}(h:o+P.length≤cc.length)(hj:o+P.length≤j):nth (setAt cc o P) j=nth cc j:=by
 rw[nth_eq,nth_eq,setAt_get h hj]
theorem setL_set2s{c:List Value}{o:Nat}{u v:Value}(h:nth c o=some v)(hl:o<c.length):SetL (c.set o u) o [v] c:=by
 have:=setL_set2 (c:=c) (u:=u) (v:=v) hl
 rwa [set_same h]at this
theorem flg_enc{x:Int}(h:x=0∨x=1):x.toNat=if x=1 then 1 else 0:=by
 rcases h with rfl | rfl <;> rfl
theorem nth_set_ne{c:List Value}{o j:Nat}{v:Value}(h:o≠j):nth (c.set o v) j=nth c j:=by rw[nth_eq,nth_eq,List.getElem?_set_ne h]
theorem nth_setAt_in{c X:List Value}{o j:Nat}{v:Value}(h:o≤c.length)(hj:X[j]?=some v):nth (setAt c o X) (o+j)=some v:=by
 unfold setAt;have e:(c.take o).length=o:=by rw[List.length_take];omega
 rw[nth_eq,Y7,List.getElem?_append_right (by omega),e,show o+j-o=j by omega,List.getElem?_append_left (List.getElem?_eq_some_iff.1 hj).1];exact hj
theorem one_hcc{c:List Value}{o:Nat}{x:Int}(h:nth c o=some (.int .i64 x)):∀j y,[x][j]?=some y→nth c (o+j)=some (.int .i64 y)
  | 0,y,hy=>by cases hy;exact h
  | j+1,y,hy=>by simp at hy
theorem set_at{cc P:List Value}{o k:Nat}{v:Value}(hk:P.length=k)(h:o+k<cc.length):(setAt cc o P).set (o+k) v=setAt cc o (P++[v]):=by
 subst hk;exact (setAt_succ h).symm
theorem setAt_at{cc P Q:List Value}{o k:Nat}(hk:P.length=k)(h:o+k+Q.length≤cc.length):setAt (setAt cc o P) (o+k) Q=setAt cc o (P++Q):=by
 subst hk;exact setAt_setAt h
theorem set_at'{c cc P:List Value}{o k i:Nat}{v:Value}(hc:c=setAt cc o P)(hk:P.length=k)(hi:i=o+k)(h:o+k<cc.length):c.set i v=setAt cc o (P++[v]):=by
 subst hc;subst hi;exact set_at hk h
theorem setAt_at'{c cc P Q:List Value}{o k i:Nat}(hc:c=setAt cc o P)(hk:P.length=k)(hi:i=o+k)(h:o+k+Q.length≤cc.length):setAt c i Q=setAt cc o (P++Q):=by
 subst hc;subst hi;exact setAt_at hk h
section
variable{c cc P:List Value}{o k i:Nat}{v w:Value}(hc:c=setAt cc o (P++[v]))(hk:P.length=k)(hi:i=o+k)(h:o+k<cc.length)
include c cc P o k i v w hc hk hi h
theorem set_last':c.set i w=setAt cc o (P++[w]):=by
 subst hc;subst hi;subst hk
 rw[setAt_succ h,setAt_succ h,List.set_set]
theorem setAt_last':setAt c i [w]=setAt cc o (P++[w]):=by
 have hl:c.length=cc.length:=by rw[hc,setAt_len];simp only[Y3,Y4,Y5];omega
 rw[←set_setAt (by omega)];exact set_last' hc hk hi h
end
theorem len_set'{c cc:List Value}{i:Nat}{v:Value}(h:c.length=cc.length):(c.set i v).length=cc.length:=by rw[List.length_set,h]
theorem len_setAt'{c cc P:List Value}{i k:Nat}(h:c.length=cc.length)(hk:P.length=k)(hi:i+k≤cc.length):(setAt c i P).length=cc.length:=by subst hk;rw[setAt_len (by omega),h]
theorem leV2(s:List UInt8):leV (s.take 2)<65536 :=
  Nat.lt_of_lt_of_le (leV_lt _) (Nat.pow_le_pow_right (n:=256) (by decide) (List.length_take_le 2 s))
def fsO:List Fld:=[.two,.two,.lab]
def fsP:List Fld:=[.two,.two,.two,.two,.two,.w4,.w4,.two]
def fsM:List Fld:=[.two,.two,.two,.flg]
def fsF:List Fld:=[.two,.two,.w8]
def fsT:List Fld:=[.two,.two,.two,.two,.two,.w4,.two,.spc]
def fsW:List Fld:=[.two,.two,.two,.w4]
def fsS:List Fld:=[.two,.two]
end
section
structure El (fs:List Fld) where
  val:List Int
  len:val.length=fs.length
  rg:rgE fs val
def cE (fs:List Fld) (e:El fs):List Value:=cellsE fs e.1
theorem Fld.one(f:Fld)(x:Int):(f.cell x).oneCell' = true:=by cases f <;> rfl
theorem cellsE_len:∀(fs:List Fld) (e:List Int),e.length=fs.length→(cellsE fs e).length=fs.length:=fun fs e h=>by
 rw[cellsE,List.length_zipWith,h,Nat.min_self]
theorem cellsE_one:∀(fs:List Fld) (e:List Int),(cellsE fs e).all Value.oneCell' = true
  | [],_=>by simp[cellsE]
  | f::fs,[]=>by simp[cellsE]
  | f::fs,x::e=>by
    have:=cellsE_one fs e
    rw[cellsE,List.zipWith_cons_cons,List.all_cons,f.one];exact this
theorem encEl(fs:List Fld)(k:Nat)(h:fs.length=k):Enc (cE fs) k:=⟨fun e=>by rw[cE,cellsE_len fs e.1 e.len,h],fun e=>cellsE_one fs e.1⟩
instance:Enc (cE fsO) 3:=encEl _ _ rfl
instance:Enc (cE fsP) 8:=encEl _ _ rfl
instance:Enc (cE fsM) 4:=encEl _ _ rfl
instance:Enc (cE fsF) 3:=encEl _ _ rfl
instance:Enc (cE fsT) 8:=encEl _ _ rfl
instance:Enc (cE fsW) 4:=encEl _ _ rfl
instance:Enc (cE fsS) 2:=encEl _ _ rfl
theorem rgE_zero:∀fs:List Fld,rgE fs (List.replicate fs.length 0)
  | []=>trivial
  | f::fs=>by
    refine ⟨?_,rgE_zero fs⟩;cases f <;> simp[Fld.rg,RgI]
def zEl (fs:List Fld):El fs:=⟨List.replicate fs.length 0,List.length_replicate,rgE_zero fs⟩
open Classical in
noncomputable def mkEl (fs:List Fld) (e:List Int):El fs:=if h:e.length=fs.length∧rgE fs e then ⟨e,h.1,h.2⟩ else zEl fs
theorem mkEl_val{fs:List Fld}{e:List Int}(h:e.length=fs.length∧rgE fs e):(mkEl fs e).1=e:=by rw[mkEl,dif_pos h]
theorem leVt{s:List UInt8}{w:Nat}:leV (s.take w)<256^w:=Nat.lt_of_lt_of_le (leV_lt _) (Nat.pow_le_pow_right (n:=256) (by decide) (List.length_take_le w s))
theorem rdF_rg{f:Fld}{s s1:List UInt8}{v:Int}(h:rdF f s=some (v,s1)):f.rg v:=by
 unfold rdF at h
 split at h
 ·
  cases h
 ·
  have hlt:=leVt (s:=s) (w:=f.wid)
  cases f <;> simp only[Fld.dec,Fld.wid,Fld.rg,RgI]at h hlt ⊢ <;> first
   | (simp only[Option.map_some,Option.some.injEq,Prod.mk.injEq]at h;omega)
   | (by_cases hc:leV (s.take 2)<8 <;> simp only[hc,if_true,if_false,Option.map_some,Option.map_none,Option.some.injEq,Prod.mk.injEq,reduceCtorEq]at h; omega)
   | (by_cases hc:leV (s.take 1)<2 <;> simp only[hc,if_true,if_false,Option.map_some,Option.map_none,Option.some.injEq,Prod.mk.injEq,reduceCtorEq]at h; omega)
theorem rdE_rg:∀{fs:List Fld} {s s2:List UInt8} {e:List Int},rdE fs s=some (e,s2)→rgE fs e
  | [],s,s2,e,h=>by cases h;trivial
  | f::fs,s,s2,e,h=>by
    rw[rdE]at h
    split at h
    · cases h
    · rename_i v s1 h1
      split at h
      · cases h
      · rename_i e2 s3 h2
        cases h;exact ⟨rdF_rg h1,rdE_rg h2⟩
section
variable{fs:List Fld}{s s2:List UInt8}{e:List Int}(h:rdE fs s=some (e,s2))
include fs s s2 e h
theorem rdE_el:(mkEl fs e).1=e:=mkEl_val ⟨(rdE_len h).2.2,rdE_rg h⟩
theorem rdE_cE:cE fs (mkEl fs e)=cellsE fs e:=by rw[cE,rdE_el h]
end
noncomputable def rdI (fs:List Fld):Nat→List UInt8→Option (List (El fs)×List UInt8)
  | 0,s=>some ([],s)
  | i+1,s=>match rdI fs i s with
    | none=>none
    | some (l,r)=>match rdE fs r with
      | none=>none
      | some (e,r2)=>some (l++[mkEl fs e],r2)
section
variable{fs:List Fld}{i:Nat}
include fs i
theorem rdI_some{s r r2:List UInt8}{l:List (El fs)}{e:List Int}(h1:rdI fs i s=some (l,r))(h2:rdE fs r=some (e,r2)):rdI fs (i+1) s=some (l++[mkEl fs e],r2):=by rw[rdI,h1];dsimp only;rw[h2]
theorem rdI_none{s r:List UInt8}{l:List (El fs)}(h1:rdI fs i s=some (l,r))(h2:rdE fs r=none):rdI fs (i+1) s=none:=by rw[rdI,h1];dsimp only;rw[h2]
theorem rdI_up{s:List UInt8}(h:rdI fs i s=none):∀{n},i≤n→rdI fs n s=none:=fun {n} hn=>by
 induction n with
 | zero=>rw[show i=0 by omega]at h;exact h
 | succ n ih =>
  rcases Nat.lt_or_ge i (n+1) with hl | hl
  ·
   rw[rdI,ih (by omega)]
  ·
   rw[show n+1=i by omega];exact h
end
theorem rdI_len{fs:List Fld}:∀{i:Nat} {s r:List UInt8} {l:List (El fs)},rdI fs i s=some (l,r)→l.length=i∧r.length≤s.length
  | 0,s,r,l,h=>by cases h;exact ⟨rfl,Nat.le_refl _⟩
  | i+1,s,r,l,h=>by
    rw[rdI]at h
    split at h
    · cases h
    · rename_i l1 r1 h1
      split at h
      · cases h
      · rename_i e r2 h2
        cases h;obtain ⟨a,b⟩:=rdI_len h1;obtain ⟨_,rfl,_⟩:=rdE_len h2;simp only[Y3,List.length_singleton,Y6];omega
noncomputable def rdL (fs:List Fld) (most:Nat) (s:List UInt8):Option (List (El fs)×List UInt8) :=
  if s.length<2 then none else if leV (s.take 2)>most then none else rdI fs (leV (s.take 2)) (s.drop 2)
def okL (fs:List Fld) (most:Nat) (l:List (El fs)):Prop:=l.length≤most∧∀e,e∈l→okE fs e.1
def encI (fs:List Fld) (l:List (El fs)):List UInt8:=(l.map fun e=>encE fs e.1).flatten
def encL (fs:List Fld) (l:List (El fs)):List UInt8:=leB 2 l.length++encI fs l
theorem encE_len:∀{fs:List Fld} {e:List Int},e.length=fs.length→(encE fs e).length=widE fs
  | [],[],_=>rfl
  | [],_::_,h=>by simp at h
  | f::fs,[],h=>by simp at h
  | f::fs,x::e,h=>by
    have e1:widE (f::fs)=f.wid+widE fs:=by simp[widE]
    rw[encE,Y3,encE_len (by simpa using h),e1]
    congr 1
    cases f <;> simp[Fld.enc,Fld.wid,leB_len]
theorem encI_take{fs:List Fld}{l:List (El fs)}{i:Nat}{e:El fs}(h:l[i]?=some e):encI fs (l.take (i+1))=encI fs (l.take i)++encE fs e.1:=by
 rw[List.take_add_one,h];simp[encI]
theorem encI_len(fs:List Fld)(l:List (El fs)):(encI fs l).length=l.length*widE fs:=by
 induction l with
 | nil=>simp[encI]
 | cons e l ih =>
  have:encI fs (e::l)=encE fs e.1++encI fs l:=by simp[encI]
  rw[this,Y3,ih,encE_len e.len,Y4,Nat.add_mul];omega
theorem encL_len(fs:List Fld)(l:List (El fs)):(encL fs l).length=2+l.length*widE fs:=by rw[encL,Y3,leB_len,encI_len]
theorem encT1{n:Nat}(h:n<9223372036854775808):encT [((n:Nat):Int)]=leB 2 n:=by
 have:=uI_nn (x:=(n:Int)) (by omega) (by omega)
 simp[encT,show uI (n:Int)=n by omega]
theorem all_take{fs:List Fld}{l:List (El fs)}{i:Nat}{e:El fs}(h:l[i]?=some e)(h1:∀e,e∈l.take i→okE fs e.1)(h2:okE fs e.1):∀e,e∈l.take (i+1)→okE fs e.1:=by
 intro y hy;rw[List.take_add_one,h,List.mem_append]at hy
 rcases hy with hy | hy
 ·
  exact h1 y hy
 ·
  simp only[Option.toList_some,List.mem_singleton]at hy;subst hy;exact h2
theorem slc_el{α:Type}{f:α→List Value}{k T n i:Nat}[he:Enc f k]{v:Value}{l:List α}{a:α}{H:Hp}(h:Slc T k v n (cel f l) H)(hi:l[i]?=some a)(hk:0<k) :
    ∃b o cc cap,v=.slice (some ⟨b,o,none⟩) n cap∧H=[(b,.cells cc.toArray T)]∧Lies cc (o+i*k) (f a)∧∀a', Slc T k v n (cel f (l.set i a')) [(b,.cells (setAt cc (o+i*k) (f a')).toArray T)]:=by
  obtain ⟨hil,hia⟩:=List.getElem?_eq_some_iff.1 hi;have hcl:=cel_len (f:=f) (k:=k) l
  have e1:cel f l=cel f (l.take i)++(f a++cel f (l.drop (i+1))):=by
    have hd:=List.drop_eq_getElem_cons hil
    rw[←cel_cons,←cel_app,←hia,←hd,List.take_append_drop]
  have e2:∀a', cel f (l.set i a')=cel f (l.take i)++(f a' ++ cel f (l.drop (i+1))):=fun a' => by
    rw[List.set_eq_take_append_cons_drop,if_pos hil,cel_app,cel_cons]
  have e3:(cel f (l.take i)).length=i*k:=by rw[cel_len,List.length_take,Nat.min_eq_left (by omega)]
  obtain ⟨h1,h2⟩:=h
  rcases h2 with ⟨_,hn,_⟩ | ⟨b,pre,spare,cap,rfl,hc,hs,rfl⟩
  · subst hn
    rw[hcl]at h1;have:0<l.length*k:=Nat.mul_pos (by omega) hk
    omega
  · refine ⟨b,pre.length,pre++cel f l++spare,cap,rfl,rfl,?_,fun a' => ⟨?_,.inr ⟨b,pre,spare,cap,rfl,hc,hs,?_⟩⟩⟩
    · have:=lies_mid (pre++cel f (l.take i)) (f a) (cel f (l.drop (i+1))++spare)
      rw[Y3,e3]at this;rw[e1]
      simpa only[Y7] using this
    · rw[cel_len,List.length_set,←hcl];exact h1
    · rw[e1,e2]
      have:=setAt_app (A:=pre++cel f (l.take i)) (X:=f a) (Y:=cel f (l.drop (i+1))++spare) (vs:=f a') (by rw[he.len,he.len];exact Nat.le_refl _)
      rw[Y3,e3,List.drop_of_length_le (l:=f a) (by rw[he.len,he.len];exact Nat.le_refl _),Y2]at this;simp only[Y7]at this ⊢;rw[this]
section
variable{fs:List Fld}
include fs
theorem El.three(h:fs.length=3)(e:El fs):∃a0 a1 a2,e.1=[a0,a1,a2]:=by
 obtain ⟨l,hl,hr⟩:=e;rw[h]at hl
 match l,hl with
 | [a,b,c],_=>exact ⟨a,b,c,rfl⟩
theorem El.two(h:fs.length=2)(e:El fs):∃a0 a1,e.1=[a0,a1]:=by
 obtain ⟨l,hl,hr⟩:=e;rw[h]at hl
 match l,hl with
 | [a,b],_=>exact ⟨a,b,rfl⟩
theorem El.four(h:fs.length=4)(e:El fs):∃a0 a1 a2 a3,e.1=[a0,a1,a2,a3]:=by
 obtain ⟨l,hl,hr⟩:=e;rw[h]at hl
 match l,hl with
 | [a,b,c,d],_=>exact ⟨a,b,c,d,rfl⟩
theorem El.eight(h:fs.length=8)(e:El fs):∃a0 a1 a2 a3 a4 a5 a6 a7,e.1=[a0,a1,a2,a3,a4,a5,a6,a7]:=by
 obtain ⟨l,hl,hr⟩:=e;rw[h]at hl
 match l,hl with
 | [a,b,c,d,x,y,z,w],_=>exact ⟨a,b,c,d,x,y,z,w,rfl⟩
end
end
section
structure Dd where
  o:List (El fsO)
  p:List (El fsP)
  m:List (El fsM)
  f:List (El fsF)
  t:List (El fsT)
  w:List (El fsW)
  s:List (El fsS)
def okD (D:Dd):Prop:=okL fsO 64 D.o∧okL fsP 256 D.p∧okL fsM 64 D.m∧okL fsF 512 D.f∧okL fsT 64 D.t∧okL fsW 8 D.w∧okL fsS 16 D.s
def encD (D:Dd):List UInt8:=encL fsO D.o++encL fsP D.p++encL fsM D.m++encL fsF D.f++encL fsT D.t++encL fsW D.w++encL fsS D.s
noncomputable def rdD (s:List UInt8):Option (Dd×List UInt8) :=
  match rdL fsO 64 s with
  | none=>none
  | some (o,s)=>match rdL fsP 256 s with
    | none=>none
    | some (p,s)=>match rdL fsM 64 s with
      | none=>none
      | some (m,s)=>match rdL fsF 512 s with
        | none=>none
        | some (f,s)=>match rdL fsT 64 s with
          | none=>none
          | some (t,s)=>match rdL fsW 8 s with
            | none=>none
            | some (w,s)=>match rdL fsS 16 s with
              | none=>none
              | some (u,s)=>some (⟨o,p,m,f,t,w,u⟩,s)
structure DS (to tp tm tf tt tw ts:TypeId) (D:Dd) (v1 v2 v3 v4 v5 v6 v7:Value) (H1 H2 H3 H4 H5 H6 H7:Hp):Prop where
  o:Slc to 3 v1 D.o.length (cel (cE fsO) D.o) H1
  p:Slc tp 8 v2 D.p.length (cel (cE fsP) D.p) H2
  m:Slc tm 4 v3 D.m.length (cel (cE fsM) D.m) H3
  f:Slc tf 3 v4 D.f.length (cel (cE fsF) D.f) H4
  t:Slc tt 8 v5 D.t.length (cel (cE fsT) D.t) H5
  w:Slc tw 4 v6 D.w.length (cel (cE fsW) D.w) H6
  s:Slc ts 2 v7 D.s.length (cel (cE fsS) D.s) H7
theorem rdL_len{fs:List Fld}{m:Nat}{s r:List UInt8}{l:List (El fs)}(h:rdL fs m s=some (l,r)):l.length≤m∧r.length≤s.length:=by
 unfold rdL at h
 split at h
 ·
  cases h
 ·
  split at h
  ·
   cases h
  ·
   have:=rdI_len h
   rw[Y6]at this;omega
theorem encL_le{fs:List Fld}{m:Nat}{l:List (El fs)}(h:okL fs m l)(hw:widE fs≤20):(encL fs l).length≤2+m*20:=by
 rw[encL_len];have:=Nat.mul_le_mul h.1 hw
 omega
end
section
def El.n {fs:List Fld} (e:El fs) (i:Nat):Int:=e.val.getD i 0
def bitsE1:List (El fsO)→Int
  | []=>0
  | e::l=>if (bitsU (e.n 0) (e.n 1)).2≠0 then (bitsU (e.n 0) (e.n 1)).2 else bitsE1 l
def bitsOf (l:List (El fsO)):List Int:=l.map fun e=>(bitsU (e.n 0) (e.n 1)).1
def keyOf (b:List Int) (i:Int):Int:=b.getD i.toNat 0
def upTo (n:Nat):List Int:=(List.range n).map Int.ofNat
def ordOf (b:List Int):List Int:=srt (keyOf b) (upTo b.length)
def layS (b:List Int) (s:List Int×Int) (i:Int):List Int×Int:=(s.1.set i.toNat s.2,s.2+pw (keyOf b i))
def layF (b:List Int):List Int×Int:=(ordOf b).foldl (layS b) (List.replicate b.length 0,0)
def planE (D:Dd) (words:Int):Int :=
  if D.o.length>64∨words<64∨words>65536 then 1 else if bitsE1 D.o≠0 then bitsE1 D.o
  else if (layF (bitsOf D.o)).2>words then 7 else 0
def planL (D:Dd):List (Int×Int):=(layF (bitsOf D.o)).1.zip (bitsOf D.o)
inductive BA
  | bad (e:Int)
  | create (n kd:Int) (q:Int×Int) (size:Int)
  | plant (s:SlotM) (c:CapM)
  | map (n into a:Int) (wr:Bool)
  | poke (a v:Int)
  | setup (n lvl dom pc:Int) (root:CapM) (space:Int)
  | wire (line dom on badge:Int)
  | start (n:Int)
def wireE (k:Kn) (line dom on badge:Int):Int :=
  if k.isK on 5=false then 3 else if ¬badge.fdiv (2^28)=0 then 10
  else if line<0∨line≥8∨dom<0∨dom≥4 then 1 else if (k.q[line.toNat]?.getD .new).owner ≠ -1 then 4 else 0
def Kn.wire (k:Kn) (line dom on badge:Int):Kn :=
  if wireE k line dom on badge≠0 then k else { k with wi:=fset k.wi line.toNat ⟨true,on,badge⟩,q:=k.q.modify line.toNat fun l=>{ l with owner:=dom,masked:=false } }
def BA.run:BA→Kn→Int×Kn
  | .bad e,k=>(e,k)
  | .create n kd q size,k=>(createE k n kd q size,if createE k n kd q size=0 then k.made n kd q size else k)
  | .plant s c,k=>k.plant s c
  | .map n into a wr,k=>(mapE k n into a wr,k.map n into a wr)
  | .poke a v,k=>(memPutE k.ws a,{ k with ws:=memPut k.ws a v })
  | .setup n lvl dom pc root space,k=>(setupE k n lvl dom pc root space,k.setup n lvl dom pc root space .zero)
  | .wire line dom on badge,k=>(wireE k line dom on badge,k.wire line dom on badge)
  | .start n,k=>(k.startE n,k.start n)
def BA.go (s:Int×Kn) (b:BA):Int×Kn:=if s.1=0 then b.run s.2 else s
def bRun (s:Int×Kn) (l:List BA):Int×Kn:=l.foldl BA.go s
theorem bRun_app(s:Int×Kn)(l m:List BA):bRun s (l++m)=bRun (bRun s l) m:=List.foldl_append ..
theorem bRun_cons(s:Int×Kn)(b:BA)(l:List BA):bRun s (b::l)=bRun (BA.go s b) l:=rfl
def kindD (o:List (El fsO)) (n:Int):Int:=if n<0∨n≥o.length then -1 else ((o[n.toNat]?).map (fun e=>e.n 0)).getD 0
def aO (l:List (Int×Int)) (i:Nat) (e:El fsO):BA:=.create i (e.n 0) (l.getD i (0,0)) (e.n 1)
def aP (e:El fsP):BA:=.plant (e.n 0,e.n 1) ⟨e.n 2,e.n 3,e.n 4,e.n 5,e.n 6,e.n 7⟩
def aM (o:List (El fsO)) (tables:Bool) (e:El fsM):List BA :=
  if decide (kindD o (e.n 0)=7)≠tables then [] else
  [if tables=false∧kindD o (e.n 0)≠6 then .bad 2 else .map (e.n 0) (e.n 1) (e.n 2) (decide (e.n 3=1))]
def aF (o:List (El fsO)) (l:List (Int×Int)) (e:El fsF):BA :=
  if kindD o (e.n 0)≠6 then .bad 2 else if e.n 1<0∨e.n 1≥16 then .bad 1 else .poke ((l.getD (e.n 0).toNat (0,0)).1+e.n 1) (e.n 2)
def rootD (e:El fsT):CapM:=⟨2,e.n 4,0,0,e.n 5,e.n 6⟩
def aT (o:List (El fsO)) (e:El fsT):BA :=
  if kindD o (e.n 4)≠2 then .bad 2 else if checkM (rootD e)≠0 then .bad (checkM (rootD e)) else .setup (e.n 0) (e.n 1) (e.n 2) (e.n 3) (rootD e) (e.n 7)
def aW (e:El fsW):BA:=.wire (e.n 0) (e.n 1) (e.n 2) (e.n 3)
def aS (e:El fsT):BA:=.start (e.n 0)
def actsD (D:Dd) (l:List (Int×Int)):List BA :=
  D.o.mapIdx (aO l)++(D.p.map aP++(D.m.flatMap (aM D.o true)++(D.m.flatMap (aM D.o false)++(D.f.map (aF D.o l)++(D.t.map (aT D.o)++(D.w.map aW++D.t.map aS))))))
def timesD (D:Dd):Ones:=D.s.map fun e=>(e.n 0,e.n 1)
instance (T:Ones):Decidable (tmsOk T):=by unfold tmsOk;infer_instance
def bootM (D:Dd) (words:Int):Int×Kn :=
  if planE D words≠0 then (planE D words,Kn.new 0 []) else if ¬tmsOk (timesD D) then (1,Kn.new 0 [])
  else bRun (0,Kn.new words.toNat (timesD D)) (actsD D (planL D))
end
section
def sumP (b:List Int):List Int→Int
  | []=>0
  | i::o=>pw (keyOf b i)+sumP b o
theorem sumP_cons(b:List Int)(i:Int)(o:List Int):sumP b (i::o)=pw (keyOf b i)+sumP b o:=rfl
theorem pw_pos(x:Int):0≤pw x:=Int.natCast_nonneg _
def Laid (b L:List Int):Int→List Int→Prop
  | _,[]=>True
  | at_,i::o=>L.getD i.toNat 0=at_∧Laid b L (at_+pw (keyOf b i)) o
theorem lay_cons(b:List Int)(i:Int)(o l:List Int)(a:Int):(i::o).foldl (layS b) (l,a)=o.foldl (layS b) (l.set i.toNat a,a+pw (keyOf b i)):=rfl
theorem lay_sum(b:List Int):∀(o l:List Int) (a:Int),(o.foldl (layS b) (l,a)).2=a+sumP b o
  | [],l,a=>by simp[sumP]
  | i::o,l,a=>by rw[lay_cons,lay_sum,sumP_cons];omega
theorem lay_len(b:List Int):∀(o l:List Int) (a:Int),(o.foldl (layS b) (l,a)).1.length=l.length
  | [],l,a=>rfl
  | i::o,l,a=>by rw[lay_cons,lay_len,List.length_set]
theorem lay_other(b:List Int):∀(o l:List Int) (a:Int) (n:Nat),(∀i,i∈o→i.toNat≠n)→(o.foldl (layS b) (l,a)).1.getD n 0=l.getD n 0
  | [],l,a,n,_=>rfl
  | i::o,l,a,n,h=>by
    rw[lay_cons,lay_other b o _ _ n (fun j hj=>h j (List.mem_cons_of_mem _ hj))];simp only[List.getD_eq_getElem?_getD];rw[List.getElem?_set_ne (h i (List.mem_cons_self ..))]
theorem lay_laid(b:List Int):∀(o l:List Int) (a:Int),o.Nodup→(∀i,i∈o→0≤i∧i<l.length)→Laid b (o.foldl (layS b) (l,a)).1 a o
  | [],l,a,_,_=>trivial
  | i::o,l,a,hn,hr=>by
    obtain ⟨n1,n2⟩:=List.nodup_cons.1 hn;have hi:=hr i (List.mem_cons_self ..)
    rw[lay_cons];refine ⟨?_,?_⟩
    · rw[lay_other b o _ _ i.toNat (fun j hj e=>n1 (by
        have:=hr j (List.mem_cons_of_mem _ hj)
        rwa [show i=j by omega]))]
      simp only[List.getD_eq_getElem?_getD];rw[List.getElem?_set_self (by omega)];rfl
    · exact lay_laid b o _ _ n2 (fun j hj=>by rw[List.length_set];exact hr j (List.mem_cons_of_mem _ hj))
theorem up_mem{n:Nat}{i:Int}:i∈upTo n↔0≤i∧i<n:=by
 unfold upTo;rw[List.mem_map]
 constructor
 ·
  rintro ⟨j,hj,rfl⟩;have:=List.mem_range.1 hj;simp only[Int.ofNat_eq_natCast];omega
 ·
  intro h;exact ⟨i.toNat,List.mem_range.2 (by omega),by simp only[Int.ofNat_eq_natCast];omega⟩
theorem up_nodup(n:Nat):(upTo n).Nodup:=by
 unfold upTo List.Nodup;rw[List.pairwise_map];exact List.nodup_range.imp (fun h e=>h (Int.ofNat.inj e))
theorem ord_mem{b:List Int}{i:Int}:i∈ordOf b↔0≤i∧i<b.length:=by rw[←up_mem];exact (srt_perm _).mem_iff
theorem ord_nodup(b:List Int):(ordOf b).Nodup:=srt_nodup (up_nodup _)
theorem sumP_pos{b:List Int}:∀o:List Int,0≤sumP b o
  | []=>Int.le_refl 0
  | i::o=>by have:=sumP_pos (b:=b) o;have:=pw_pos (keyOf b i);rw[sumP_cons];omega
theorem Laid.bound{b L:List Int}:∀{o:List Int} {a:Int},Laid b L a o→∀i,i∈o→a≤L.getD i.toNat 0∧L.getD i.toNat 0+pw (keyOf b i)≤a+sumP b o
  | [],a,_,i,h=>(List.not_mem_nil h).elim
  | j::o,a,h,i,hi=>by
    have h0:=sumP_pos (b:=b) o
    have h1:=pw_pos (keyOf b j)
    rw[sumP_cons]
    rcases List.mem_cons.1 hi with rfl | hi'
    · rw[h.1];omega
    · have:=Laid.bound h.2 i hi'
      omega
theorem Laid.aside{b L:List Int}:∀{o:List Int} {a:Int},Laid b L a o→∀i,i∈o→∀j,j∈o→i≠j→L.getD i.toNat 0+pw (keyOf b i)≤L.getD j.toNat 0∨L.getD j.toNat 0+pw (keyOf b j)≤L.getD i.toNat 0
  | [],a,_,i,h,_,_,_=>(List.not_mem_nil h).elim
  | x::o,a,h,i,hi,j,hj,hij=>by
    rcases List.mem_cons.1 hi with e | hi'
    · rcases List.mem_cons.1 hj with e2 | hj'
      · exact absurd (e.trans e2.symm) hij
      · have:=Laid.bound h.2 j hj';rw[e,h.1];omega
    · rcases List.mem_cons.1 hj with e2 | hj'
      · have:=Laid.bound h.2 i hi';rw[e2,h.1];omega
      · exact Laid.aside h.2 i hi' j hj' hij
theorem pw_dvd{x y:Int}(h:x≤y):pw x∣pw y:=by
 unfold pw;exact Int.natCast_dvd_natCast.2 (Nat.pow_dvd_pow 2 (by omega))
theorem Laid.align{b L:List Int}:∀{o:List Int} {a:Int},Laid b L a o→o.Pairwise (fun x y=>keyOf b y≤keyOf b x)→(∀i,i∈o→pw (keyOf b i)∣a)→∀i,i∈o→pw (keyOf b i)∣L.getD i.toNat 0
  | [],a,_,_,_,i,h=>(List.not_mem_nil h).elim
  | x::o,a,h,hs,hd,i,hi=>by
    obtain ⟨s1,s2⟩:=List.pairwise_cons.1 hs
    rcases List.mem_cons.1 hi with rfl | hi
    · rw[h.1];exact hd i (List.mem_cons_self ..)
    · exact Laid.align h.2 s2 (fun j hj=>Int.dvd_add (hd j (List.mem_cons_of_mem _ hj)) (pw_dvd (s1 j hj))) i hi
section
variable(b:List Int)
include b
theorem ord_fall:(ordOf b).Pairwise (fun x y=>keyOf b y≤keyOf b x) :=
  (srt_sd (up_nodup _)).imp (fun h=>by rw[bef_iff]at h;omega)
theorem lay_of:Laid b (layF b).1 0 (ordOf b):=lay_laid b _ _ _ (ord_nodup b) (fun i hi=>by rw[List.length_replicate];exact ord_mem.1 hi)
theorem lay_total:(layF b).2=sumP b (ordOf b):=by unfold layF;rw[lay_sum];omega
theorem lay_length:(layF b).1.length=b.length:=by unfold layF;rw[lay_len,List.length_replicate]
end
theorem sumP_perm{b:List Int}{o o' : List Int}(h:o.Perm o'):sumP b o=sumP b o' := by
 induction h with
 | nil=>rfl
 | cons x _ ih=>unfold sumP;rw[ih]
 | swap x y l=>simp only[sumP];omega
 | trans _ _ h1 h2=>exact h1.trans h2
theorem lay_facts{b:List Int}{words:Int}(hb:∀x,x∈b→0≤x∧x≤16)(hw:(layF b).2≤words)(hw2:words≤65536) :
    (∀i:Nat,i<b.length→checkS ((layF b).1.getD i 0,b.getD i 0) words=0∧(layF b).1.getD i 0+pw (b.getD i 0)≤(layF b).2) ∧
    (∀i j:Nat,i<b.length→j<b.length→i≠j→apartS ((layF b).1.getD i 0,b.getD i 0) ((layF b).1.getD j 0,b.getD j 0)):=by
  have hL:=lay_of b
  have hbit:∀i:Nat,i<b.length→0≤b.getD i 0∧b.getD i 0≤16:=fun i hi=>by
    rw[List.getD_eq_getElem?_getD,Y8 hi];exact hb _ (List.getElem_mem ..)
  have hmem:∀i:Nat,i<b.length→(i:Int)∈ordOf b:=fun i hi=>ord_mem.2 (by omega)
  have hk:∀i:Nat,keyOf b (i:Int)=b.getD i 0:=fun i=>by unfold keyOf;rw[Int.toNat_natCast]
  have hbd:∀i:Nat,i<b.length→0≤(layF b).1.getD i 0∧(layF b).1.getD i 0+pw (b.getD i 0)≤(layF b).2:=fun i hi=>by
    have:=hL.bound i (hmem i hi)
    rw[hk,Int.toNat_natCast]at this;rw[lay_total];omega
  have hal:∀i:Nat,i<b.length→(layF b).1.getD i 0%pw (b.getD i 0)=0:=fun i hi=>by
    have:=hL.align (ord_fall b) (fun j _=>Int.dvd_zero _) i (hmem i hi)
    rw[hk,Int.toNat_natCast]at this;exact Int.emod_eq_zero_of_dvd this
  have hin:∀i:Nat,i<b.length→inRangeS ((layF b).1.getD i 0,b.getD i 0):=fun i hi=>by
    have:=hbd i hi;have:=hbit i hi
    unfold inRangeS;dsimp only;omega
  have hr:∀i:Nat,i<b.length→rightS ((layF b).1.getD i 0,b.getD i 0):=fun i hi=>⟨hin i hi,hal i hi⟩
  have hap:∀i j:Nat,i<b.length→j<b.length→i≠j→¬inS ((layF b).1.getD i 0,b.getD i 0) ((layF b).1.getD j 0,b.getD j 0):=fun i j hi hj hij h=>by
    have hs:=hL.aside i (hmem i hi) j (hmem j hj) (by omega)
    simp only[hk,Int.toNat_natCast]at hs;obtain ⟨_,h2⟩:=h;dsimp only at h2;have p1:=pw_le (hbit i hi).2
    have p2:=pw_le (hbit j hj).2
    have a2:=hal j hj
    have e1:=Int.mul_ediv_add_emod ((layF b).1.getD i 0) (pw (b.getD j 0))
    have e2:=Int.mul_ediv_add_emod ((layF b).1.getD j 0) (pw (b.getD j 0))
    have e3:=Int.emod_lt_of_pos ((layF b).1.getD i 0) (show 0<pw (b.getD j 0) by omega)
    have e4:=Int.emod_nonneg ((layF b).1.getD i 0) (show pw (b.getD j 0)≠0 by omega)
    rw[h2]at e1;omega
  refine ⟨fun i hi=>⟨?_,(hbd i hi).2⟩,fun i j hi hj hij=>⟨⟨⟨hr i hi,hr j hj⟩,hap i j hi hj hij⟩,hap j i hj hi (Ne.symm hij)⟩⟩;unfold checkS;rw[if_neg (by intro h;exact h (hin i hi)),if_neg (by intro h;exact h (hr i hi)),if_neg];have:=hbd i hi
  unfold endS;dsimp only;omega
end
section
def Kn.ext (k:Kn) (m:Nat):Kn:={ k with ws:=k.ws++List.replicate m 0 }
section
variable {ws : List Int} {m : Nat}
end
end
section
theorem bitsU_le{kd n:Int}(h:(bitsU kd n).2=0):0≤(bitsU kd n).1∧(bitsU kd n).1≤16:=by
 unfold bitsU at *
 repeat' split
 all_goals first
  | (dsimp only;omega)
  | (exfalso;simp_all)
theorem bitsE1_all:∀{l:List (El fsO)},bitsE1 l=0→∀e,e∈l→(bitsU (e.n 0) (e.n 1)).2=0
  | [],_,e,h=>(List.not_mem_nil h).elim
  | x::l,h,e,he=>by
    unfold bitsE1 at h
    split at h
    · rename_i h1;exact absurd h h1
    · rename_i h1
      rcases List.mem_cons.1 he with rfl | he
      · exact Decidable.not_not.1 h1
      · exact bitsE1_all h e he
structure PlanOk (D:Dd) (words:Int):Prop where
  lo:D.o.length≤64
  w1:64≤words
  w2:words≤65536
  bit:∀e,e∈D.o→(bitsU (e.n 0) (e.n 1)).2=0
  fit:(layF (bitsOf D.o)).2≤words
theorem plan_ok{D:Dd}{words:Int}(h:planE D words=0):PlanOk D words:=by
 unfold planE at h
 split at h
 ·
  cases h
 ·
  rename_i h1
  split at h
  ·
   rename_i h2;exact absurd h h2
  ·
   rename_i h2
   split at h
   ·
    cases h
   ·
    rename_i h3
    exact ⟨by omega,by omega,by omega,bitsE1_all (Decidable.not_not.1 h2),by omega⟩
theorem bitsOf_len(l:List (El fsO)):(bitsOf l).length=l.length:=by simp[bitsOf]
theorem PlanOk.bits{D:Dd}{words:Int}(h:PlanOk D words):∀x,x∈bitsOf D.o→0≤x∧x≤16:=by
 intro x hx;obtain ⟨e,he,rfl⟩:=List.mem_map.1 hx;exact bitsU_le (h.bit e he)
theorem planL_len(D:Dd):(planL D).length=D.o.length:=by unfold planL;rw[List.length_zip,lay_length,bitsOf_len];omega
theorem planL_get(D:Dd){i:Nat}(hi:i<D.o.length):(planL D).getD i (0,0)=((layF (bitsOf D.o)).1.getD i 0,(bitsOf D.o).getD i 0):=by
 have h1:i<(layF (bitsOf D.o)).1.length:=by rw[lay_length,bitsOf_len];exact hi
 have h2:i<(bitsOf D.o).length:=by rw[bitsOf_len];exact hi
 have h3:i<(planL D).length:=by rw[planL_len];exact hi
 simp only[List.getD_eq_getElem?_getD];rw[Y8 h1,Y8 h2,Y8 h3];simp[planL]
theorem PlanOk.check{D:Dd}{words:Int}(h:PlanOk D words){i:Nat}(hi:i<D.o.length):checkS ((planL D).getD i (0,0)) words=0∧endS ((planL D).getD i (0,0))≤(layF (bitsOf D.o)).2:=by
 obtain ⟨h1,_⟩:=lay_facts h.bits h.fit h.w2;rw[planL_get D hi];exact h1 i (by rw[bitsOf_len];exact hi)
theorem PlanOk.apart{D:Dd}{words:Int}(h:PlanOk D words){i j:Nat}(hi:i<D.o.length)(hj:j<D.o.length)(hij:i≠j):apartS ((planL D).getD i (0,0)) ((planL D).getD j (0,0)):=by
 obtain ⟨_,h2⟩:=lay_facts h.bits h.fit h.w2;rw[planL_get D hi,planL_get D hj];exact h2 i j (by rw[bitsOf_len];exact hi) (by rw[bitsOf_len];exact hj) hij
theorem plan_in{q:Int×Int}{words:Int}(h:checkS q words=0):inRangeS q∧endS q≤words:=by
 unfold checkS at h
 split at h
 ·
  cases h
 ·
  rename_i h1
  split at h
  ·
   cases h
  ·
   split at h
   ·
    cases h
   ·
    exact ⟨Decidable.not_not.1 h1,by omega⟩
theorem kindD_ex{o:List (El fsO)}{n kd:Int}(h:kindD o n=kd)(h0:kd ≠ -1):0≤n∧n.toNat<o.length∧∃e,o[n.toNat]?=some e∧e.n 0=kd:=by
 unfold kindD at h
 split at h
 ·
  exact absurd h.symm h0
 ·
  rename_i h1
  have hl:n.toNat<o.length:=by omega
  rw[Y8 hl]at h;exact ⟨by omega,hl,_,Y8 hl,h⟩
theorem mem_mapIdx'{α β:Type}{f:Nat→α→β}{l:List α}{b:β}(h:b∈l.mapIdx f):∃i a,l[i]?=some a∧b=f i a:=by
 obtain ⟨i,hi,rfl⟩:=List.mem_mapIdx.1 h;exact ⟨i,l[i],Y8 hi,rfl⟩
theorem bootM_ok{D:Dd}{words:Int}(h:planE D words=0)(hT:tmsOk (timesD D)):bootM D words=bRun (0,Kn.new words.toNat (timesD D)) (actsD D (planL D)):=by
 unfold bootM;rw[if_neg (by rw[h];decide),if_neg (fun h=>h hT)]
theorem bootM_times{D:Dd}{words:Int}(h:planE D words=0)(hT:¬tmsOk (timesD D)):bootM D words=(1,Kn.new 0 []):=by
 unfold bootM;rw[if_neg (by rw[h];decide),if_pos hT]
theorem bootM_plan{D:Dd}{words:Int}(h:planE D words≠0):bootM D words=(planE D words,Kn.new 0 []):=by
 unfold bootM;rw[if_pos h]
end
section
theorem tr_sSymM(fc:Nat)[hG:GoFn prog fc](cap:List Value)(Hc:Hp)(key:Int→Int)(Dm:Int→Prop)(hcmp:∀x y,Dm x→Dm y→TrR prog fc (.int .i64 x::.int .i64 y::cap) Hc (.int .i64 (cmpK key x y)))(b cp:Nat)(pre sp:List Value)(N:Nat)(hN2:N≤2^30):∀m:Nat,SymC b cp pre sp N fc cap Hc key Dm m
  | 0,l,l', P,X,Y,S,hm,h1,h2,hl,hl', hN,hX,hY,hXY,hD,a,c,d,ha,hc,hd=>by omega
  | m+1,l,l', P,X,Y,S,hm,h1,h2,hl,hl', hN,hX,hY,hXY,hD,a,c,d,ha,hc,hd=>by
    by_cases e1:X.length=1
    · obtain ⟨x,rfl⟩:=List.length_eq_one_iff.1 e1
      exact tr_sSymX fc cap Hc key Dm hcmp b cp pre sp l l' N hN2 P _ Y S x rfl h2 hl hl' hN hX hY hXY hD a c d ha hc hd
    · by_cases e2:Y.length=1
      · obtain ⟨y,rfl⟩:=List.length_eq_one_iff.1 e2
        exact tr_sSymY fc cap Hc key Dm hcmp b cp pre sp l l' N hN2 P X _ S y rfl (by omega) hl hl' hN hX hY hXY hD a c d ha hc hd
      · have ih:=tr_sSymM fc cap Hc key Dm hcmp b cp pre sp N hN2 m
        exact tr_sSymZ fc cap Hc key Dm hcmp b cp pre sp l l' N hN2 P X Y S (by omega) (by omega) (fun l l' P X' Y' S hm' => ih l l' P X' Y' S (by omega)) hl hl' hN hX hY hXY hD a c d ha hc hd
theorem asc_x{L:List Int}(h:L.Pairwise (·<·))(a k:Nat):((L.drop a).take k).Pairwise (·<·):=(h.sublist (List.drop_sublist ..)).sublist (List.take_sublist ..)
theorem asc_nd{L:List Int}(h:L.Pairwise (·<·)):L.Nodup:=h.imp (fun h=>by omega)
theorem asc_xy{key:Int→Int}{L:List Int}(h:L.Pairwise (·<·))(a k m:Nat):∀x,x∈srt key ((L.drop a).take k)→∀y,y∈srt key ((L.drop (a+k)).take m)→x<y:=by
 intro x hx y hy;obtain ⟨i,hi⟩:=List.mem_iff_getElem?.1 ((srt_perm _).subset hx);obtain ⟨j,hj⟩:=List.mem_iff_getElem?.1 ((srt_perm _).subset hy);rw[List.getElem?_take]at hi hj
 split at hi
 ·
  split at hj
  ·
   rw[List.getElem?_drop]at hi hj;obtain ⟨i1,rfl⟩:=List.getElem?_eq_some_iff.1 hi;obtain ⟨j1,rfl⟩:=List.getElem?_eq_some_iff.1 hj;exact List.pairwise_iff_getElem.1 h _ _ i1 j1 (by omega)
  cases hj
 cases hi
theorem srt_two{key:Int→Int}{L:List Int}(h:L.Nodup)(k:Nat):srt key (srt key (L.take k)++srt key ((L.drop k).take k))=srt key (L.take (2*k)):=by
 refine srt_congr (h.sublist (List.take_sublist ..)) ?_;rw[←take_two];exact (srt_perm _).append (srt_perm _)
section
variable(fc:Nat)[hG:GoFn prog fc](cap:List Value)(Hc:Hp)(key:Int→Int)(Dm:Int→Prop)(hcmp:∀x y,Dm x→Dm y→TrR prog fc (.int .i64 x::.int .i64 y::cap) Hc (.int .i64 (cmpK key x y)))(b cp:Nat)(pre sp:List Value)(N:Nat)(hN2:N≤2^30)(L:List Int)(hN:L.length=N)(hL:L.Pairwise (·<·))(hD:∀x,x∈L→Dm x)
include fc hG cap Hc key Dm hcmp b cp pre sp N hN2 L hN hL hD
theorem tr_sStable(d:Int)(hd:d=(N:Nat)):Tr prog 77 [.slice (some ⟨b,pre.length,none⟩) N cp,.int .i64 d,.func (.func fc) #[] cap.toArray] ((b,.cells (pre++intsC (L)++sp).toArray 3)::Hc) (fun u L' => u=.tuple #[]∧L' = (b,.cells (pre++intsC (srt key L)++sp).toArray 3)::Hc):=by
 subst hd;have hnd:=asc_nd hL
 refine YR func77 ntmps77 fun W F=>?_
 refine zq [3,4,1,2,5,3,4,0,1,1,2,5,3,20] ?_;refine Wp.loopK (σ:=Nat×List Int) [(0,_),(1,_),(2,_),(6,_)] (fun s=>[(7,.int .i64 s.1),(8,.int .i64 (s.1+20:Nat))]) (fun s=>(b,.cells (pre++intsC (s.2++L.drop s.1)++sp).toArray 3)::(Hc++F)) (fun s=>s.1≤N∧s.2.length=s.1∧s.2++CH key 20 (L.drop s.1)=CH key 20 L) (fun s=>N-s.1) (0,[]) ⟨Nat.zero_le _,rfl,rfl⟩ ⟨rfl,rfl,rfl,rfl,trivial⟩ ⟨rfl,rfl,trivial⟩ (by intro w ho;exact ho) ?_;rintro ⟨a,Pr⟩ KK ⟨ha,hPl,hPe⟩ hK;dsimp only[Y1,Y2]at hK ⊢;dsimp only at ha hPl hPe ⊢;refine zq [3,3,4,0,0,45,2,5] ?_;refine Yd rfl (fun h1=>?_) (fun h1=>?_)
 ·
  have hb20:a+20≤N:=by omega
  refine zq [11,5,20,3,4,0,0,0,0] ?_;refine Ops.ef rfl (ef_call (tr_sIns fc cap Hc key Dm hcmp b cp pre sp (Pr++L.drop a) ((Pr++srt key ((L.drop a).take 20))++L.drop (a+20)) N hN2 Pr ((L.drop a).take 20) (L.drop (a+20)) (asc_x hL a 20) (fun x hx=>hD x (List.mem_of_mem_drop (List.mem_of_mem_take hx))) (by rw[←List.drop_drop,List.take_append_drop]) (by rw[Y7]) (by rw[Y3,Y6];omega) _ _ (by rw[hPl]) (by rw[hPl,List.length_take,Y6];omega)) rfl rfl) ?_;rintro _ _ ⟨_,_,⟨rfl,rfl⟩,rfl,rfl⟩;refine Ops.app ?_;refine zq [2,5,3,4,0,1,2,5,4,0,0] ?_;refine Ya rfl rfl (a+20+20) ?_;refine zq [1,2,19,49] ?_;refine Yy (hK (a+20,Pr++srt key ((L.drop a).take 20)) ⟨by dsimp only;omega,by dsimp only;rw[Y3,srt_len,List.length_take,Y6];omega,by dsimp only;rw[←hPe,CH_eq (by decide) (L.drop a),List.drop_drop,Y7]⟩ (by dsimp only;omega))
 have hb20:N<a+20:=by omega
 refine zq [41,16,16,40,5,3,4,0,0,0,0] ?_;refine Ops.ef rfl (ef_call (tr_sIns fc cap Hc key Dm hcmp b cp pre sp (Pr++L.drop a) (CH key 20 L) N hN2 Pr (L.drop a) [] (hL.sublist (List.drop_sublist ..)) (fun x hx=>hD x (List.mem_of_mem_drop hx)) (by rw[List.append_nil]) (by rw[←hPe,CH_all (by decide) (by rw[Y6];omega),List.append_nil]) (by rw[Y3,Y6];omega) _ _ (by rw[hPl]) (by rw[hPl,Y6];omega)) rfl rfl) ?_;rintro _ _ ⟨_,_,⟨rfl,rfl⟩,rfl,rfl⟩;refine Ops.app ?_;refine zq [2,5,20] ?_;refine YM (σ:=Nat) [(0,_),(1,_),(2,_)] (fun s=>[(6,.int .i64 s)]) (fun s=>(b,.cells (pre++intsC (CH key s L)++sp).toArray 3)::(Hc++F)) (fun s=>20≤s∧s≤2^31) (fun s=>N-s) 20 ⟨by decide,by decide⟩ ?_;rintro k KK hk20 hK;dsimp only[Y1,Y2]at hK ⊢;refine zq [3,3,4,0,0,42,2,5] ?_;refine Yd rfl (fun h2=>?_) (fun h2=>?_)
 ·
  have hkn:k<N:=by omega
  refine zq [11,5,20,3,4,0] ?_;refine Yp (pv_mul rfl rfl (w64n (k:=2*k) (by omega) (by omega))) ?_;refine zq [1,1,2,5,3,20] ?_;refine Wp.loopK (σ:=Nat×List Int) [(0,_),(1,_),(2,_),(6,_)] (fun s=>[(7,.int .i64 s.1),(8,.int .i64 (2*k+s.1:Nat))]) (fun s=>(b,.cells (pre++intsC (s.2++CH key k (L.drop s.1))++sp).toArray 3)::(Hc++F)) (fun s=>s.1≤N∧s.2.length=s.1∧s.2++CH key (2*k) (L.drop s.1)=CH key (2*k) L) (fun s=>N-s.1) (0,[]) ⟨Nat.zero_le _,rfl,rfl⟩ ⟨rfl,rfl,rfl,rfl,trivial⟩ ⟨rfl,rfl,trivial⟩ (by intro w ho;exact ho) ?_;rintro ⟨a,Pr⟩ KK ⟨ha,hPl,hPe⟩ hK1;dsimp only[Y1,Y2]at hK1 ⊢;dsimp only at ha hPl hPe ⊢;refine zq [3,3,4,0,0,45,2,5] ?_;refine Yd rfl (fun h3=>?_) (fun h3=>?_)
  ·
   have hbk:a+2*k≤N:=by omega
   refine zq [11,5,20,3,4,0,0,0,0] ?_;refine Ya rfl rfl (a+k) ?_;refine zq [0,0] ?_;refine Ops.ef rfl (ef_call (tr_sSymM fc cap Hc key Dm hcmp b cp pre sp N hN2 _ (Pr++CH key k (L.drop a)) ((Pr++srt key ((L.drop a).take (2*k)))++CH key k (L.drop (a+2*k))) Pr (srt key ((L.drop a).take k)) (srt key ((L.drop (a+k)).take k)) (CH key k (L.drop (a+2*k))) (Nat.le_refl _) (by rw[srt_len,List.length_take,Y6];omega) (by rw[srt_len,List.length_take,Y6];omega) (by rw[CH_two (by omega),List.drop_drop,List.drop_drop]) (by rw[←srt_two (hnd.sublist (List.drop_sublist ..)),List.drop_drop,Y7]) (by rw[Y3,CH_len (by omega) _ _ (Nat.le_refl _),Y6];omega) (srt_sd (asc_nd (asc_x hL a k))) (srt_sd (asc_nd (asc_x hL (a+k) k))) (asc_xy hL a k k) (fun x hx=>hD x ((List.mem_append.1 hx).elim (fun h=>List.mem_of_mem_drop (List.mem_of_mem_take ((srt_perm _).subset h))) (fun h=>List.mem_of_mem_drop (List.mem_of_mem_take ((srt_perm _).subset h))))) _ _ _ (by rw[hPl]) (by rw[hPl,srt_len,List.length_take,Y6];omega) (by rw[hPl,srt_len,srt_len,List.length_take,List.length_take,Y6,Y6];omega)) rfl rfl) ?_;rintro _ _ ⟨_,_,⟨rfl,rfl⟩,rfl,rfl⟩;refine Ops.app ?_;refine zq [2,5,3,4,0,1,2,5,4,0,0] ?_;refine Yp (pv_mul rfl rfl (w64n (k:=2*k) (by omega) (by omega))) ?_;refine Ya rfl rfl (2*k+(a+2*k)) ?_;refine zq [1,2,19,49] ?_;rw[show 2*k+a=a+2*k by omega];refine Yy (hK1 (a+2*k,Pr++srt key ((L.drop a).take (2*k))) ⟨by dsimp only;omega,by dsimp only;rw[Y3,srt_len,List.length_take,Y6];omega,by dsimp only;rw[←hPe,CH_eq (by omega) (L.drop a),List.drop_drop,Y7]⟩ (by dsimp only;omega))
  have hbk:N<a+2*k:=by omega
  refine zq [41,16,16,40,5,3,3,4,0,0] ?_;refine Ya rfl rfl (a+k) ?_;refine zq [1,2,5,3,4,0,0,42,2,5] ?_;refine Yd rfl (fun h4=>?_) (fun h4=>?_)
  ·
   have hmn:a+k<N:=by omega
   refine zq [4,0,0,0,0,0] ?_;refine Ops.ef rfl (ef_call (tr_sSymM fc cap Hc key Dm hcmp b cp pre sp N hN2 _ (Pr++CH key k (L.drop a)) (CH key (2*k) L) Pr (srt key ((L.drop a).take k)) (srt key ((L.drop (a+k)).take k)) [] (Nat.le_refl _) (by rw[srt_len,List.length_take,Y6];omega) (by rw[srt_len,List.length_take,Y6];omega) (by rw[CH_two (by omega),List.drop_drop,List.drop_drop,List.drop_of_length_le (show L.length≤a+2*k by omega),CH_nil]) (by rw[←hPe,CH_eq (by omega),List.drop_drop,List.drop_of_length_le (show L.length≤a+2*k by omega),CH_nil,←srt_two (hnd.sublist (List.drop_sublist ..)),List.drop_drop]) (by rw[Y3,CH_len (by omega) _ _ (Nat.le_refl _),Y6];omega) (srt_sd (asc_nd (asc_x hL a k))) (srt_sd (asc_nd (asc_x hL (a+k) k))) (asc_xy hL a k k) (fun x hx=>hD x ((List.mem_append.1 hx).elim (fun h=>List.mem_of_mem_drop (List.mem_of_mem_take ((srt_perm _).subset h))) (fun h=>List.mem_of_mem_drop (List.mem_of_mem_take ((srt_perm _).subset h))))) _ _ _ (by rw[hPl]) (by rw[hPl,srt_len,List.length_take,Y6];omega) (by rw[hPl,srt_len,srt_len,List.length_take,List.length_take,Y6,Y6];omega)) rfl rfl) ?_;rintro _ _ ⟨_,_,⟨rfl,rfl⟩,rfl,rfl⟩;refine Ops.app ?_;refine zq [2,5,4,0] ?_;refine Yp (pv_mul rfl rfl (w64n (k:=2*k) (by omega) (by omega))) ?_;refine zq [1,2,19,49] ?_;refine Yy (hK (2*k) ⟨by omega,by omega⟩ (by omega))
  have hone:Pr++CH key k (L.drop a)=CH key (2*k) L:=by rw[←hPe,CH_all (by omega) (by rw[Y6];omega),CH_all (by omega) (by rw[Y6];omega)]
  rw[hone];refine zq [11,5,4,0] ?_;refine Yp (pv_mul rfl rfl (w64n (k:=2*k) (by omega) (by omega))) ?_;refine zq [1,2,19,49] ?_;refine Yy (hK (2*k) ⟨by omega,by omega⟩ (by omega))
 have hfin:CH key k L=srt key L:=CH_all (by omega) (by omega)
 rw[hfin];refine zq [41,16,16,40] ?_;exact zf (L' := (b,.cells (pre++intsC (srt key L)++sp).toArray 3)::Hc) ⟨rfl,rfl⟩
theorem tr_sSort:Tr prog 34 [.slice (some ⟨b,pre.length,none⟩) N cp,.func (.func fc) #[] cap.toArray] ((b,.cells (pre++intsC (L)++sp).toArray 3)::Hc) (fun u L' => u=.tuple #[]∧L' = (b,.cells (pre++intsC (srt key L)++sp).toArray 3)::Hc):=by
 refine YR func34 ntmps34 fun W F=>?_
 refine zq [4,0,0] ?_;refine Yp (pv_len_slice (T:=128) rfl rfl) ?_;refine zq [0] ?_;refine zD (tr_sStable fc cap Hc key Dm hcmp b cp pre sp N hN2 L hN hL hD _ rfl) ?_;rintro _ _ ⟨rfl,rfl⟩;refine Ops.app ?_;refine Ops.nil ?_;exact zf (L' := (b,.cells (pre++intsC (srt key L)++sp).toArray 3)::Hc) ⟨rfl,rfl⟩
end
theorem tr_isNaN(x:Int):TrR prog 78 [.int .i64 x] ([]) (.bool false):=by
 refine YR func78 ntmps78 fun W F=>?_
 refine zq [3,4,1,2,5,3,4,0,0,67,1,2,5,10] ?_;exact zr ⟨rfl,rfl⟩
theorem tr_compare(x y:Int):TrR prog 36 [.int .i64 x,.int .i64 y] ([]) (.int .i64 (if x<y then -1 else if x>y then 1 else 0)):=by
 refine YR func36 ntmps36 fun W F=>?_
 refine zq [3,4,1,2,5,3,4,0] ?_;refine zC (tr_isNaN x) ?_;refine zq [1,2,5,3,4,0] ?_;refine zC (tr_isNaN y) ?_;refine zq [1,2,5,3,3,4,0,2,5,17,11,5,3,3,4,0,2,5,17,11,5,3,3,4,0,0,42,2,5] ?_;refine Yd rfl (fun h1=>?_) (fun h1=>?_)
 ·
  refine zq [3,4,1,2,5,10,12] ?_;rw[if_pos (by assumption)];exact zr ⟨rfl,rfl⟩
 refine zq [11,5,3,3,4,0,0,44,2,5] ?_;refine Yd rfl (fun h2=>?_) (fun h2=>?_)
 ·
  refine zq [3,4,1,2,5,10,12] ?_;rw[if_neg (by assumption),if_pos (by assumption)];exact zr ⟨rfl,rfl⟩
 refine zq [11,5,3,4,1,2,5,10] ?_;rw[if_neg (by assumption),if_neg (by assumption)];exact zr ⟨rfl,rfl⟩
section
variable{l:Ones}{i:Nat}{p:Int×Int}(h:l[i]?=some p)
include l i p h
theorem one_setA(a:Int):SetL (cel oneC l) (0+i*2) [.int .i64 a] (cel oneC (l.set i (a,p.2))):=by
 obtain ⟨hl,rfl⟩:=List.getElem?_eq_some_iff.1 h;have e1:cel oneC l=cel oneC (l.take i)++([.int .i64 l[i].1]++(.int .i64 l[i].2::cel oneC (l.drop (i+1)))):=by
  conv=>lhs;rw[←List.take_append_drop i l,List.drop_eq_getElem_cons hl,cel_app,cel_cons]
  rfl
 have e2:cel oneC (l.set i (a,l[i].2))=cel oneC (l.take i)++([.int .i64 a]++(.int .i64 l[i].2::cel oneC (l.drop (i+1)))):=by
  rw[List.set_eq_take_append_cons_drop,if_pos hl,cel_app,cel_cons];rfl
 have e3:(cel oneC (l.take i)).length=0+i*2:=by rw[cel_len,List.length_take];omega
 rw[e1,e2,←e3];exact setL_mid rfl
theorem one_setB(c:Int):SetL (cel oneC l) (0+i*2+1) [.int .i64 c] (cel oneC (l.set i (p.1,c))):=by
 obtain ⟨hl,rfl⟩:=List.getElem?_eq_some_iff.1 h;have e1:cel oneC l=(cel oneC (l.take i)++[.int .i64 l[i].1])++([.int .i64 l[i].2]++cel oneC (l.drop (i+1))):=by
  conv=>lhs;rw[←List.take_append_drop i l,List.drop_eq_getElem_cons hl,cel_app,cel_cons]
  rw[Y7];rfl
 have e2:cel oneC (l.set i (l[i].1,c))=(cel oneC (l.take i)++[.int .i64 l[i].1])++([.int .i64 c]++cel oneC (l.drop (i+1))):=by
  rw[List.set_eq_take_append_cons_drop,if_pos hl,cel_app,cel_cons,Y7];rfl
 have e3:(cel oneC (l.take i)++[Value.int .i64 l[i].1]).length=0+i*2+1:=by rw[Y3,cel_len,List.length_take];simp;omega
 rw[e1,e2,←e3];exact setL_mid rfl
theorem one_at1:nth (cel oneC l) (0+i*2+1)=some (.int .i64 p.2):=by
 obtain ⟨hl,rfl⟩:=List.getElem?_eq_some_iff.1 h;have e1:cel oneC l=(cel oneC (l.take i)++[.int .i64 l[i].1])++(.int .i64 l[i].2::cel oneC (l.drop (i+1))):=by
  conv=>lhs;rw[←List.take_append_drop i l,List.drop_eq_getElem_cons hl,cel_app,cel_cons]
  rw[Y7];rfl
 have e3:(cel oneC (l.take i)++[Value.int .i64 l[i].1]).length=0+i*2+1:=by rw[Y3,cel_len,List.length_take];simp;omega
 rw[nth_eq,e1,←e3,List.getElem?_append_right (Nat.le_refl _),Nat.sub_self];rfl
end
theorem ints_at{l:List Int}{i:Nat}{x:Int}(h:l[i]?=some x):nth (intsC l) (0+i*1)=some (.int .i64 x):=by rw[nth_eq,Nat.zero_add,Nat.mul_one];simp[intsC,h]
theorem ints_put{l:List Int}{i:Nat}(x:Int)(h:i<l.length):SetL (intsC l) (0+i*1) [.int .i64 x] (intsC (l.set i x)):=by
 have:=ints_set (pre:=[]) (sp:=[]) x h
 simpa using this
theorem rep_ints(n:Nat):(List.replicate n [Value.int .i64 0]).flatten=intsC (List.replicate n 0):=by simp[intsC]
theorem rep_ones(n:Nat):(List.replicate n [Value.int .i64 0,.int .i64 0]).flatten=cel oneC (List.replicate n (0,0)):=by simp[cel,oneC]
def bitP (o:List (El fsO)) (i:Nat):Ones:=(bitsOf (o.take i)).map (fun b=>((0:Int),b))++List.replicate (o.length-i) (0,0)
def ordP (n i:Nat):List Int:=upTo i++List.replicate (n-i) 0
theorem rep_one{α:Type}{n i:Nat}(a:α)(h:i<n):List.replicate (n-i) a=a::List.replicate (n-(i+1)) a:=by rw[show n-i=(n-(i+1))+1 by omega,List.replicate_succ]
theorem up_len(n:Nat):(upTo n).length=n:=by simp[upTo]
theorem up_succ(n:Nat):upTo (n+1)=upTo n++[(n:Int)]:=by simp[upTo,List.range_succ]
theorem bitP_at{o:List (El fsO)}{i:Nat}(h:i<o.length):(bitP o i)[i]?=some (0,0):=by
 unfold bitP;rw[List.getElem?_append_right (by simp[bitsOf];omega),rep_one _ h]
 have:i-((bitsOf (o.take i)).map (fun b=>((0:Int),b))).length=0:=by simp[bitsOf];omega
 rw[this];rfl
theorem bitP_set{o:List (El fsO)}{i:Nat}{e:El fsO}(h:o[i]?=some e):(bitP o i).set i (0,(bitsU (e.n 0) (e.n 1)).1)=bitP o (i+1):=by
 have hl:=lt_of_some h
 unfold bitP;rw[List.set_append_right _ _ (by simp[bitsOf];omega),rep_one _ hl,show i-((bitsOf (o.take i)).map (fun b=>((0:Int),b))).length=0 by simp[bitsOf];omega,List.set_cons_zero,take_at h];simp[bitsOf]
theorem ordP_len{n i:Nat}(h:i≤n):(ordP n i).length=n:=by simp[ordP,up_len];omega
theorem ordP_set{n i:Nat}(h:i<n):(ordP n i).set i (i:Int)=ordP n (i+1):=by
 unfold ordP;rw[List.set_append_right _ _ (by rw[up_len];omega),up_len,Nat.sub_self,rep_one _ h,List.set_cons_zero,up_succ,Y7];rfl
theorem bitP_all(o:List (El fsO)):bitP o o.length=(List.replicate (bitsOf o).length 0).zip (bitsOf o):=by
 unfold bitP;rw[List.take_length,Nat.sub_self,List.replicate_zero,List.append_nil]
 generalize bitsOf o=b
 induction b with
 | nil=>rfl
 | cons x b ih=>rw[List.map_cons,Y4,List.replicate_succ,List.zip_cons_cons,ih]
theorem ordP_all(n:Nat):ordP n n=upTo n:=by unfold ordP;rw[Nat.sub_self,List.replicate_zero,List.append_nil]
theorem bitsE1_at{o:List (El fsO)}:∀{i:Nat} {e:El fsO},(∀x,x∈o.take i→(bitsU (x.n 0) (x.n 1)).2=0)→o[i]?=some e→(bitsU (e.n 0) (e.n 1)).2≠0→bitsE1 o=(bitsU (e.n 0) (e.n 1)).2:=by
 induction o with
 | nil=>intro i e _ h _;simp at h
 | cons x o ih =>
  intro i e h1 h2 h3;cases i with
  | zero=>simp at h2;subst h2;unfold bitsE1;rw[if_pos h3]
  | succ i =>
   have h0:=h1 x (by simp)
   unfold bitsE1;rw[if_neg (by rw[h0];decide)]
   exact ih (fun y hy=>h1 y (by rw[List.take_succ_cons];exact List.mem_cons_of_mem _ hy)) (by simpa using h2) h3
theorem bitsE1_none{o:List (El fsO)}(h:∀x,x∈o→(bitsU (x.n 0) (x.n 1)).2=0):bitsE1 o=0:=by
 induction o with
 | nil=>rfl
 | cons x o ih =>
  unfold bitsE1;rw[if_neg (by rw[h x (List.mem_cons_self ..)];decide)]
  exact ih (fun y hy=>h y (List.mem_cons_of_mem _ hy))
def layP (b:List Int) (j:Nat):List Int×Int:=((ordOf b).take j).foldl (layS b) (List.replicate b.length 0,0)
theorem layP_next{b:List Int}{j:Nat}{i:Int}(h:(ordOf b)[j]?=some i):layP b (j+1)=layS b (layP b j) i:=by unfold layP;rw[take_at h,List.foldl_append];rfl
theorem layP_all(b:List Int):layP b (ordOf b).length=layF b:=by unfold layP layF;rw[List.take_length]
theorem layP_len(b:List Int)(j:Nat):(layP b j).1.length=b.length:=by unfold layP;rw[lay_len,List.length_replicate]
theorem ord_len(b:List Int):(ordOf b).length=b.length:=by unfold ordOf;rw[srt_len,up_len]
theorem layP_bd{b:List Int}(hb:∀x,x∈b→0≤x∧x≤16)(hn:b.length≤64):∀j,j≤b.length→0≤(layP b j).2∧(layP b j).2≤65536*(j:Int)
  | 0,_=>by unfold layP;simp
  | j+1,h=>by
    have ih:=layP_bd hb hn j (by omega)
    have hj:j<(ordOf b).length:=by rw[ord_len];omega
    rw[layP_next (Y8 hj)];have hm:=ord_mem.1 (List.getElem_mem hj)
    have hk:0≤keyOf b (ordOf b)[j]∧keyOf b (ordOf b)[j]≤16:=by
      unfold keyOf;rw[List.getD_eq_getElem?_getD,Y8 (by omega)];exact hb _ (List.getElem_mem ..)
    have:=pw_le hk.2
    unfold layS;dsimp only;push_cast;omega
theorem zip_set{A B:List Int}{i:Nat}{p:Int×Int}(h:(A.zip B)[i]?=some p)(a:Int):(A.zip B).set i (a,p.2)=(A.set i a).zip B:=by
 obtain ⟨hl,rfl⟩:=List.getElem?_eq_some_iff.1 h;rw[List.length_zip]at hl;apply List.ext_getElem?;intro n;simp only[List.getElem?_set,List.getElem?_zip_eq_some,List.length_zip,List.getElem_zip]
 by_cases e:i=n
 ·
  subst e;rw[if_pos rfl,if_pos (by omega)]
  symm
  rw[List.getElem?_zip_eq_some];exact ⟨by rw[List.getElem?_set_self (by omega)],Y8 (by omega)⟩
 rw[if_neg e];cases hx:(A.zip B)[n]? with
 | none =>
  symm
  rw[List.getElem?_eq_none_iff]at hx ⊢;rw[List.length_zip]at hx ⊢;rw[List.length_set];exact hx
 | some q =>
  symm
  rw[List.getElem?_zip_eq_some]at hx ⊢;exact ⟨by rw[List.getElem?_set_ne e];exact hx.1,hx.2⟩
theorem planM_get{b A:List Int}(hA:A.length=b.length){i:Int}(h:0≤i∧i<b.length):∃p,(A.zip b)[i.toNat]?=some p∧p.2=keyOf b i:=by
 refine ⟨(A[i.toNat]'(by omega),b[i.toNat]'(by omega)),?_,?_⟩
 ·
  rw[List.getElem?_zip_eq_some];exact ⟨Y8 (by omega),Y8 (by omega)⟩
 unfold keyOf;rw[List.getD_eq_getElem?_getD,Y8 (by omega)];rfl
theorem slc_whole{T sz b n:Nat}{cs:List Value}(h:cs.length=n*sz):Slc T sz (.slice (some ⟨b,0,none⟩) n n) n cs [(b,.cells cs.toArray T)]:=⟨h,.inr ⟨b,[],[],n,rfl,Nat.le_refl _,by simp,by simp⟩⟩
theorem tr_sSort0(fc:Nat)[hG:GoFn prog fc](cap:List Value)(Hc:Hp)(key:Int→Int)(Dm:Int→Prop)(hcmp:∀x y,Dm x→Dm y→TrR prog fc (.int .i64 x::.int .i64 y::cap) Hc (.int .i64 (cmpK key x y)))(b cp:Nat)(N:Nat)(hN2:N≤2^30)(L:List Int)(hN:L.length=N)(hL:L.Pairwise (·<·))(hD:∀x,x∈L→Dm x) :
    Tr prog 34 [.slice (some ⟨b,0,none⟩) N cp,.func (.func fc) #[] cap.toArray] ((b,.cells (intsC L).toArray 3)::Hc) (fun u L' => u=.tuple #[]∧L' = (b,.cells (intsC (srt key L)).toArray 3)::Hc):=by
  have h:=tr_sSort fc cap Hc key Dm hcmp b cp [] [] N hN2 L hN hL hD
  simpa using h
theorem up_asc(n:Nat):(upTo n).Pairwise (·<·):=by
 unfold upTo;rw[List.pairwise_map];exact List.pairwise_lt_range.imp (fun h=>by simp only[Int.ofNat_eq_natCast];omega)
theorem tr_planCmp(pb sb n:Nat)(A b:List Int)(hA:A.length=n)(hb:b.length=n)(x y:Int)(hx:0≤x∧x<n)(hy:0≤y∧y<n):TrR prog 35 [.int .i64 x,.int .i64 y,.pointer (some ⟨pb,0,none⟩)] ([(pb,.cells [.slice (some ⟨sb,0,none⟩) n n].toArray 51),(sb,.cells (cel oneC (A.zip b)).toArray 55)]) (.int .i64 (cmpK (keyOf b) x y)):=by
 obtain ⟨p,hp,hpk⟩:=planM_get (A:=A) (b:=b) (by omega) (show 0≤x∧x<b.length by omega);obtain ⟨q,hq,hqk⟩:=planM_get (A:=A) (b:=b) (by omega) (show 0≤y∧y<b.length by omega);have hnp:=one_at1 hp
 have hnq:=one_at1 hq
 rw[hpk]at hnp;rw[hqk]at hnq;refine YR func35 ntmps35 fun W F=>?_
 refine zq [3,4,1,2,5,3] ?_;refine AnyH.start [(pb,.cells [.slice (some ⟨sb,0,none⟩) n n].toArray 51),(sb,.cells (cel oneC (A.zip b)).toArray 55)] 12 rfl ?_;refine zd [0,2,1,1] ?_;refine Yh 2 rfl (pv_indexAddr (i:=y.toNat) rfl rfl (by omega) (by omega)) ?_;refine zd [3,6] ?_;refine Yh 4 rfl (pv_load rfl rfl hnq) ?_;refine zd [5,2,6,1] ?_;refine Yh 7 rfl (pv_indexAddr (i:=x.toNat) rfl rfl (by omega) (by omega)) ?_;refine zd [8,6] ?_;refine Yh 9 rfl (pv_load rfl rfl hnp) ?_;refine YA 10 ?_;refine Yu rfl rfl (ef_callr (tr_compare (keyOf b y) (keyOf b x)) rfl rfl) ?_;refine zd [11,5] ?_;refine YD ?_;refine zq [5,10] ?_;exact zr ⟨rfl,rfl⟩
theorem tr_plan(G:Hp)(D:Dd)(a:Option Addr)(c:Nat)(v2 v3 v4 v5 v6 v7:Value)(hv:View G 3 (.slice a D.o.length c) D.o.length (cel (cE fsO) D.o))(ho:D.o.length≤2^20)(words:Int):Tr prog 14 [.agg #[.slice a D.o.length c,v2,v3,v4,v5,v6,v7],.int .i64 words] (G) (fun u L' => (planE D words≠0∧u=.tuple #[.slice none 0 0,.int .i64 (planE D words)]∧L' = G)∨(planE D words=0∧∃sb,u=.tuple #[.slice (some ⟨sb,0,none⟩) D.o.length D.o.length,.int .i64 0]∧L' = (sb,.cells (cel oneC (planL D)).toArray 55)::G)):=by
 refine YR func14 ntmps14 fun W F=>?_
 refine Wr ?_;refine zB fun b1=>?_
 refine zq [1,1,2,5,3,3,4,6,8] ?_;refine Yp (pv_len_slice (T:=36) rfl rfl) ?_;refine zq [44,0] ?_;refine Yn rfl rfl (fun hg=>pv_move rfl) ?_;refine Yn rfl rfl (fun hg=>Ys 20 rfl hg (pv_lss rfl rfl)) ?_;refine zq [47,0] ?_;refine Yn rfl rfl (fun hg=>pv_move rfl) ?_;refine Yn rfl rfl (fun hg=>Ys 24 rfl hg (pv_gtr rfl rfl)) ?_;refine zq [47,2,5] ?_;refine Yd rfl (fun h1=>?_) (fun h1=>?_)
 ·
  have hpe:planE D words=1:=if_pos (by omega)
  refine zq [3,4,1,1,2,5,10,12] ?_;exact Ends.ret (L' := G) (res2 rfl rfl rfl) (.inl ⟨by rw[hpe];decide,by rw[hpe],rfl⟩)
 have hn1:¬(D.o.length>64∨words<64∨words>65536):=by omega
 have hpe0:planE D words=if bitsE1 D.o≠0 then bitsE1 D.o else if (layF (bitsOf D.o)).2>words then 7 else 0:=if_neg hn1
 refine zq [11,5,3,4,6,8] ?_;refine Yp (pv_len_slice (T:=36) rfl rfl) ?_;refine Ops.ef rfl (ef_makeSliceZ (r:=D.o.length) [.int .i64 0,.int .i64 0] rfl rfl rfl rfl (by decide) (by omega) (by decide) rfl) ?_;rintro _ _ ⟨sl1,rfl,rfl⟩;rw[rep_ones];refine Yq (ef_alloc1 tyZ51 rfl rfl) fun b2=>?_
 refine zq [25,2,5,3,4,8] ?_;refine Yp (pv_len_slice (T:=51) rfl rfl) ?_;refine Ops.ef rfl (ef_makeSliceZ (r:=D.o.length) [.int .i64 0] rfl rfl rfl rfl (by decide) (by omega) (by decide) rfl) ?_;rintro _ _ ⟨or1,rfl,rfl⟩;rw[rep_ints];refine zq [1,2,5,3,3,4,6,8] ?_;refine Yp (pv_len_slice (T:=36) rfl rfl) ?_;refine zq [0,2,5,20] ?_;refine Wp.loopK (σ:=Nat) [(1,_),(6,_),(7,_),(35,_),(36,_)] (fun s=>[(37,.int .i64 s)]) (fun s=>(b2,.cells [.slice (some ⟨sl1,0,none⟩) D.o.length D.o.length].toArray 51)::(sl1,.cells (cel oneC (bitP D.o s)).toArray 55)::(or1,.cells (intsC (ordP D.o.length s)).toArray 3)::(G++F)) (fun s=>s≤D.o.length∧∀x,x∈D.o.take s→(bitsU (x.n 0) (x.n 1)).2=0) (fun s=>D.o.length-s) 0 ⟨Nat.zero_le _,fun x hx=>by simp at hx⟩ ⟨rfl,rfl,rfl,rfl,rfl,trivial⟩ ⟨rfl,trivial⟩ (by intro w ho;(have e0:ordP D.o.length 0=List.replicate D.o.length 0:=by simp[ordP,upTo]);(have e1:bitP D.o 0=List.replicate D.o.length (0,0):=by simp[bitP,bitsOf]);rw[e0,e1];exact Drop.own ho) ?_;rintro i KK ⟨hi,hok⟩ hK;dsimp only[Y1,Y2]at hK ⊢;refine zq [3,4,42,2,5,3] ?_;refine Yd rfl (fun h2=>?_) (fun h2=>?_)
 ·
  have hil:i<D.o.length:=by omega
  obtain ⟨e,he⟩:∃e,D.o[i]?=some e:=⟨_,Y8 hil⟩;obtain ⟨bo,oo,co,cso,To,fo,hvo,hbo,hro⟩:=hv.open (by omega);cases hvo;have hr0:=cel_reads hro he
  obtain ⟨a0,a1,a2,he3⟩:=El.three rfl e;have hrg:=e.rg
  rw[he3]at hrg;rw[show cE fsO e=[.int .i64 a0,.int .i64 a1,.int .i64 a2] by unfold cE;rw[he3];rfl]at hr0;have hsz:I64 a1:=hrg.2.1
  have en0:e.n 0=a0:=by unfold El.n;rw[he3];rfl
  have en1:e.n 1=a1:=by unfold El.n;rw[he3];rfl
  refine zq [11,5,3,20,3,4,0] ?_;refine Yi rfl rfl (i) rfl ?_;refine Yp (pv_loadK _ rfl rfl rfl hr0) ?_;refine zA fun b3=>?_
  refine zq [1,14,2,5,3,4,6,8,6,8] ?_;refine zC (tr_uBits a0 a1 hsz) ?_;refine zq [0,7,7,1,1,2,5,3,3,4,0,27,2,5] ?_;refine Yd rfl (fun h3=>?_) (fun h3=>?_)
  ·
   have hne:(bitsU (e.n 0) (e.n 1)).2≠0:=by rw[en0,en1];assumption
   have hpe:planE D words=(bitsU a0 a1).2:=by rw[hpe0,bitsE1_at hok he hne,if_pos hne,en0,en1]
   refine zq [3,4,0,1,1,2,5,10,12,15,12,12,15,12] ?_;exact Ends.ret (L' := G) (res2 rfl rfl rfl) (.inl ⟨by rw[hpe,←en0,←en1];exact hne,by rw[hpe],rfl⟩)
  have heq:(bitsU (e.n 0) (e.n 1)).2=0:=by rw[en0,en1];omega
  haveI hs1:SetL (cel oneC (bitP D.o i)) (0+i*2+1) [.int .i64 (bitsU a0 a1).1] (cel oneC (bitP D.o (i+1))):=by rw[←bitP_set he,en0,en1];exact one_setB (bitP_at hil) _
  haveI hs2:SetL (intsC (ordP D.o.length i)) (0+i*1) [.int .i64 i] (intsC (ordP D.o.length (i+1))):=by rw[←ordP_set hil];exact ints_put _ (by rw[ordP_len (by omega)];exact hil)
  refine zq [11,5,4,8,0,0,0,0,0] ?_;refine Yi rfl rfl (i) rfl ?_;refine zq [61,25] ?_;refine Yi rfl rfl (i) rfl ?_;refine zq [25,2,19,5,4] ?_;refine Ya rfl rfl (i+1) ?_;refine zq [0,2,49] ?_;refine Yy (hK (i+1) ⟨by omega,fun x hx=>by rw[take_at he,List.mem_append]at hx;exact hx.elim (fun h=>hok x h) (fun h=>by rw[List.mem_singleton]at h;rw[h];exact heq)⟩ (by omega))
 obtain rfl:i=D.o.length:=by omega
 have hall:∀x,x∈D.o→(bitsU (x.n 0) (x.n 1)).2=0:=by rw[List.take_length]at hok;exact hok
 rw[bitP_all,ordP_all];have hbb:∀x,x∈bitsOf D.o→0≤x∧x≤16:=fun x hx=>by obtain ⟨e,he,rfl⟩:=List.mem_map.1 hx;exact bitsU_le (hall e he)
 have hbl:=bitsOf_len D.o
 refine zq [41,16,16,40,5,3,4,0,73] ?_;refine Ops.ef rfl (ef_call (tr_sSort0 35 [.pointer (some ⟨b2,0,none⟩)] [(b2,.cells [.slice (some ⟨sl1,0,none⟩) D.o.length D.o.length].toArray 51),(sl1,.cells (cel oneC ((List.replicate (bitsOf D.o).length 0).zip (bitsOf D.o))).toArray 55)] (keyOf (bitsOf D.o)) (fun x=>0≤x∧x<(D.o.length:Int)) (fun x y hx hy=>tr_planCmp b2 sl1 D.o.length (List.replicate (bitsOf D.o).length 0) (bitsOf D.o) (by rw[List.length_replicate,bitsOf_len]) (bitsOf_len _) x y hx hy) or1 D.o.length D.o.length (by omega) (upTo D.o.length) (up_len _) (up_asc _) (fun x hx=>up_mem.1 hx)) rfl rfl) ?_;rintro _ _ ⟨_,_,⟨rfl,rfl⟩,rfl,rfl⟩;refine Ops.app ?_;refine zq [2,5,3,4,1,2,5,3,3,4,0] ?_;refine Yp (pv_len_slice (T:=128) rfl rfl) ?_;refine zq [0,2,5,20] ?_;refine Wp.loopK (σ:=Nat) [(1,_),(6,_),(66,_),(67,_)] (fun s=>[(12,.int .i64 (layP (bitsOf D.o) s).2),(68,.int .i64 s)]) (fun s=>(b2,.cells [.slice (some ⟨sl1,0,none⟩) D.o.length D.o.length].toArray 51)::(sl1,.cells (cel oneC ((layP (bitsOf D.o) s).1.zip (bitsOf D.o))).toArray 55)::(or1,.cells (intsC (ordOf (bitsOf D.o))).toArray 3)::(G++F)) (fun s=>s≤D.o.length) (fun s=>D.o.length-s) 0 (Nat.zero_le _) ⟨rfl,rfl,rfl,rfl,trivial⟩ ⟨rfl,rfl,trivial⟩ (by intro w ho;(have e0:ordOf (bitsOf D.o)=srt (keyOf (bitsOf D.o)) (upTo D.o.length):=by unfold ordOf;rw[hbl]);(have e1:(layP (bitsOf D.o) 0).1=List.replicate (bitsOf D.o).length 0:=rfl);rw[e0,e1];exact Drop.own ho) ?_;rintro j KK hj hK;dsimp only[Y1,Y2]at hK ⊢;refine zq [3,4,42,2,5,3] ?_;refine Yd rfl (fun h4=>?_) (fun h4=>?_)
 ·
  have hjl:j<D.o.length:=by omega
  obtain ⟨q,hq⟩:∃q,(ordOf (bitsOf D.o))[j]?=some q:=⟨_,Y8 (by rw[ord_len];omega)⟩;have hqm:=ord_mem.1 (List.mem_of_getElem? hq)
  obtain ⟨p,hp,hpk⟩:=planM_get (layP_len (bitsOf D.o) j) hqm;have hbd:=layP_bd hbb (by omega) j (by omega)
  have hkb:0≤keyOf (bitsOf D.o) q∧keyOf (bitsOf D.o) q≤16:=by unfold keyOf;rw[List.getD_eq_getElem?_getD,Y8 (by omega)];exact hbb _ (List.getElem_mem ..)
  have hpw:=pw_le hkb.2
  have hnx:=layP_next hq
  have hz:=zip_set hp (layP (bitsOf D.o) j).2
  have e1:(layP (bitsOf D.o) (j+1)).1=(layP (bitsOf D.o) j).1.set q.toNat (layP (bitsOf D.o) j).2:=by rw[hnx];rfl
  have e2:(layP (bitsOf D.o) (j+1)).2=(layP (bitsOf D.o) j).2+pw (keyOf (bitsOf D.o) q):=by rw[hnx];rfl
  haveI hs1:SetL (cel oneC ((layP (bitsOf D.o) j).1.zip (bitsOf D.o))) (0+q.toNat*2) [.int .i64 (layP (bitsOf D.o) j).2] (cel oneC ((layP (bitsOf D.o) (j+1)).1.zip (bitsOf D.o))):=by rw[e1,←hz];exact one_setA hp _
  have hnb:nth (cel oneC ((layP (bitsOf D.o) (j+1)).1.zip (bitsOf D.o))) (0+q.toNat*2+1)=some (.int .i64 (keyOf (bitsOf D.o) q)):=by obtain ⟨p2,hp2,hpk2⟩:=planM_get (layP_len (bitsOf D.o) (j+1)) hqm;rw[←hpk2];exact one_at1 hp2
  refine zq [11,5,3,20,3,4] ?_;refine Yi rfl rfl (j) rfl ?_;refine Yp (pv_load rfl rfl (ints_at hq)) ?_;refine zq [1,2,5,3,4,8,0,0] ?_;refine Yp (pv_indexAddr (i:=q.toNat) rfl rfl (by omega) (by omega)) ?_;refine zq [61,25,2,5,4,0,8,0] ?_;refine Yp (pv_indexAddr (i:=q.toNat) rfl rfl (by omega) (by omega)) ?_;refine zq [61] ?_;refine Yp (pv_load rfl rfl hnb) ?_;refine Yp (pv_shl rfl rfl (by omega) (sh1i (by omega) (by omega))) ?_;refine zq [52,1,2,19,5,4] ?_;refine Ya rfl rfl (j+1) ?_;refine zq [0,2,49] ?_;rw[←e2];refine Yy (hK (j+1) (by omega) (by omega))
 obtain rfl:j=D.o.length:=by omega
 have hjf:layP (bitsOf D.o) D.o.length=layF (bitsOf D.o):=by have:=layP_all (bitsOf D.o);rw[ord_len,hbl]at this;exact this
 rw[hjf,show (layF (bitsOf D.o)).1.zip (bitsOf D.o)=planL D from rfl];rw[bitsE1_none hall,if_neg (by decide)]at hpe0;refine zq [41,16,16,40,5,3,3,4,0,0,44,2,5] ?_;refine Yd rfl (fun h5=>?_) (fun h5=>?_)
 ·
  have hpe:planE D words=7:=hpe0.trans (if_pos (by assumption))
  refine zq [3,4,1,1,2,5,10,12] ?_;exact Ends.ret (L' := G) (res2 rfl rfl rfl) (.inl ⟨by rw[hpe];decide,by rw[hpe],rfl⟩)
 have hpe:planE D words=0:=hpe0.trans (if_neg (by omega))
 refine zq [11,5,3,4,8,1,1,2,5,10] ?_;exact Ends.ret (L' := [(sl1,.cells (cel oneC (planL D)).toArray 55)]++G) (res2 rfl rfl rfl) (.inr ⟨hpe,_,rfl,rfl⟩)
section
variable (G : Hp) (D : Dd) (a : Option Addr) (c : Nat) (v2 v3 v4 v5 v6 v7 : Value) (hv : View G 3 (.slice a D.o.length c) D.o.length (cel (cE fsO) D.o)) (ho : D.o.length ≤ 2 ^ 20) (words : Int)
include hv ho
theorem tr_planN(h:planE D words≠0):TrR prog 14 [.agg #[.slice a D.o.length c,v2,v3,v4,v5,v6,v7],.int .i64 words] G (.tuple #[.slice none 0 0,.int .i64 (planE D words)]) :=
  (tr_plan G D a c v2 v3 v4 v5 v6 v7 hv ho words).mono (by
    rintro v L' (⟨_,h1,h2⟩ | ⟨h0,_⟩)
    · exact ⟨h1,h2⟩
    · exact absurd h0 h)
theorem tr_planY(h:planE D words=0):Tr prog 14 [.agg #[.slice a D.o.length c,v2,v3,v4,v5,v6,v7],.int .i64 words] G (fun u L' => ∃(sb:Nat) (sp sq:List Value) (cpl:Nat),u=.tuple #[.slice (some ⟨sb,sp.length,none⟩) (planL D).length cpl,.int .i64 0]∧L' = (sb,.cells (sp++cel oneC (planL D)++sq).toArray 55)::G) :=
  (tr_plan G D a c v2 v3 v4 v5 v6 v7 hv ho words).mono (by
    rintro v L' (⟨h0,_,_⟩ | ⟨_,sb,h1,h2⟩)
    · exact absurd h h0
    · exact ⟨sb,[],[],D.o.length,by rw[h1,planL_len];rfl,by rw[h2];simp⟩)
end
end
end Go.Proofs.YtmoeokkelkgnhaaGreat
