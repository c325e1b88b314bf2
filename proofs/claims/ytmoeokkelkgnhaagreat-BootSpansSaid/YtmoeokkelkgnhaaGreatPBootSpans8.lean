/- BootSpans. Laid together by pack.py out of the texts in wip. -/
import Derived.Test.YtmoeokkelkgnhaaGreatPBootSpans7
set_option linter.unusedVariables false
set_option linter.unusedSimpArgs false
set_option linter.unusedSectionVars false
set_option maxHeartbeats 64000000
namespace Go.Proofs.YtmoeokkelkgnhaaGreat
open Go.SL
open Go.Proofs.Tryz
section
def VSl {α:Type} (G:Hp) (k:Nat) (v:Value) (f:α→List Value) (l:List α):Prop:=∃a c,v=.slice a l.length c∧View G k (.slice a l.length c) l.length (cel f l)
structure DV (G:Hp) (D:Dd) (v1 v2 v3 v4 v5 v6 v7:Value):Prop where
  o:VSl G 3 v1 (cE fsO) D.o
  p:VSl G 8 v2 (cE fsP) D.p
  m:VSl G 4 v3 (cE fsM) D.m
  f:VSl G 3 v4 (cE fsF) D.f
  t:VSl G 8 v5 (cE fsT) D.t
  w:VSl G 4 v6 (cE fsW) D.w
  s:VSl G 2 v7 (cE fsS) D.s
theorem Slc.vsl{α:Type}{T k:Nat}{v:Value}{f:α→List Value}{l:List α}{H:Hp}(h:Slc T k v l.length (cel f l) H):VSl H k v f l:=by
 obtain ⟨a,c,rfl⟩:=h.form;exact ⟨a,c,rfl,h.view⟩
theorem VSl.mono{α:Type}{G G' : Hp}{k:Nat}{v:Value}{f:α→List Value}{l:List α}(h:VSl G k v f l)(hg:∀p,p∈G→p∈G'):VSl G' k v f l:=by
 obtain ⟨a,c,e,h⟩:=h;exact ⟨a,c,e,h.mono hg⟩
theorem DS.dv{to tp tm tf tt tw ts:TypeId}{D:Dd}{v1 v2 v3 v4 v5 v6 v7:Value}{H1 H2 H3 H4 H5 H6 H7:Hp}(h:DS to tp tm tf tt tw ts D v1 v2 v3 v4 v5 v6 v7 H1 H2 H3 H4 H5 H6 H7):DV (H1++(H2++(H3++(H4++(H5++(H6++H7)))))) D v1 v2 v3 v4 v5 v6 v7 :=
  ⟨(Slc.vsl h.o).mono (by simp +contextual),(Slc.vsl h.p).mono (by simp +contextual),(Slc.vsl h.m).mono (by simp +contextual),(Slc.vsl h.f).mono (by simp +contextual),(Slc.vsl h.t).mono (by simp +contextual),(Slc.vsl h.w).mono (by simp +contextual),(Slc.vsl h.s).mono (by simp +contextual)⟩
theorem line_eight{q:List LineM}(h:q.length=8):∃a b c d e f g x,q=[a,b,c,d,e,f,g,x]:=by
 match q,h with
 | [a,b,c,d,e,f,g,x],_=>exact ⟨a,b,c,d,e,f,g,x,rfl⟩
section
variable(ch:Nat→Nat){q:List LineM}(h:q.length=8){i:Nat}(hi:i<8)
include ch q h i hi
theorem line_setO(d:Int):SetL (lineC ch q) (i*3+1) [.int .i64 d] (lineC ch (q.modify i fun l=>{ l with owner:=d })):=by
 obtain ⟨a,b,c,d1,e,f,g,x,rfl⟩:=line_eight h
 match i,hi with
 | 0,_=>exact (inferInstance:SetL [.chan (some (ch 0)),.int .i64 a.owner,.bool a.masked,.chan (some (ch 1)),.int .i64 b.owner,.bool b.masked,.chan (some (ch 2)),.int .i64 c.owner,.bool c.masked,.chan (some (ch 3)),.int .i64 d1.owner,.bool d1.masked,.chan (some (ch 4)),.int .i64 e.owner,.bool e.masked,.chan (some (ch 5)),.int .i64 f.owner,.bool f.masked,.chan (some (ch 6)),.int .i64 g.owner,.bool g.masked,.chan (some (ch 7)),.int .i64 x.owner,.bool x.masked] 1 [.int .i64 d] _)
 | 1,_=>exact (inferInstance:SetL [.chan (some (ch 0)),.int .i64 a.owner,.bool a.masked,.chan (some (ch 1)),.int .i64 b.owner,.bool b.masked,.chan (some (ch 2)),.int .i64 c.owner,.bool c.masked,.chan (some (ch 3)),.int .i64 d1.owner,.bool d1.masked,.chan (some (ch 4)),.int .i64 e.owner,.bool e.masked,.chan (some (ch 5)),.int .i64 f.owner,.bool f.masked,.chan (some (ch 6)),.int .i64 g.owner,.bool g.masked,.chan (some (ch 7)),.int .i64 x.owner,.bool x.masked] 4 [.int .i64 d] _)
 | 2,_=>exact (inferInstance:SetL [.chan (some (ch 0)),.int .i64 a.owner,.bool a.masked,.chan (some (ch 1)),.int .i64 b.owner,.bool b.masked,.chan (some (ch 2)),.int .i64 c.owner,.bool c.masked,.chan (some (ch 3)),.int .i64 d1.owner,.bool d1.masked,.chan (some (ch 4)),.int .i64 e.owner,.bool e.masked,.chan (some (ch 5)),.int .i64 f.owner,.bool f.masked,.chan (some (ch 6)),.int .i64 g.owner,.bool g.masked,.chan (some (ch 7)),.int .i64 x.owner,.bool x.masked] 7 [.int .i64 d] _)
 | 3,_=>exact (inferInstance:SetL [.chan (some (ch 0)),.int .i64 a.owner,.bool a.masked,.chan (some (ch 1)),.int .i64 b.owner,.bool b.masked,.chan (some (ch 2)),.int .i64 c.owner,.bool c.masked,.chan (some (ch 3)),.int .i64 d1.owner,.bool d1.masked,.chan (some (ch 4)),.int .i64 e.owner,.bool e.masked,.chan (some (ch 5)),.int .i64 f.owner,.bool f.masked,.chan (some (ch 6)),.int .i64 g.owner,.bool g.masked,.chan (some (ch 7)),.int .i64 x.owner,.bool x.masked] 10 [.int .i64 d] _)
 | 4,_=>exact (inferInstance:SetL [.chan (some (ch 0)),.int .i64 a.owner,.bool a.masked,.chan (some (ch 1)),.int .i64 b.owner,.bool b.masked,.chan (some (ch 2)),.int .i64 c.owner,.bool c.masked,.chan (some (ch 3)),.int .i64 d1.owner,.bool d1.masked,.chan (some (ch 4)),.int .i64 e.owner,.bool e.masked,.chan (some (ch 5)),.int .i64 f.owner,.bool f.masked,.chan (some (ch 6)),.int .i64 g.owner,.bool g.masked,.chan (some (ch 7)),.int .i64 x.owner,.bool x.masked] 13 [.int .i64 d] _)
 | 5,_=>exact (inferInstance:SetL [.chan (some (ch 0)),.int .i64 a.owner,.bool a.masked,.chan (some (ch 1)),.int .i64 b.owner,.bool b.masked,.chan (some (ch 2)),.int .i64 c.owner,.bool c.masked,.chan (some (ch 3)),.int .i64 d1.owner,.bool d1.masked,.chan (some (ch 4)),.int .i64 e.owner,.bool e.masked,.chan (some (ch 5)),.int .i64 f.owner,.bool f.masked,.chan (some (ch 6)),.int .i64 g.owner,.bool g.masked,.chan (some (ch 7)),.int .i64 x.owner,.bool x.masked] 16 [.int .i64 d] _)
 | 6,_=>exact (inferInstance:SetL [.chan (some (ch 0)),.int .i64 a.owner,.bool a.masked,.chan (some (ch 1)),.int .i64 b.owner,.bool b.masked,.chan (some (ch 2)),.int .i64 c.owner,.bool c.masked,.chan (some (ch 3)),.int .i64 d1.owner,.bool d1.masked,.chan (some (ch 4)),.int .i64 e.owner,.bool e.masked,.chan (some (ch 5)),.int .i64 f.owner,.bool f.masked,.chan (some (ch 6)),.int .i64 g.owner,.bool g.masked,.chan (some (ch 7)),.int .i64 x.owner,.bool x.masked] 19 [.int .i64 d] _)
 | 7,_=>exact (inferInstance:SetL [.chan (some (ch 0)),.int .i64 a.owner,.bool a.masked,.chan (some (ch 1)),.int .i64 b.owner,.bool b.masked,.chan (some (ch 2)),.int .i64 c.owner,.bool c.masked,.chan (some (ch 3)),.int .i64 d1.owner,.bool d1.masked,.chan (some (ch 4)),.int .i64 e.owner,.bool e.masked,.chan (some (ch 5)),.int .i64 f.owner,.bool f.masked,.chan (some (ch 6)),.int .i64 g.owner,.bool g.masked,.chan (some (ch 7)),.int .i64 x.owner,.bool x.masked] 22 [.int .i64 d] _)
theorem line_setM(d:Bool):SetL (lineC ch q) (i*3+2) [.bool d] (lineC ch (q.modify i fun l=>{ l with masked:=d })):=by
 obtain ⟨a,b,c,d1,e,f,g,x,rfl⟩:=line_eight h
 match i,hi with
 | 0,_=>exact (inferInstance:SetL [.chan (some (ch 0)),.int .i64 a.owner,.bool a.masked,.chan (some (ch 1)),.int .i64 b.owner,.bool b.masked,.chan (some (ch 2)),.int .i64 c.owner,.bool c.masked,.chan (some (ch 3)),.int .i64 d1.owner,.bool d1.masked,.chan (some (ch 4)),.int .i64 e.owner,.bool e.masked,.chan (some (ch 5)),.int .i64 f.owner,.bool f.masked,.chan (some (ch 6)),.int .i64 g.owner,.bool g.masked,.chan (some (ch 7)),.int .i64 x.owner,.bool x.masked] 2 [.bool d] _)
 | 1,_=>exact (inferInstance:SetL [.chan (some (ch 0)),.int .i64 a.owner,.bool a.masked,.chan (some (ch 1)),.int .i64 b.owner,.bool b.masked,.chan (some (ch 2)),.int .i64 c.owner,.bool c.masked,.chan (some (ch 3)),.int .i64 d1.owner,.bool d1.masked,.chan (some (ch 4)),.int .i64 e.owner,.bool e.masked,.chan (some (ch 5)),.int .i64 f.owner,.bool f.masked,.chan (some (ch 6)),.int .i64 g.owner,.bool g.masked,.chan (some (ch 7)),.int .i64 x.owner,.bool x.masked] 5 [.bool d] _)
 | 2,_=>exact (inferInstance:SetL [.chan (some (ch 0)),.int .i64 a.owner,.bool a.masked,.chan (some (ch 1)),.int .i64 b.owner,.bool b.masked,.chan (some (ch 2)),.int .i64 c.owner,.bool c.masked,.chan (some (ch 3)),.int .i64 d1.owner,.bool d1.masked,.chan (some (ch 4)),.int .i64 e.owner,.bool e.masked,.chan (some (ch 5)),.int .i64 f.owner,.bool f.masked,.chan (some (ch 6)),.int .i64 g.owner,.bool g.masked,.chan (some (ch 7)),.int .i64 x.owner,.bool x.masked] 8 [.bool d] _)
 | 3,_=>exact (inferInstance:SetL [.chan (some (ch 0)),.int .i64 a.owner,.bool a.masked,.chan (some (ch 1)),.int .i64 b.owner,.bool b.masked,.chan (some (ch 2)),.int .i64 c.owner,.bool c.masked,.chan (some (ch 3)),.int .i64 d1.owner,.bool d1.masked,.chan (some (ch 4)),.int .i64 e.owner,.bool e.masked,.chan (some (ch 5)),.int .i64 f.owner,.bool f.masked,.chan (some (ch 6)),.int .i64 g.owner,.bool g.masked,.chan (some (ch 7)),.int .i64 x.owner,.bool x.masked] 11 [.bool d] _)
 | 4,_=>exact (inferInstance:SetL [.chan (some (ch 0)),.int .i64 a.owner,.bool a.masked,.chan (some (ch 1)),.int .i64 b.owner,.bool b.masked,.chan (some (ch 2)),.int .i64 c.owner,.bool c.masked,.chan (some (ch 3)),.int .i64 d1.owner,.bool d1.masked,.chan (some (ch 4)),.int .i64 e.owner,.bool e.masked,.chan (some (ch 5)),.int .i64 f.owner,.bool f.masked,.chan (some (ch 6)),.int .i64 g.owner,.bool g.masked,.chan (some (ch 7)),.int .i64 x.owner,.bool x.masked] 14 [.bool d] _)
 | 5,_=>exact (inferInstance:SetL [.chan (some (ch 0)),.int .i64 a.owner,.bool a.masked,.chan (some (ch 1)),.int .i64 b.owner,.bool b.masked,.chan (some (ch 2)),.int .i64 c.owner,.bool c.masked,.chan (some (ch 3)),.int .i64 d1.owner,.bool d1.masked,.chan (some (ch 4)),.int .i64 e.owner,.bool e.masked,.chan (some (ch 5)),.int .i64 f.owner,.bool f.masked,.chan (some (ch 6)),.int .i64 g.owner,.bool g.masked,.chan (some (ch 7)),.int .i64 x.owner,.bool x.masked] 17 [.bool d] _)
 | 6,_=>exact (inferInstance:SetL [.chan (some (ch 0)),.int .i64 a.owner,.bool a.masked,.chan (some (ch 1)),.int .i64 b.owner,.bool b.masked,.chan (some (ch 2)),.int .i64 c.owner,.bool c.masked,.chan (some (ch 3)),.int .i64 d1.owner,.bool d1.masked,.chan (some (ch 4)),.int .i64 e.owner,.bool e.masked,.chan (some (ch 5)),.int .i64 f.owner,.bool f.masked,.chan (some (ch 6)),.int .i64 g.owner,.bool g.masked,.chan (some (ch 7)),.int .i64 x.owner,.bool x.masked] 20 [.bool d] _)
 | 7,_=>exact (inferInstance:SetL [.chan (some (ch 0)),.int .i64 a.owner,.bool a.masked,.chan (some (ch 1)),.int .i64 b.owner,.bool b.masked,.chan (some (ch 2)),.int .i64 c.owner,.bool c.masked,.chan (some (ch 3)),.int .i64 d1.owner,.bool d1.masked,.chan (some (ch 4)),.int .i64 e.owner,.bool e.masked,.chan (some (ch 5)),.int .i64 f.owner,.bool f.masked,.chan (some (ch 6)),.int .i64 g.owner,.bool g.masked,.chan (some (ch 7)),.int .i64 x.owner,.bool x.masked] 23 [.bool d] _)
theorem line_at:nth (lineC ch q) (i*3+1)=some (.int .i64 ((q[i]?).getD .new).owner):=by
 obtain ⟨a,b,c,d1,e,f,g,x,rfl⟩:=line_eight h
 match i,hi with
 | 0,_ | 1,_ | 2,_ | 3,_ | 4,_ | 5,_ | 6,_ | 7,_=>rfl
end
theorem line_two{q:List LineM}(i:Nat)(d:Int):(q.modify i fun l=>{ l with owner:=d }).modify i (fun l=>{ l with masked:=false })=q.modify i fun l=>{ l with owner:=d,masked:=false }:=by
 rw[List.modify_modify_eq];rfl
theorem chan_same{ch:Nat→Nat}{q:List LineM}{i:Nat}(f:LineM→LineM)(hf:∀l,(f l).pend=l.pend):segs (fun j=>[(ch j,chO (((q.modify i f)[j]?).getD .new).pend)]) q.length=segs (fun j=>[(ch j,chO ((q[j]?).getD .new).pend)]) q.length:=by
 refine segs_congr (fun j hj=>?_);rw[List.getElem?_modify]
 split
 ·
  rw[Y8 hj];simp[hf]
 simp
theorem tr_qLineN(ib:Nat)(n:Int)(hn:n<0∨n≥8):TrR prog 162 [pV ib,.int .i64 n] ([]) (.pointer none):=by
 refine YR func162 ntmps162 fun W F=>?_
 refine zq [3,4,1,2,5,3,3,4,0,42,0] ?_;refine Yn rfl rfl (fun hg=>pv_move rfl) ?_;refine Yn rfl rfl (fun hg=>Ys 8 rfl hg (pv_geq rfl rfl)) ?_;refine zq [47,2,5] ?_;refine Yd rfl (fun h1=>?_) (fun h1=>absurd hn (by assumption));refine zq [3,4,1,2,5,10,12] ?_;exact zr ⟨rfl,rfl⟩
theorem tr_qLineY(ib i:Nat)(hi:i<8):TrR prog 162 [pV ib,.int .i64 i] ([]) (.pointer (some ⟨ib,i*3,none⟩)):=by
 refine YR func162 ntmps162 fun W F=>?_
 refine zq [3,4,1,2,5,3,3,4,0,42,0] ?_;refine Yn rfl rfl (fun hg=>pv_move rfl) ?_;refine Yn rfl rfl (fun hg=>Ys 8 rfl hg (pv_geq rfl rfl)) ?_;refine zq [47,2,5] ?_;refine Yd rfl (fun h1=>by omega) (fun h1=>?_);refine zq [11,5,3,4,0,0,9,6] ?_;refine Yp (pv_indexAddrN (i:=i) (o2:=i*3) rfl rfl (by omega) (by omega) (by omega)) ?_;refine zq [1,2,5,10] ?_;exact zr ⟨rfl,rfl⟩
theorem tr_qOwnN(ib:Nat)(n d:Int)(hn:n<0∨n≥8):TrR prog 100 [pV ib,.int .i64 n,.int .i64 d] ([]) (.int .i64 1):=by
 refine YR func100 ntmps100 fun W F=>?_
 refine zq [3,4,1,2,5,3,4,0,0] ?_;refine zC (tr_qLineN ib n hn) ?_;refine zq [1,2,5,3,20,3,4,0,59,0] ?_;refine Ops.splitb (t:=14) rfl (fun h1=>?_) (fun h1=>?_)
 ·
  refine zq [13,13,24,0,13,13,24,1,2,5,18,3,4,1,2,5,10,15,12] ?_;exact zr ⟨rfl,rfl⟩
 refine zq [21] ?_;refine Yg (pv_lss rfl rfl) ?_;refine zq [26,0] ?_;refine Yn rfl rfl (fun hg=>pv_move rfl) ?_;refine Yn rfl rfl (fun hg=>Ys 19 rfl hg (pv_geq rfl rfl)) ?_;refine zq [47,1,2,5] ?_;refine Yd rfl (fun h2=>?_) (fun h2=>(by exfalso;simp_all));refine zq [3,4,1,2,5,10,15,12] ?_;exact zr ⟨rfl,rfl⟩
theorem tr_qOwnY(ib i:Nat)(hi:i<8)(d:Int)(q:List LineM)(hq:q.length=8)(ch:Nat→Nat):Tr prog 100 [pV ib,.int .i64 i,.int .i64 d] ([(ib,.cells (lineC ch (q)).toArray 322)]) (fun u L' => u=.int .i64 (if d<0∨d≥4 then 1 else if ((q[i]?).getD .new).owner ≠ -1 then 4 else 0)∧L' = [(ib,.cells (lineC ch (if d<0∨d≥4 then q else if ((q[i]?).getD .new).owner ≠ -1 then q else q.modify i fun l=>{ l with owner:=d,masked:=false })).toArray 322)]):=by
 refine YR func100 ntmps100 fun W F=>?_
 refine zq [3,4,1,2,5,3,4,0,0] ?_;refine zC (tr_qLineY ib i hi) ?_;refine zq [1,2,5,3,20,3,4,0,59,0,21] ?_;refine Yg (pv_lss rfl rfl) ?_;refine zq [26,0] ?_;refine Yn rfl rfl (fun hg=>pv_move rfl) ?_;refine Yn rfl rfl (fun hg=>Ys 19 rfl hg (pv_geq rfl rfl)) ?_;refine zq [47,1,2,5] ?_;refine Yd rfl (fun h1=>?_) (fun h1=>?_)
 ·
  have hd1:d<0∨d≥4:=by omega
  refine zq [3,4,1,2,5,10,15,12] ?_;rw[if_pos hd1,if_pos hd1];exact zr (L' := [(ib,.cells (lineC ch (q)).toArray 322)]) ⟨rfl,rfl⟩
 have hd1:¬(d<0∨d≥4):=by omega
 refine zq [3,4,0,9,61] ?_;refine Yp (pv_load rfl rfl (line_at ch hq hi)) ?_;refine zq [27,1,2,5] ?_;refine Yd rfl (fun h2=>?_) (fun h2=>?_)
 ·
  have hd2:((q[i]?).getD .new).owner ≠ -1:=by assumption
  refine zq [3,4,1,2,5,10,15,12] ?_;rw[if_neg hd1,if_neg hd1,if_pos hd2,if_pos hd2];exact zr (L' := [(ib,.cells (lineC ch (q)).toArray 322)]) ⟨rfl,rfl⟩
 have hd2:¬((q[i]?).getD .new).owner ≠ -1:=by assumption
 haveI hs1:=line_setO ch hq hi d
 haveI hs2:SetL (lineC ch (q.modify i fun l=>{ l with owner:=d })) (i*3+2) [.bool false] (lineC ch (q.modify i fun l=>{ l with owner:=d,masked:=false })):=by rw[←line_two];exact line_setM ch (by rw[List.length_modify];exact hq) hi false
 refine zq [11,19,5,3,4,0,0,0,9,61,25,9,61,25,2,5,3,4,1,2,5,10] ?_;rw[if_neg hd1,if_neg hd1,if_neg hd2,if_neg hd2];exact zr (L' := [(ib,.cells (lineC ch (q.modify i fun l=>{ l with owner:=d,masked:=false })).toArray 322)]) ⟨rfl,rfl⟩
def ownE (q:List LineM) (n d:Int):Int:=if n<0∨n≥8∨d<0∨d≥4 then 1 else if ((q[n.toNat]?).getD .new).owner ≠ -1 then 4 else 0
def ownQ (q:List LineM) (n d:Int):List LineM:=if ownE q n d≠0 then q else q.modify n.toNat fun l=>{ l with owner:=d,masked:=false }
theorem ownQ_len(q:List LineM)(n d:Int):(ownQ q n d).length=q.length:=by unfold ownQ;split;rfl;exact List.length_modify ..
theorem tr_qOwn(ib:Nat)(n d:Int)(q:List LineM)(hq:q.length=8)(L:Hp)(hI:IrqH q ib L):Tr prog 100 [pV ib,.int .i64 n,.int .i64 d] L (fun u L' => u=.int .i64 (ownE q n d)∧IrqH (ownQ q n d) ib L'):=by
 obtain ⟨ch,rfl⟩:=hI
 by_cases hn:n<0∨n≥8
 ·
  have e:ownE q n d=1:=if_pos (by omega)
  have e2:ownQ q n d=q:=by unfold ownQ;rw[e];rfl
  rw[e,e2];exact Tr.conv (tr_qOwnN ib n d hn) (G:=(ib,.cells (lineC ch q).toArray 322)::segs (fun i=>[(ch i,chO ((q[i]?.getD .new).pend))]) q.length) (List.Perm.refl _) (by rintro v J' ⟨rfl,rfl⟩;exact ⟨_,⟨rfl,ch,rfl⟩,List.Perm.refl _⟩)
 obtain ⟨i,rfl⟩:∃i:Nat,n=(i:Int):=⟨n.toNat,by omega⟩;have hi:i<8:=by omega
 refine Tr.conv (tr_qOwnY ib i hi d q hq ch) (G:=segs (fun i=>[(ch i,chO ((q[i]?.getD .new).pend))]) q.length) (List.Perm.refl _) ?_;rintro v J' ⟨rfl,rfl⟩;have e:ownE q i d=if d<0∨d≥4 then 1 else if ((q[i]?).getD .new).owner ≠ -1 then 4 else 0:=by
  unfold ownE;rw[Int.toNat_natCast]
  by_cases h1:d<0∨d≥4
  ·
   rw[if_pos h1,if_pos (by omega)]
  ·
   rw[if_neg h1,if_neg (by omega)]
 have e2:ownQ q i d=if d<0∨d≥4 then q else if ((q[i]?).getD .new).owner ≠ -1 then q else q.modify i fun l=>{ l with owner:=d,masked:=false }:=by
  unfold ownQ;rw[e,Int.toNat_natCast]
  by_cases h1:d<0∨d≥4
  ·
   rw[if_pos h1,if_pos h1];rfl
  ·
   rw[if_neg h1,if_neg h1]
   by_cases h2:((q[i]?).getD .new).owner ≠ -1
   ·
    rw[if_pos h2,if_pos h2];rfl
   ·
    rw[if_neg h2,if_neg h2];rfl
 refine ⟨(ib,.cells (lineC ch (ownQ q i d)).toArray 322)::segs (fun j=>[(ch j,chO (((ownQ q i d)[j]?.getD .new).pend))]) (ownQ q i d).length,⟨by rw[e],ch,rfl⟩,?_⟩;have e3:segs (fun j=>[(ch j,chO (((ownQ q i d)[j]?.getD .new).pend))]) (ownQ q i d).length=segs (fun j=>[(ch j,chO ((q[j]?.getD .new).pend))]) q.length:=by
  rw[ownQ_len];unfold ownQ
  split
  ·
   rfl
  ·
   exact chan_same _ (fun _=>rfl)
 rw[e3,e2];exact List.Perm.refl _
theorem wire_set(A:KA)(wi:Nat→WireM){i:Nat}(hi:i<8)(on bg:Int):SetL [.pointer (some ⟨A.mb,0,none⟩),.pointer (some ⟨A.cb,0,none⟩),.map (some A.ob),.pointer (some ⟨A.ib,0,none⟩),.bool (wi 0).on,.int .i64 (wi 0).nt,.int .u64 (wi 0).badge,.bool (wi 1).on,.int .i64 (wi 1).nt,.int .u64 (wi 1).badge,.bool (wi 2).on,.int .i64 (wi 2).nt,.int .u64 (wi 2).badge,.bool (wi 3).on,.int .i64 (wi 3).nt,.int .u64 (wi 3).badge,.bool (wi 4).on,.int .i64 (wi 4).nt,.int .u64 (wi 4).badge,.bool (wi 5).on,.int .i64 (wi 5).nt,.int .u64 (wi 5).badge,.bool (wi 6).on,.int .i64 (wi 6).nt,.int .u64 (wi 6).badge,.bool (wi 7).on,.int .i64 (wi 7).nt,.int .u64 (wi 7).badge,.pointer (some ⟨A.sb,0,none⟩),.pointer (some ⟨A.tb,0,none⟩)] (4+i*3) [.bool true,.int .i64 on,.int .u64 bg] [.pointer (some ⟨A.mb,0,none⟩),.pointer (some ⟨A.cb,0,none⟩),.map (some A.ob),.pointer (some ⟨A.ib,0,none⟩),.bool (fset wi i ⟨true,on,bg⟩ 0).on,.int .i64 (fset wi i ⟨true,on,bg⟩ 0).nt,.int .u64 (fset wi i ⟨true,on,bg⟩ 0).badge,.bool (fset wi i ⟨true,on,bg⟩ 1).on,.int .i64 (fset wi i ⟨true,on,bg⟩ 1).nt,.int .u64 (fset wi i ⟨true,on,bg⟩ 1).badge,.bool (fset wi i ⟨true,on,bg⟩ 2).on,.int .i64 (fset wi i ⟨true,on,bg⟩ 2).nt,.int .u64 (fset wi i ⟨true,on,bg⟩ 2).badge,.bool (fset wi i ⟨true,on,bg⟩ 3).on,.int .i64 (fset wi i ⟨true,on,bg⟩ 3).nt,.int .u64 (fset wi i ⟨true,on,bg⟩ 3).badge,.bool (fset wi i ⟨true,on,bg⟩ 4).on,.int .i64 (fset wi i ⟨true,on,bg⟩ 4).nt,.int .u64 (fset wi i ⟨true,on,bg⟩ 4).badge,.bool (fset wi i ⟨true,on,bg⟩ 5).on,.int .i64 (fset wi i ⟨true,on,bg⟩ 5).nt,.int .u64 (fset wi i ⟨true,on,bg⟩ 5).badge,.bool (fset wi i ⟨true,on,bg⟩ 6).on,.int .i64 (fset wi i ⟨true,on,bg⟩ 6).nt,.int .u64 (fset wi i ⟨true,on,bg⟩ 6).badge,.bool (fset wi i ⟨true,on,bg⟩ 7).on,.int .i64 (fset wi i ⟨true,on,bg⟩ 7).nt,.int .u64 (fset wi i ⟨true,on,bg⟩ 7).badge,.pointer (some ⟨A.sb,0,none⟩),.pointer (some ⟨A.tb,0,none⟩)]:=by
 match i,hi with
 | 0,_=>exact (inferInstance:SetL [.pointer (some ⟨A.mb,0,none⟩),.pointer (some ⟨A.cb,0,none⟩),.map (some A.ob),.pointer (some ⟨A.ib,0,none⟩),.bool (wi 0).on,.int .i64 (wi 0).nt,.int .u64 (wi 0).badge,.bool (wi 1).on,.int .i64 (wi 1).nt,.int .u64 (wi 1).badge,.bool (wi 2).on,.int .i64 (wi 2).nt,.int .u64 (wi 2).badge,.bool (wi 3).on,.int .i64 (wi 3).nt,.int .u64 (wi 3).badge,.bool (wi 4).on,.int .i64 (wi 4).nt,.int .u64 (wi 4).badge,.bool (wi 5).on,.int .i64 (wi 5).nt,.int .u64 (wi 5).badge,.bool (wi 6).on,.int .i64 (wi 6).nt,.int .u64 (wi 6).badge,.bool (wi 7).on,.int .i64 (wi 7).nt,.int .u64 (wi 7).badge,.pointer (some ⟨A.sb,0,none⟩),.pointer (some ⟨A.tb,0,none⟩)] 4 [.bool true,.int .i64 on,.int .u64 bg] _)
 | 1,_=>exact (inferInstance:SetL [.pointer (some ⟨A.mb,0,none⟩),.pointer (some ⟨A.cb,0,none⟩),.map (some A.ob),.pointer (some ⟨A.ib,0,none⟩),.bool (wi 0).on,.int .i64 (wi 0).nt,.int .u64 (wi 0).badge,.bool (wi 1).on,.int .i64 (wi 1).nt,.int .u64 (wi 1).badge,.bool (wi 2).on,.int .i64 (wi 2).nt,.int .u64 (wi 2).badge,.bool (wi 3).on,.int .i64 (wi 3).nt,.int .u64 (wi 3).badge,.bool (wi 4).on,.int .i64 (wi 4).nt,.int .u64 (wi 4).badge,.bool (wi 5).on,.int .i64 (wi 5).nt,.int .u64 (wi 5).badge,.bool (wi 6).on,.int .i64 (wi 6).nt,.int .u64 (wi 6).badge,.bool (wi 7).on,.int .i64 (wi 7).nt,.int .u64 (wi 7).badge,.pointer (some ⟨A.sb,0,none⟩),.pointer (some ⟨A.tb,0,none⟩)] 7 [.bool true,.int .i64 on,.int .u64 bg] _)
 | 2,_=>exact (inferInstance:SetL [.pointer (some ⟨A.mb,0,none⟩),.pointer (some ⟨A.cb,0,none⟩),.map (some A.ob),.pointer (some ⟨A.ib,0,none⟩),.bool (wi 0).on,.int .i64 (wi 0).nt,.int .u64 (wi 0).badge,.bool (wi 1).on,.int .i64 (wi 1).nt,.int .u64 (wi 1).badge,.bool (wi 2).on,.int .i64 (wi 2).nt,.int .u64 (wi 2).badge,.bool (wi 3).on,.int .i64 (wi 3).nt,.int .u64 (wi 3).badge,.bool (wi 4).on,.int .i64 (wi 4).nt,.int .u64 (wi 4).badge,.bool (wi 5).on,.int .i64 (wi 5).nt,.int .u64 (wi 5).badge,.bool (wi 6).on,.int .i64 (wi 6).nt,.int .u64 (wi 6).badge,.bool (wi 7).on,.int .i64 (wi 7).nt,.int .u64 (wi 7).badge,.pointer (some ⟨A.sb,0,none⟩),.pointer (some ⟨A.tb,0,none⟩)] 10 [.bool true,.int .i64 on,.int .u64 bg] _)
 | 3,_=>exact (inferInstance:SetL [.pointer (some ⟨A.mb,0,none⟩),.pointer (some ⟨A.cb,0,none⟩),.map (some A.ob),.pointer (some ⟨A.ib,0,none⟩),.bool (wi 0).on,.int .i64 (wi 0).nt,.int .u64 (wi 0).badge,.bool (wi 1).on,.int .i64 (wi 1).nt,.int .u64 (wi 1).badge,.bool (wi 2).on,.int .i64 (wi 2).nt,.int .u64 (wi 2).badge,.bool (wi 3).on,.int .i64 (wi 3).nt,.int .u64 (wi 3).badge,.bool (wi 4).on,.int .i64 (wi 4).nt,.int .u64 (wi 4).badge,.bool (wi 5).on,.int .i64 (wi 5).nt,.int .u64 (wi 5).badge,.bool (wi 6).on,.int .i64 (wi 6).nt,.int .u64 (wi 6).badge,.bool (wi 7).on,.int .i64 (wi 7).nt,.int .u64 (wi 7).badge,.pointer (some ⟨A.sb,0,none⟩),.pointer (some ⟨A.tb,0,none⟩)] 13 [.bool true,.int .i64 on,.int .u64 bg] _)
 | 4,_=>exact (inferInstance:SetL [.pointer (some ⟨A.mb,0,none⟩),.pointer (some ⟨A.cb,0,none⟩),.map (some A.ob),.pointer (some ⟨A.ib,0,none⟩),.bool (wi 0).on,.int .i64 (wi 0).nt,.int .u64 (wi 0).badge,.bool (wi 1).on,.int .i64 (wi 1).nt,.int .u64 (wi 1).badge,.bool (wi 2).on,.int .i64 (wi 2).nt,.int .u64 (wi 2).badge,.bool (wi 3).on,.int .i64 (wi 3).nt,.int .u64 (wi 3).badge,.bool (wi 4).on,.int .i64 (wi 4).nt,.int .u64 (wi 4).badge,.bool (wi 5).on,.int .i64 (wi 5).nt,.int .u64 (wi 5).badge,.bool (wi 6).on,.int .i64 (wi 6).nt,.int .u64 (wi 6).badge,.bool (wi 7).on,.int .i64 (wi 7).nt,.int .u64 (wi 7).badge,.pointer (some ⟨A.sb,0,none⟩),.pointer (some ⟨A.tb,0,none⟩)] 16 [.bool true,.int .i64 on,.int .u64 bg] _)
 | 5,_=>exact (inferInstance:SetL [.pointer (some ⟨A.mb,0,none⟩),.pointer (some ⟨A.cb,0,none⟩),.map (some A.ob),.pointer (some ⟨A.ib,0,none⟩),.bool (wi 0).on,.int .i64 (wi 0).nt,.int .u64 (wi 0).badge,.bool (wi 1).on,.int .i64 (wi 1).nt,.int .u64 (wi 1).badge,.bool (wi 2).on,.int .i64 (wi 2).nt,.int .u64 (wi 2).badge,.bool (wi 3).on,.int .i64 (wi 3).nt,.int .u64 (wi 3).badge,.bool (wi 4).on,.int .i64 (wi 4).nt,.int .u64 (wi 4).badge,.bool (wi 5).on,.int .i64 (wi 5).nt,.int .u64 (wi 5).badge,.bool (wi 6).on,.int .i64 (wi 6).nt,.int .u64 (wi 6).badge,.bool (wi 7).on,.int .i64 (wi 7).nt,.int .u64 (wi 7).badge,.pointer (some ⟨A.sb,0,none⟩),.pointer (some ⟨A.tb,0,none⟩)] 19 [.bool true,.int .i64 on,.int .u64 bg] _)
 | 6,_=>exact (inferInstance:SetL [.pointer (some ⟨A.mb,0,none⟩),.pointer (some ⟨A.cb,0,none⟩),.map (some A.ob),.pointer (some ⟨A.ib,0,none⟩),.bool (wi 0).on,.int .i64 (wi 0).nt,.int .u64 (wi 0).badge,.bool (wi 1).on,.int .i64 (wi 1).nt,.int .u64 (wi 1).badge,.bool (wi 2).on,.int .i64 (wi 2).nt,.int .u64 (wi 2).badge,.bool (wi 3).on,.int .i64 (wi 3).nt,.int .u64 (wi 3).badge,.bool (wi 4).on,.int .i64 (wi 4).nt,.int .u64 (wi 4).badge,.bool (wi 5).on,.int .i64 (wi 5).nt,.int .u64 (wi 5).badge,.bool (wi 6).on,.int .i64 (wi 6).nt,.int .u64 (wi 6).badge,.bool (wi 7).on,.int .i64 (wi 7).nt,.int .u64 (wi 7).badge,.pointer (some ⟨A.sb,0,none⟩),.pointer (some ⟨A.tb,0,none⟩)] 22 [.bool true,.int .i64 on,.int .u64 bg] _)
 | 7,_=>exact (inferInstance:SetL [.pointer (some ⟨A.mb,0,none⟩),.pointer (some ⟨A.cb,0,none⟩),.map (some A.ob),.pointer (some ⟨A.ib,0,none⟩),.bool (wi 0).on,.int .i64 (wi 0).nt,.int .u64 (wi 0).badge,.bool (wi 1).on,.int .i64 (wi 1).nt,.int .u64 (wi 1).badge,.bool (wi 2).on,.int .i64 (wi 2).nt,.int .u64 (wi 2).badge,.bool (wi 3).on,.int .i64 (wi 3).nt,.int .u64 (wi 3).badge,.bool (wi 4).on,.int .i64 (wi 4).nt,.int .u64 (wi 4).badge,.bool (wi 5).on,.int .i64 (wi 5).nt,.int .u64 (wi 5).badge,.bool (wi 6).on,.int .i64 (wi 6).nt,.int .u64 (wi 6).badge,.bool (wi 7).on,.int .i64 (wi 7).nt,.int .u64 (wi 7).badge,.pointer (some ⟨A.sb,0,none⟩),.pointer (some ⟨A.tb,0,none⟩)] 25 [.bool true,.int .i64 on,.int .u64 bg] _)
theorem wire_no{k:Kn}{l d o g:Int}(h:wireE k l d o g≠0):k.wire l d o g=k:=if_pos h
theorem KH.irqU{k:Kn}{A:KA}{ad:Nat→Ad}{kb:Nat}{L:Hp}(hK:KH k A ad kb L):∃J R,IrqH k.q A.ib J∧L.Perm (J++((kb,kerO A k.wi)::R))∧∀q' wi' J', IrqH q' A.ib J' → ∃L', KH { k with q:=q', wi:=wi' } A ad kb L' ∧ (J' ++ ((kb,kerO A wi')::R)).Perm L' := by
 obtain ⟨Iq,Lc,Ls,Lt,E,hI,hC,hS,hT,hE,rfl⟩:=hK;refine ⟨Iq,(A.ob,mapO _root_.Go.SL.encI (kvM ad k.mp) k.ck)::(A.mb,.cells [.slice (some ⟨A.wb,0,none⟩) k.ws.length k.ws.length].toArray 312)::(A.wb,.cells (wordsC k.ws).toArray 50)::(Lc++(Ls++(Lt++E))),hI,?_,fun q' wi' J' hJ=>⟨_,⟨J', Lc,Ls,Lt,E,hJ,hC,hS,hT,hE,rfl⟩,?_⟩⟩
 ·
  exact (List.perm_append_comm_assoc [(kb,kerO A k.wi),(A.ob,mapO _root_.Go.SL.encI (kvM ad k.mp) k.ck),(A.mb,.cells [.slice (some ⟨A.wb,0,none⟩) k.ws.length k.ws.length].toArray 312),(A.wb,.cells (wordsC k.ws).toArray 50)] Iq (Lc++(Ls++(Lt++E))))
 exact (List.perm_append_comm_assoc [(kb,kerO A wi'),(A.ob,mapO _root_.Go.SL.encI (kvM ad k.mp) k.ck),(A.mb,.cells [.slice (some ⟨A.wb,0,none⟩) k.ws.length k.ws.length].toArray 312),(A.wb,.cells (wordsC k.ws).toArray 50)] J' (Lc++(Ls++(Lt++E)))).symm
theorem tr_kWire(k:Kn)(A:KA)(ad:Nat→Ad)(kb:Nat)(L:Hp)(hK:KH k A ad kb L)(hx:KX k)(l d o g:Int):Tr prog 47 [pV kb,.int .i64 l,.int .i64 d,.int .i64 o,.int .u64 g] (L) (fun u L' => u=.int .i64 (wireE k l d o g)∧KH (k.wire l d o g) A ad kb L'):=by
 have hw:=hx.kw
 have hq8:=hw.q.1
 haveI:=hK.kblk
 refine YR func47 ntmps47 fun W F=>?_
 refine zq [3,4,1,2,5,3,20,3,4,0,0] ?_;refine zC (hK.isK hw o 5) ?_;refine zq [39,1,2,5] ?_;refine Wp.cond_t rfl (fun h1=>?_) (fun h1=>?_)
 ·
  have h12:k.isK o 5=false:=by simp_all
  have he:wireE k l d o g=3:=if_pos h12
  refine zq [3,4,1,2,5,10,15,12] ?_;rw[wire_no (by rw[he];decide),he];exact zr (L' := L) ⟨rfl,hK⟩
 have h12:¬k.isK o 5=false:=by simp_all
 refine zq [3,4,0] ?_;refine Yp (pv_shr rfl rfl (by omega) rfl) ?_;refine zq [27,1,2,5] ?_;refine Yd rfl (fun h2=>?_) (fun h2=>?_)
 ·
  have h17:¬g.fdiv (2^28)=0:=by assumption
  have he:wireE k l d o g=10:=(if_neg h12).trans (if_pos h17)
  refine zq [3,4,1,2,5,10,15,12] ?_;rw[wire_no (by rw[he];decide),he];exact zr (L' := L) ⟨rfl,hK⟩
 have h17:¬¬g.fdiv (2^28)=0:=by assumption
 have he:wireE k l d o g=ownE k.q l d:=(if_neg h12).trans (if_neg h17)
 obtain ⟨J,R,hJ,hpm,hbk⟩:=hK.irqU;refine zq [11,19,5,3,4] ?_;refine Ops.heap (L' := J++((kb,kerO A k.wi)::(R++F))) (fun w ho=>by have h2:=ho.perm (hpm.append_right F);rw[Y7]at h2;exact h2) ?_;refine zq [0,9,6,8,0,0] ?_;refine zD (tr_qOwn A.ib l d k.q hq8 J hJ) ?_;rintro _ I1 ⟨rfl,hI1⟩;refine Ops.app ?_;refine zq [1,2,5,3,3,4,0,22,2,5] ?_;refine Yd rfl (fun h3=>?_) (fun h3=>?_)
 ·
  have h29:ownE k.q l d=0:=by assumption
  have hl8:0≤l∧l<8:=by
   unfold ownE at h29
   split at h29
   ·
    cases h29
   ·
    omega
  haveI hs7:=wire_set A k.wi (i:=l.toNat) (by omega) o g
  refine zq [4,0,0,0,0,23,9,6] ?_;refine Yp (pv_indexAddrA (i:=l.toNat) rfl rfl (by omega) (by omega)) ?_;refine zq [14,2,5,3,4,0,1,2,5,10] ?_;obtain ⟨L2,hL2,hp2⟩:=hbk (ownQ k.q l d) (fset k.wi l.toNat ⟨true,o,g⟩) I1 hI1;have hkw:k.wire l d o g={ k with q:=ownQ k.q l d,wi:=fset k.wi l.toNat ⟨true,o,g⟩ }:=by unfold Kn.wire ownQ;rw[he,h29];rfl
  rw[hkw,he];exact Ends.heap (L' := L2++F) (fun w ho=>by have h2:Own W w ((I1++((kb,kerO A (fset k.wi l.toNat ⟨true,o,g⟩))::R))++F):=(by rw[Y7];exact Drop.own ho);exact h2.perm (hp2.append_right F)) (Ends.ret (L' := L2) (res1 rfl rfl) ⟨rfl,hL2⟩)
 have h29:¬ownE k.q l d=0:=by assumption
 refine zq [11,5,3,4,0,1,2,5,10] ?_;obtain ⟨L2,hL2,hp2⟩:=hbk (ownQ k.q l d) k.wi I1 hI1;have hkw:k.wire l d o g={ k with q:=ownQ k.q l d,wi:=k.wi }:=by unfold Kn.wire ownQ;rw[he,if_pos h29,if_pos h29]
 rw[hkw,he];exact Ends.heap (L' := L2++F) (fun w ho=>by have h2:Own W w ((I1++((kb,kerO A k.wi)::R))++F):=(by rw[Y7];exact Drop.own ho);exact h2.perm (hp2.append_right F)) (Ends.ret (L' := L2) (res1 rfl rfl) ⟨rfl,hL2⟩)
end
section
theorem kindD_at{o:List (El fsO)}{n:Int}{e:El fsO}(h:¬(n<0∨n≥o.length))(he:o[n.toNat]?=some e):kindD o n=e.n 0:=by unfold kindD;rw[if_neg h,he];rfl
theorem tr_dKind(G:Hp)(o:List (El fsO))(v1 v2 v3 v4 v5 v6 v7:Value)(hvo:VSl G 3 v1 (cE fsO) o)(n:Int):TrR prog 91 [.agg #[v1,v2,v3,v4,v5,v6,v7],.int .i64 n] (G) (.int .i64 (kindD o n)):=by
 obtain ⟨a1,c1,rfl,hvw⟩:=hvo;refine YR func91 ntmps91 fun W F=>?_
 refine Wr ?_;refine zB fun b1=>?_
 refine zq [1,2,5,3,3,4,0,42,0] ?_;refine Yn rfl rfl (fun hg=>pv_move rfl) ?_;refine Yn rfl rfl (fun hg=>Ys 8 rfl hg (pv_fieldAddr0 rfl rfl)) ?_;refine Yn rfl rfl (fun hg=>Ys 8 rfl hg (Ys 9 rfl hg (pv_load rfl rfl rfl))) ?_;refine Yn rfl rfl (fun hg=>Ys 8 rfl hg (Ys 9 rfl hg (Ys 10 rfl hg (pv_len_slice (T:=36) rfl rfl)))) ?_;refine Yn rfl rfl (fun hg=>Ys 8 rfl hg (Ys 9 rfl hg (Ys 10 rfl hg (Ys 11 rfl hg (pv_geq rfl rfl))))) ?_;refine zq [47,2,5] ?_;refine Yd rfl (fun h1=>?_) (fun h1=>?_)
 ·
  rw[show kindD o n = -1 from if_pos (by omega)];refine zq [3,4,1,2,5,10,12] ?_;exact zr ⟨rfl,rfl⟩
 have hn0:¬(n<0∨n≥o.length):=by omega
 obtain ⟨e,he⟩:∃e,o[n.toNat]?=some e:=Y9;obtain ⟨bo,oo,co,cso,To,fo,hvo,hbo,hro⟩:=hvw.open (by omega);cases hvo;have hr0:=cel_reads hro he
 obtain ⟨a0,a1,a2,he3⟩:=El.three rfl e;rw[show cE fsO e=[.int .i64 a0,.int .i64 a1,.int .i64 a2] by unfold cE;rw[he3];rfl]at hr0;have en0:e.n 0=a0:=by unfold El.n;rw[he3];rfl
 have en1:e.n 1=a1:=by unfold El.n;rw[he3];rfl
 have en2:e.n 2=a2:=by unfold El.n;rw[he3];rfl
 have hny:nth cso (oo+n.toNat*3)=some (.int .i64 a0):=by rw[nth_eq];exact hr0.at_ 0 _ rfl
 rw[kindD_at hn0 he,en0];refine zq [11,5,3,4,6,8,0] ?_;refine Yp (pv_indexAddr (i:=n.toNat) rfl rfl (by omega) (by omega)) ?_;refine zq [61] ?_;refine Yp (pv_load rfl rfl hny) ?_;refine zq [1,2,5,10] ?_;exact zr ⟨rfl,rfl⟩
section
variable(bb kb:Nat)(v1 v2 v3 v4 v5 v6 v7 lv:Value)
include bb kb v1 v2 v3 v4 v5 v6 v7 lv
theorem tr_bDoN(e:Int)(he:e≠0)(fv:Value):TrR prog 38 [pV bb,fv] ([(bb,.cells [pV kb,v1,v2,v3,v4,v5,v6,v7,lv,.int .i64 e].toArray 138)]) (.tuple #[]):=by
 refine YR func38 ntmps38 fun W F=>?_
 refine zq [3,4,0,9,6,8,22,2,5] ?_;refine Yd rfl (fun h1=>absurd (by assumption) he) (fun h1=>?_);refine Wp.skip ?_;exact zf ⟨rfl,rfl⟩
theorem tr_bDoY(k:Kn)(A:KA)(L X:Hp)(b:BA)(fc:Nat)[hG:GoFn prog fc](cap:List Value)(ht:Tr prog fc cap (X++((bb,.cells [pV kb,v1,v2,v3,v4,v5,v6,v7,lv,.int .i64 0].toArray 138)::L)) (fun u L' => u=.int .i64 ((b).run k).1∧∃ad' L1,KH ((b).run k).2 A ad' kb L1∧L' = X++((bb,.cells [pV kb,v1,v2,v3,v4,v5,v6,v7,lv,.int .i64 0].toArray 138)::L1))):Tr prog 38 [pV bb,.func (.func fc) #[] cap.toArray] (X++((bb,.cells [pV kb,v1,v2,v3,v4,v5,v6,v7,lv,.int .i64 0].toArray 138)::L)) (fun u L' => u=.tuple #[]∧∃ad' L1,KH (b.run k).2 A ad' kb L1∧L' = X++((bb,.cells [pV kb,v1,v2,v3,v4,v5,v6,v7,lv,.int .i64 (b.run k).1].toArray 138)::L1)):=by
 refine YR func38 ntmps38 fun W F=>?_
 refine Wp.app ?_;refine zq [3,4,0,9,6,8,22,2,5] ?_;refine Yd rfl (fun h1=>?_) (fun h1=>absurd rfl (by assumption));refine zq [4,0,0] ?_;refine Ops.ef rfl (ef_callf rfl rfl ht rfl) ?_;rintro _ _ ⟨_,_,⟨rfl,ad1,J1,hk1,rfl⟩,rfl,rfl⟩;refine Ops.app ?_;refine zq [9,6,25,2] ?_;exact zf (L' := X++((bb,.cells [pV kb,v1,v2,v3,v4,v5,v6,v7,lv,.int .i64 (b.run k).1].toArray 138)::J1)) ⟨rfl,_,_,hk1,rfl⟩
theorem tr_bDo(s:Int×Kn)(A:KA)(ad:Nat→Ad)(L X:Hp)(hK:KH s.2 A ad kb L)(b:BA)(fc:Nat)[hG:GoFn prog fc](cap:List Value)(ht:s.1=0→Tr prog fc cap (X++((bb,.cells [pV kb,v1,v2,v3,v4,v5,v6,v7,lv,.int .i64 0].toArray 138)::L)) (fun u L' => u=.int .i64 ((b).run s.2).1∧∃ad' L1,KH ((b).run s.2).2 A ad' kb L1∧L' = X++((bb,.cells [pV kb,v1,v2,v3,v4,v5,v6,v7,lv,.int .i64 0].toArray 138)::L1))):
    Tr prog 38 [pV bb,.func (.func fc) #[] cap.toArray] (X++((bb,.cells [pV kb,v1,v2,v3,v4,v5,v6,v7,lv,.int .i64 s.1].toArray 138)::L)) (fun u L' => u=.tuple #[]∧∃ad' L1,KH (BA.go s b).2 A ad' kb L1∧L' = X++((bb,.cells [pV kb,v1,v2,v3,v4,v5,v6,v7,lv,.int .i64 (BA.go s b).1].toArray 138)::L1)):=by
  obtain ⟨e,k⟩:=s;dsimp only at hK ht ⊢;unfold BA.go;dsimp only
  by_cases he:e=0
  · subst he
    rw[if_pos rfl];exact tr_bDoY bb kb v1 v2 v3 v4 v5 v6 v7 lv k A L X b fc cap (ht rfl)
  · rw[if_neg he]
    refine Tr.mono (TrR.conv (tr_bDoN bb kb v1 v2 v3 v4 v5 v6 v7 lv e he (.func (.func fc) #[] cap.toArray)) (G:=X++L) ?_) ?_
    · exact List.perm_middle
    · rintro v L' ⟨rfl,rfl⟩;exact ⟨rfl,ad,L,hK,rfl⟩
end
theorem tr_bCreate1(pk pi po pl:Nat)(k:Kn)(A:KA)(ad:Nat→Ad)(kb:Nat)(L:Hp)(hK:KH k A ad kb L)(hx:KX k)(bb:Nat)(v1 v2 v3 v4 v5 v6 v7 lv:Value)(i:Nat)(a0 a1 a2:Int)(hsz:I64 a1)(pls:Ones)(sb cpl:Nat)(sp sq:List Value)(q:Int×Int)(hq:pls[i]?=some q):Tr prog 39 [.pointer (some ⟨pk,0,none⟩),.pointer (some ⟨pi,0,none⟩),.pointer (some ⟨po,0,none⟩),.pointer (some ⟨pl,0,none⟩)] ((pk,.cells [pV kb].toArray 56)::(pi,.cells [.int .i64 i].toArray 3)::(po,.cells [.int .i64 a0,.int .i64 a1,.int .i64 a2].toArray 116)::(pl,.cells [.slice (some ⟨sb,sp.length,none⟩) pls.length cpl].toArray 51)::([(sb,.cells (sp++cel oneC pls++sq).toArray 55)]++(((bb,.cells [pV kb,v1,v2,v3,v4,v5,v6,v7,lv,.int .i64 0].toArray 138)::L)))) (fun u L' => u=.int .i64 ((BA.create (i:Int) a0 q a1).run k).1∧∃ad' L1,KH ((BA.create (i:Int) a0 q a1).run k).2 A ad' kb L1∧L' = (pk,.cells [pV kb].toArray 56)::(pi,.cells [.int .i64 i].toArray 3)::(po,.cells [.int .i64 a0,.int .i64 a1,.int .i64 a2].toArray 116)::(pl,.cells [.slice (some ⟨sb,sp.length,none⟩) pls.length cpl].toArray 51)::([(sb,.cells (sp++cel oneC pls++sq).toArray 55)]++(((bb,.cells [pV kb,v1,v2,v3,v4,v5,v6,v7,lv,.int .i64 0].toArray 138)::L1)))):=by
 have hil:=lt_of_some hq
 have hrq:Reads (sp++cel oneC pls++sq) (sp.length+i*2) [.int .i64 q.1,.int .i64 q.2]:=el_reads hq
 refine YR func39 ntmps39 fun W F=>?_
 refine zq [3,4,1,2,5,3] ?_;refine AnyH.start [(pk,.cells [pV kb].toArray 56),(pi,.cells [.int .i64 i].toArray 3),(po,.cells [.int .i64 a0,.int .i64 a1,.int .i64 a2].toArray 116),(pl,.cells [.slice (some ⟨sb,sp.length,none⟩) pls.length cpl].toArray 51),(sb,.cells (sp++cel oneC pls++sq).toArray 55)] 12 rfl ?_;refine zd [0,2,1,2,2,0,3,2,4,2,5,2] ?_;refine Yh 6 rfl (pv_indexAddr (i:=i) rfl rfl rfl (by omega)) ?_;refine Yh 7 rfl (pv_loadK [.int .i64 q.1,.int .i64 q.2] rfl rfl rfl hrq) ?_;refine zd [8,0,9,2] ?_;refine YA 10 ?_;refine Turn.ef rfl rfl (ef_call (tr_kCreate k A ad kb L hK hx i a0 q a1 hsz) rfl rfl) ?_ ?_ <;> rintro _ _ ⟨_,J1,⟨rfl,ad1,hk1⟩,rfl,rfl⟩
 ·infer_instance
 refine AnyH.app ?_;refine zd [11,5] ?_;refine YD ?_;refine zq [5,10] ?_;exact zr (L' := (pk,.cells [pV kb].toArray 56)::(pi,.cells [.int .i64 i].toArray 3)::(po,.cells [.int .i64 a0,.int .i64 a1,.int .i64 a2].toArray 116)::(pl,.cells [.slice (some ⟨sb,sp.length,none⟩) pls.length cpl].toArray 51)::([(sb,.cells (sp++cel oneC pls++sq).toArray 55)]++(((bb,.cells [pV kb,v1,v2,v3,v4,v5,v6,v7,lv,.int .i64 0].toArray 138)::J1)))) ⟨rfl,_,_,hk1,rfl⟩
theorem tr_bPlant1(pk pp:Nat)(k:Kn)(A:KA)(ad:Nat→Ad)(kb:Nat)(L:Hp)(hK:KH k A ad kb L)(hx:KX k)(bb:Nat)(v1 v2 v3 v4 v5 v6 v7 lv:Value)(a0 a1 a2 a3 a4 a5 a6 a7:Int):Tr prog 41 [.pointer (some ⟨pk,0,none⟩),.pointer (some ⟨pp,0,none⟩)] ((pk,.cells [pV kb].toArray 56)::(pp,.cells [.int .i64 a0,.int .i64 a1,.int .i64 a2,.int .i64 a3,.int .i64 a4,.int .u64 a5,.int .u64 a6,.int .i64 a7].toArray 65)::((bb,.cells [pV kb,v1,v2,v3,v4,v5,v6,v7,lv,.int .i64 0].toArray 138)::L)) (fun u L' => u=.int .i64 ((BA.plant (a0,a1) ⟨a2,a3,a4,a5,a6,a7⟩).run k).1∧∃ad' L1,KH ((BA.plant (a0,a1) ⟨a2,a3,a4,a5,a6,a7⟩).run k).2 A ad' kb L1∧L' = (pk,.cells [pV kb].toArray 56)::(pp,.cells [.int .i64 a0,.int .i64 a1,.int .i64 a2,.int .i64 a3,.int .i64 a4,.int .u64 a5,.int .u64 a6,.int .i64 a7].toArray 65)::((bb,.cells [pV kb,v1,v2,v3,v4,v5,v6,v7,lv,.int .i64 0].toArray 138)::L1)):=by
 refine YR func41 ntmps41 fun W F=>?_
 refine zq [3,4,1,2,5,3,4,8,6,30,6,32] ?_;refine zD (tr_kPlant k A ad kb L hK hx.kw (a0,a1) ⟨a2,a3,a4,a5,a6,a7⟩) ?_;rintro _ J1 ⟨rfl,hk1⟩;refine Ops.app ?_;refine zq [1,2,5,10] ?_;exact zr (L' := (pk,.cells [pV kb].toArray 56)::(pp,.cells [.int .i64 a0,.int .i64 a1,.int .i64 a2,.int .i64 a3,.int .i64 a4,.int .u64 a5,.int .u64 a6,.int .i64 a7].toArray 65)::((bb,.cells [pV kb,v1,v2,v3,v4,v5,v6,v7,lv,.int .i64 0].toArray 138)::J1)) ⟨rfl,_,_,hk1,rfl⟩
theorem tr_bWire1(pk pw:Nat)(k:Kn)(A:KA)(ad:Nat→Ad)(kb:Nat)(L:Hp)(hK:KH k A ad kb L)(hx:KX k)(bb:Nat)(v1 v2 v3 v4 v5 v6 v7 lv:Value)(a0 a1 a2 a3:Int):Tr prog 46 [.pointer (some ⟨pk,0,none⟩),.pointer (some ⟨pw,0,none⟩)] ((pk,.cells [pV kb].toArray 56)::(pw,.cells [.int .i64 a0,.int .i64 a1,.int .i64 a2,.int .u64 a3].toArray 122)::((bb,.cells [pV kb,v1,v2,v3,v4,v5,v6,v7,lv,.int .i64 0].toArray 138)::L)) (fun u L' => u=.int .i64 ((BA.wire a0 a1 a2 a3).run k).1∧∃ad' L1,KH ((BA.wire a0 a1 a2 a3).run k).2 A ad' kb L1∧L' = (pk,.cells [pV kb].toArray 56)::(pw,.cells [.int .i64 a0,.int .i64 a1,.int .i64 a2,.int .u64 a3].toArray 122)::((bb,.cells [pV kb,v1,v2,v3,v4,v5,v6,v7,lv,.int .i64 0].toArray 138)::L1)):=by
 refine YR func46 ntmps46 fun W F=>?_
 refine zq [3,4,1,2,5,3,4,8,6,8,6,8,6,8,6,8] ?_;refine zD (tr_kWire k A ad kb L hK hx a0 a1 a2 a3) ?_;rintro _ J1 ⟨rfl,hk1⟩;refine Ops.app ?_;refine zq [1,2,5,10] ?_;exact zr (L' := (pk,.cells [pV kb].toArray 56)::(pw,.cells [.int .i64 a0,.int .i64 a1,.int .i64 a2,.int .u64 a3].toArray 122)::((bb,.cells [pV kb,v1,v2,v3,v4,v5,v6,v7,lv,.int .i64 0].toArray 138)::J1)) ⟨rfl,_,_,hk1,rfl⟩
theorem tr_bStart1(pk pt:Nat)(k:Kn)(A:KA)(ad:Nat→Ad)(kb:Nat)(L:Hp)(hK:KH k A ad kb L)(hx:KX k)(bb:Nat)(v1 v2 v3 v4 v5 v6 v7 lv:Value)(a0 a1 a2 a3 a4 a5 a6 a7:Int):Tr prog 48 [.pointer (some ⟨pk,0,none⟩),.pointer (some ⟨pt,0,none⟩)] ((pk,.cells [pV kb].toArray 56)::(pt,.cells [.int .i64 a0,.int .i64 a1,.int .i64 a2,.int .i64 a3,.int .i64 a4,.int .u64 a5,.int .i64 a6,.int .i64 a7].toArray 67)::((bb,.cells [pV kb,v1,v2,v3,v4,v5,v6,v7,lv,.int .i64 0].toArray 138)::L)) (fun u L' => u=.int .i64 ((BA.start a0).run k).1∧∃ad' L1,KH ((BA.start a0).run k).2 A ad' kb L1∧L' = (pk,.cells [pV kb].toArray 56)::(pt,.cells [.int .i64 a0,.int .i64 a1,.int .i64 a2,.int .i64 a3,.int .i64 a4,.int .u64 a5,.int .i64 a6,.int .i64 a7].toArray 67)::((bb,.cells [pV kb,v1,v2,v3,v4,v5,v6,v7,lv,.int .i64 0].toArray 138)::L1)):=by
 refine YR func48 ntmps48 fun W F=>?_
 refine zq [3,4,1,2,5,3,4,8,6,8] ?_;refine zD (tr_kStart k A ad kb L hK hx.kw a0) ?_;rintro _ J1 ⟨rfl,hk1⟩;refine Ops.app ?_;refine zq [1,2,5,10] ?_;exact zr (L' := (pk,.cells [pV kb].toArray 56)::(pt,.cells [.int .i64 a0,.int .i64 a1,.int .i64 a2,.int .i64 a3,.int .i64 a4,.int .u64 a5,.int .i64 a6,.int .i64 a7].toArray 67)::((bb,.cells [pV kb,v1,v2,v3,v4,v5,v6,v7,lv,.int .i64 0].toArray 138)::J1)) ⟨rfl,_,_,hk1,rfl⟩
section
variable(pt pkd pb pm:Nat)(k:Kn)(A:KA)(ad:Nat→Ad)(kb:Nat)(L:Hp)(hK:KH k A ad kb L)(hx:KX k)(bb:Nat)(v1 v2 v3 v4 v5 v6 v7 lv:Value)(kd:Int)(a0 a1 a2 a3:Int)(ha:I64 a2)
include pt pkd pb pm k A ad kb L hK hx bb v1 v2 v3 v4 v5 v6 v7 lv kd a0 a1 a2 a3 ha
theorem tr_bMapT:Tr prog 92 [.pointer (some ⟨pt,0,none⟩),.pointer (some ⟨pkd,0,none⟩),.pointer (some ⟨pb,0,none⟩),.pointer (some ⟨pm,0,none⟩)] ((pt,.cells [.bool true].toArray 4)::(pkd,.cells [.int .i64 kd].toArray 3)::(pb,.cells [pV bb].toArray 136)::(pm,.cells [.int .i64 a0,.int .i64 a1,.int .i64 a2,.bool (decide (a3=1))].toArray 69)::((bb,.cells [pV kb,v1,v2,v3,v4,v5,v6,v7,lv,.int .i64 0].toArray 138)::L)) (fun u L' => u=.int .i64 ((BA.map a0 a1 a2 (decide (a3=1))).run k).1∧∃ad' L1,KH ((BA.map a0 a1 a2 (decide (a3=1))).run k).2 A ad' kb L1∧L' = (pt,.cells [.bool true].toArray 4)::(pkd,.cells [.int .i64 kd].toArray 3)::(pb,.cells [pV bb].toArray 136)::(pm,.cells [.int .i64 a0,.int .i64 a1,.int .i64 a2,.bool (decide (a3=1))].toArray 69)::((bb,.cells [pV kb,v1,v2,v3,v4,v5,v6,v7,lv,.int .i64 0].toArray 138)::L1)):=by
 refine YR func92 ntmps92 fun W F=>?_
 refine zq [3,4,1,2,5,3,3,4,8,39,0,13,13,26,2,5,17,11,5,3] ?_;refine AnyH.start [(pt,.cells [.bool true].toArray 4),(pkd,.cells [.int .i64 kd].toArray 3),(pb,.cells [pV bb].toArray 136),(pm,.cells [.int .i64 a0,.int .i64 a1,.int .i64 a2,.bool (decide (a3=1))].toArray 69),(bb,.cells [pV kb,v1,v2,v3,v4,v5,v6,v7,lv,.int .i64 0].toArray 138)] 14 rfl ?_;refine zd [0,2,1,3,2,0,3,2,4,0,5,2,6,0,7,2,8,0,9,2,10,0,11,2] ?_;refine YA 12 ?_;refine Turn.ef rfl rfl (ef_call (tr_kMap k A ad kb L hK hx a0 a1 a2 ha (decide (a3=1))) rfl rfl) ?_ ?_ <;> rintro _ _ ⟨_,J1,⟨rfl,hk1⟩,rfl,rfl⟩
 ·infer_instance
 refine AnyH.app ?_;refine zd [13,5] ?_;refine YD ?_;refine zq [5,10] ?_;exact zr (L' := (pt,.cells [.bool true].toArray 4)::(pkd,.cells [.int .i64 kd].toArray 3)::(pb,.cells [pV bb].toArray 136)::(pm,.cells [.int .i64 a0,.int .i64 a1,.int .i64 a2,.bool (decide (a3=1))].toArray 69)::((bb,.cells [pV kb,v1,v2,v3,v4,v5,v6,v7,lv,.int .i64 0].toArray 138)::J1)) ⟨rfl,_,_,hk1,rfl⟩
theorem tr_bMapF:Tr prog 92 [.pointer (some ⟨pt,0,none⟩),.pointer (some ⟨pkd,0,none⟩),.pointer (some ⟨pb,0,none⟩),.pointer (some ⟨pm,0,none⟩)] ((pt,.cells [.bool false].toArray 4)::(pkd,.cells [.int .i64 kd].toArray 3)::(pb,.cells [pV bb].toArray 136)::(pm,.cells [.int .i64 a0,.int .i64 a1,.int .i64 a2,.bool (decide (a3=1))].toArray 69)::((bb,.cells [pV kb,v1,v2,v3,v4,v5,v6,v7,lv,.int .i64 0].toArray 138)::L)) (fun u L' => u=.int .i64 (((if kd≠6 then BA.bad 2 else BA.map a0 a1 a2 (decide (a3=1)))).run k).1∧∃ad' L1,KH (((if kd≠6 then BA.bad 2 else BA.map a0 a1 a2 (decide (a3=1)))).run k).2 A ad' kb L1∧L' = (pt,.cells [.bool false].toArray 4)::(pkd,.cells [.int .i64 kd].toArray 3)::(pb,.cells [pV bb].toArray 136)::(pm,.cells [.int .i64 a0,.int .i64 a1,.int .i64 a2,.bool (decide (a3=1))].toArray 69)::((bb,.cells [pV kb,v1,v2,v3,v4,v5,v6,v7,lv,.int .i64 0].toArray 138)::L1)):=by
 refine YR func92 ntmps92 fun W F=>?_
 refine zq [3,4,1,2,5,3,3,4,8,39,0,51] ?_;refine Yg (pv_neq rfl rfl) ?_;refine zq [24,2,5] ?_;refine Yd rfl (fun h1=>?_) (fun h1=>?_)
 ·
  rw[if_pos (show kd≠6 by assumption)];refine zq [3,4,1,2,5,10,12] ?_;exact zr (L' := (pt,.cells [.bool false].toArray 4)::(pkd,.cells [.int .i64 kd].toArray 3)::(pb,.cells [pV bb].toArray 136)::(pm,.cells [.int .i64 a0,.int .i64 a1,.int .i64 a2,.bool (decide (a3=1))].toArray 69)::((bb,.cells [pV kb,v1,v2,v3,v4,v5,v6,v7,lv,.int .i64 0].toArray 138)::L)) ⟨rfl,_,_,hK,rfl⟩
 rw[if_neg (show ¬kd≠6 by assumption)];refine zq [11,5,3] ?_;refine AnyH.start [(pt,.cells [.bool false].toArray 4),(pkd,.cells [.int .i64 kd].toArray 3),(pb,.cells [pV bb].toArray 136),(pm,.cells [.int .i64 a0,.int .i64 a1,.int .i64 a2,.bool (decide (a3=1))].toArray 69),(bb,.cells [pV kb,v1,v2,v3,v4,v5,v6,v7,lv,.int .i64 0].toArray 138)] 14 rfl ?_;refine zd [0,2,1,3,2,0,3,2,4,0,5,2,6,0,7,2,8,0,9,2,10,0,11,2] ?_;refine YA 12 ?_;refine Turn.ef rfl rfl (ef_call (tr_kMap k A ad kb L hK hx a0 a1 a2 ha (decide (a3=1))) rfl rfl) ?_ ?_ <;> rintro _ _ ⟨_,J1,⟨rfl,hk1⟩,rfl,rfl⟩
 ·infer_instance
 refine AnyH.app ?_;refine zd [13,5] ?_;refine YD ?_;refine zq [5,10] ?_;exact zr (L' := (pt,.cells [.bool false].toArray 4)::(pkd,.cells [.int .i64 kd].toArray 3)::(pb,.cells [pV bb].toArray 136)::(pm,.cells [.int .i64 a0,.int .i64 a1,.int .i64 a2,.bool (decide (a3=1))].toArray 69)::((bb,.cells [pV kb,v1,v2,v3,v4,v5,v6,v7,lv,.int .i64 0].toArray 138)::J1)) ⟨rfl,_,_,hk1,rfl⟩
end
theorem tr_bFill1(pb pf:Nat)(k:Kn)(A:KA)(ad:Nat→Ad)(kb:Nat)(L:Hp)(hK:KH k A ad kb L)(hx:KX k)(bb:Nat)(v1 v2 v3 v4 v5 v6 v7 lv:Value)(G:Hp)(o:List (El fsO))(hvo:VSl G 3 v1 (cE fsO) o)(a0 a1 a2:Int)(pls:Ones)(sb cpl:Nat)(sp sq:List Value)(hpl:pls.length=o.length)(hpb:∀p,p∈pls→0≤p.1∧p.1≤65536):Tr prog 94 [.pointer (some ⟨pb,0,none⟩),.pointer (some ⟨pf,0,none⟩)] ((pb,.cells [pV bb].toArray 136)::(pf,.cells [.int .i64 a0,.int .i64 a1,.int .u64 a2].toArray 119)::(sb,.cells (sp++cel oneC pls++sq).toArray 55)::(G++((bb,.cells [pV kb,v1,v2,v3,v4,v5,v6,v7,(.slice (some ⟨sb,sp.length,none⟩) pls.length cpl),.int .i64 0].toArray 138)::L))) (fun u L' => u=.int .i64 (((if kindD o a0≠6 then BA.bad 2 else if a1<0∨a1≥16 then .bad 1 else .poke ((pls.getD a0.toNat (0,0)).1+a1) a2)).run k).1∧∃ad' L1,KH (((if kindD o a0≠6 then BA.bad 2 else if a1<0∨a1≥16 then .bad 1 else .poke ((pls.getD a0.toNat (0,0)).1+a1) a2)).run k).2 A ad' kb L1∧L' = (pb,.cells [pV bb].toArray 136)::(pf,.cells [.int .i64 a0,.int .i64 a1,.int .u64 a2].toArray 119)::(sb,.cells (sp++cel oneC pls++sq).toArray 55)::(G++((bb,.cells [pV kb,v1,v2,v3,v4,v5,v6,v7,(.slice (some ⟨sb,sp.length,none⟩) pls.length cpl),.int .i64 0].toArray 138)::L1))):=by
 refine YR func94 ntmps94 fun W F=>?_
 refine zq [3,4,1,2,5,3,20,3] ?_;refine AnyH.start [(pb,.cells [pV bb].toArray 136),(pf,.cells [.int .i64 a0,.int .i64 a1,.int .u64 a2].toArray 119),(sb,.cells (sp++cel oneC pls++sq).toArray 55),(bb,.cells [pV kb,v1,v2,v3,v4,v5,v6,v7,(.slice (some ⟨sb,sp.length,none⟩) pls.length cpl),.int .i64 0].toArray 138)] 9 rfl ?_;refine zd [0,2,1,3,2,0] ?_;refine Yh 3 rfl (pv_loadK [_,_,_,_,_,_,_] rfl rfl rfl ⟨rfl,rfl,rfl,rfl,rfl,rfl,rfl,trivial⟩) ?_;refine zd [4,0,5,2] ?_;refine YA 6 ?_;refine Yu rfl rfl (ef_callr (tr_dKind G o v1 v2 v3 v4 v5 v6 v7 hvo a0) rfl rfl) ?_;refine zd [7,8,8,5] ?_;refine YD ?_;refine Ends.seq ?_;refine Yd rfl (fun h1=>?_) (fun h1=>?_)
 ·
  have h3x:kindD o a0≠6:=by assumption
  refine zq [3,4,1,2,5,10,15,12] ?_;rw[if_pos h3x];exact zr (L' := (pb,.cells [pV bb].toArray 136)::(pf,.cells [.int .i64 a0,.int .i64 a1,.int .u64 a2].toArray 119)::(sb,.cells (sp++cel oneC pls++sq).toArray 55)::(G++((bb,.cells [pV kb,v1,v2,v3,v4,v5,v6,v7,(.slice (some ⟨sb,sp.length,none⟩) pls.length cpl),.int .i64 0].toArray 138)::L))) ⟨rfl,_,_,hK,rfl⟩
 have h3x:¬kindD o a0≠6:=by assumption
 refine zq [3,4,6,8,42,0] ?_;refine Yn rfl rfl (fun hg=>pv_fieldAddr0 rfl rfl) ?_;refine Yn rfl rfl (fun hg=>Ys 17 rfl hg (pv_load rfl rfl rfl)) ?_;refine Yn rfl rfl (fun hg=>Ys 17 rfl hg (Ys 18 rfl hg (pv_geq rfl rfl))) ?_;refine zq [47,1,2,5] ?_;refine Yd rfl (fun h2=>?_) (fun h2=>?_)
 ·
  have h12x:a1<0∨a1≥16:=by omega
  refine zq [3,4,1,2,5,10,15,12] ?_;rw[if_neg h3x,if_pos h12x];exact zr (L' := (pb,.cells [pV bb].toArray 136)::(pf,.cells [.int .i64 a0,.int .i64 a1,.int .u64 a2].toArray 119)::(sb,.cells (sp++cel oneC pls++sq).toArray 55)::(G++((bb,.cells [pV kb,v1,v2,v3,v4,v5,v6,v7,(.slice (some ⟨sb,sp.length,none⟩) pls.length cpl),.int .i64 0].toArray 138)::L))) ⟨rfl,_,_,hK,rfl⟩
 have h12x:¬(a1<0∨a1≥16):=by omega
 obtain ⟨hk1,hk2,_⟩:=kindD_ex (Decidable.not_not.1 h3x) (by decide);obtain ⟨q,hq⟩:∃q,pls[a0.toNat]?=some q:=Y9;have hqe:pls.getD a0.toNat (0,0)=q:=by rw[List.getD_eq_getElem?_getD,hq];rfl
 have hqb:=hpb q (List.mem_of_getElem? hq)
 rw[hqe];have hrq:Reads (sp++cel oneC pls++sq) (sp.length+a0.toNat*2) [.int .i64 q.1,.int .i64 q.2]:=el_reads hq
 have hnq:nth (sp++cel oneC pls++sq) (sp.length+a0.toNat*2)=some (.int .i64 q.1):=by rw[nth_eq];exact hrq.at_ 0 _ rfl
 refine zq [11,19,5,3] ?_;refine AnyH.start [(pb,.cells [pV bb].toArray 136),(pf,.cells [.int .i64 a0,.int .i64 a1,.int .u64 a2].toArray 119),(sb,.cells (sp++cel oneC pls++sq).toArray 55),(bb,.cells [pV kb,v1,v2,v3,v4,v5,v6,v7,(.slice (some ⟨sb,sp.length,none⟩) pls.length cpl),.int .i64 0].toArray 138)] 20 rfl ?_;refine zd [0,2,1,3,2,0,3,2,4,2,5,3,6,0,7,2,8,0,9,2] ?_;refine Yh 10 rfl (pv_indexAddr (i:=a0.toNat) rfl rfl (by omega) (by omega)) ?_;refine zd [11,6] ?_;refine Yh 12 rfl (pv_load rfl rfl hnq) ?_;refine zd [13,0,14,2] ?_;refine Yh 15 rfl (pv_add rfl rfl (w64 (by omega) (by omega))) ?_;refine zd [16,0,17,2] ?_;refine YA 18 ?_;refine Turn.ef rfl rfl (ef_call (tr_kPoke k A ad kb L hK hx.kw (q.1+a1) a2) rfl rfl) ?_ ?_ <;> rintro _ _ ⟨_,J1,⟨rfl,hk1⟩,rfl,rfl⟩
 ·infer_instance
 refine AnyH.app ?_;refine zd [19,5] ?_;refine YD ?_;refine zq [5,10] ?_;rw[if_neg h3x,if_neg h12x];exact zr (L' := (pb,.cells [pV bb].toArray 136)::(pf,.cells [.int .i64 a0,.int .i64 a1,.int .u64 a2].toArray 119)::(sb,.cells (sp++cel oneC pls++sq).toArray 55)::(G++((bb,.cells [pV kb,v1,v2,v3,v4,v5,v6,v7,(.slice (some ⟨sb,sp.length,none⟩) pls.length cpl),.int .i64 0].toArray 138)::J1))) ⟨rfl,_,_,hk1,rfl⟩
theorem tr_bThr1(pb pt:Nat)(k:Kn)(A:KA)(ad:Nat→Ad)(kb:Nat)(L:Hp)(hK:KH k A ad kb L)(hx:KX k)(bb:Nat)(v1 v2 v3 v4 v5 v6 v7 lv:Value)(G:Hp)(o:List (El fsO))(hvo:VSl G 3 v1 (cE fsO) o)(a0 a1 a2 a3 a4 a5 a6 a7:Int):Tr prog 96 [.pointer (some ⟨pb,0,none⟩),.pointer (some ⟨pt,0,none⟩)] ((pb,.cells [pV bb].toArray 136)::(pt,.cells [.int .i64 a0,.int .i64 a1,.int .i64 a2,.int .i64 a3,.int .i64 a4,.int .u64 a5,.int .i64 a6,.int .i64 a7].toArray 67)::(G++((bb,.cells [pV kb,v1,v2,v3,v4,v5,v6,v7,lv,.int .i64 0].toArray 138)::L))) (fun u L' => u=.int .i64 (((if kindD o a4≠2 then BA.bad 2 else if checkM (⟨2,a4,0,0,a5,a6⟩:CapM)≠0 then .bad (checkM (⟨2,a4,0,0,a5,a6⟩:CapM)) else .setup a0 a1 a2 a3 (⟨2,a4,0,0,a5,a6⟩:CapM) a7)).run k).1∧∃ad' L1,KH (((if kindD o a4≠2 then BA.bad 2 else if checkM (⟨2,a4,0,0,a5,a6⟩:CapM)≠0 then .bad (checkM (⟨2,a4,0,0,a5,a6⟩:CapM)) else .setup a0 a1 a2 a3 (⟨2,a4,0,0,a5,a6⟩:CapM) a7)).run k).2 A ad' kb L1∧L' = (pb,.cells [pV bb].toArray 136)::(pt,.cells [.int .i64 a0,.int .i64 a1,.int .i64 a2,.int .i64 a3,.int .i64 a4,.int .u64 a5,.int .i64 a6,.int .i64 a7].toArray 67)::(G++((bb,.cells [pV kb,v1,v2,v3,v4,v5,v6,v7,lv,.int .i64 0].toArray 138)::L1))):=by
 refine YR func96 ntmps96 fun W F=>?_
 refine zq [3,4,1,2,5,3,3] ?_;refine AnyH.start [(pb,.cells [pV bb].toArray 136),(pt,.cells [.int .i64 a0,.int .i64 a1,.int .i64 a2,.int .i64 a3,.int .i64 a4,.int .u64 a5,.int .i64 a6,.int .i64 a7].toArray 67),(bb,.cells [pV kb,v1,v2,v3,v4,v5,v6,v7,lv,.int .i64 0].toArray 138)] 8 rfl ?_;refine zd [0,2,1,3,2,0] ?_;refine Yh 3 rfl (pv_loadK [_,_,_,_,_,_,_] rfl rfl rfl ⟨rfl,rfl,rfl,rfl,rfl,rfl,rfl,trivial⟩) ?_;refine zd [4,0,5,2] ?_;refine YA 6 ?_;refine Yu rfl rfl (ef_callr (tr_dKind G o v1 v2 v3 v4 v5 v6 v7 hvo a4) rfl rfl) ?_;refine zd [7,8] ?_;refine YD ?_;refine Ends.seq ?_;refine Yd rfl (fun h1=>?_) (fun h1=>?_)
 ·
  have h12x:kindD o a4≠2:=by assumption
  refine zq [3,4,1,2,5,10,12] ?_;rw[if_pos h12x];exact zr (L' := (pb,.cells [pV bb].toArray 136)::(pt,.cells [.int .i64 a0,.int .i64 a1,.int .i64 a2,.int .i64 a3,.int .i64 a4,.int .u64 a5,.int .i64 a6,.int .i64 a7].toArray 67)::(G++((bb,.cells [pV kb,v1,v2,v3,v4,v5,v6,v7,lv,.int .i64 0].toArray 138)::L))) ⟨rfl,_,_,hK,rfl⟩
 have h12x:¬kindD o a4≠2:=by assumption
 refine zq [11,5,3,4,6,8,6,8,6,8,23] ?_;refine zA fun b1=>?_
 refine zq [14,2,5,3,3,4,32] ?_;refine zC (tr_check (⟨2,a4,0,0,a5,a6⟩:CapM)) ?_;refine zq [1,2,5,3,4,0,27,2,5] ?_;refine Yd rfl (fun h2=>?_) (fun h2=>?_)
 ·
  have h23x:checkM (⟨2,a4,0,0,a5,a6⟩:CapM)≠0:=by assumption
  refine zq [3,4,0,1,2,5,10,12] ?_;rw[if_neg h12x,if_pos h23x];exact zr (L' := (pb,.cells [pV bb].toArray 136)::(pt,.cells [.int .i64 a0,.int .i64 a1,.int .i64 a2,.int .i64 a3,.int .i64 a4,.int .u64 a5,.int .i64 a6,.int .i64 a7].toArray 67)::(G++((bb,.cells [pV kb,v1,v2,v3,v4,v5,v6,v7,lv,.int .i64 0].toArray 138)::L))) ⟨rfl,_,_,hK,rfl⟩
 have h23x:¬checkM (⟨2,a4,0,0,a5,a6⟩:CapM)≠0:=by assumption
 refine zq [11,5,3] ?_;refine AnyH.start [(pb,.cells [pV bb].toArray 136),(pt,.cells [.int .i64 a0,.int .i64 a1,.int .i64 a2,.int .i64 a3,.int .i64 a4,.int .u64 a5,.int .i64 a6,.int .i64 a7].toArray 67),(bb,.cells [pV kb,v1,v2,v3,v4,v5,v6,v7,lv,.int .i64 0].toArray 138),(b1,.cells (⟨2,a4,0,0,a5,a6⟩:CapM).cells.toArray 63)] 18 rfl ?_;refine zd [0,2,1,3,2,0,3,2,4,0,5,2,6,0,7,2,8,0,9,2,10,0,11,2,12,11,13,0,14,2] ?_;refine Yh 15 rfl (pv_build_arr0 rfl) ?_;refine YA 16 ?_;refine Turn.ef rfl rfl (ef_call (tr_kSetupA k A ad kb L hK hx a0 a1 a2 a3 (⟨2,a4,0,0,a5,a6⟩:CapM) a7 .zero) rfl rfl) ?_ ?_ <;> rintro _ _ ⟨_,J1,⟨rfl,hk1⟩,rfl,rfl⟩
 ·infer_instance
 refine AnyH.app ?_;refine zd [17,5] ?_;refine YD ?_;refine zq [5,10] ?_;rw[if_neg h12x,if_neg h23x];exact zr (L' := (pb,.cells [pV bb].toArray 136)::(pt,.cells [.int .i64 a0,.int .i64 a1,.int .i64 a2,.int .i64 a3,.int .i64 a4,.int .u64 a5,.int .i64 a6,.int .i64 a7].toArray 67)::(G++((bb,.cells [pV kb,v1,v2,v3,v4,v5,v6,v7,lv,.int .i64 0].toArray 138)::J1))) ⟨rfl,_,_,hk1,rfl⟩
end
section
theorem bRun_one(s:Int×Kn)(l:List BA)(b:BA):bRun s (l++[b])=BA.go (bRun s l) b:=by rw[bRun_app];rfl
theorem aM_no{o:List (El fsO)}{tb:Bool}{e:El fsM}(h:decide (kindD o (e.n 0)=7)≠tb):aM o tb e=[]:=if_pos h
theorem aM_yes{o:List (El fsO)}{tb:Bool}{e:El fsM}(h:¬decide (kindD o (e.n 0)=7)≠tb):aM o tb e=[if tb=false∧kindD o (e.n 0)≠6 then .bad 2 else .map (e.n 0) (e.n 1) (e.n 2) (decide (e.n 3=1))]:=if_neg h
section
variable(bb kb:Nat)(v1 v2 v3 v4 v5 v6 v7 lv:Value)(G:Hp)(D:Dd)(hm:VSl G 4 v3 (cE fsM) D.m)(hvo:VSl G 3 v1 (cE fsO) D.o)(hml:D.m.length≤2^11)(s:Int×Kn)(A:KA)(ad:Nat→Ad)(L:Hp)(hK:KH s.2 A ad kb L)
include bb kb v1 v2 v3 v4 v5 v6 v7 lv G D hm hvo hml s A ad L hK
theorem tr_bMapsT(hrun:∀i,i≤D.m.length→KX (bRun s ((D.m.take (i)).flatMap (aM D.o true))).2):Tr prog 43 [pV bb,.bool true] ((bb,.cells [pV kb,v1,v2,v3,v4,v5,v6,v7,lv,.int .i64 s.1].toArray 138)::(G++L)) (fun u L' => u=.tuple #[]∧∃ad' L1,KH (bRun s (D.m.flatMap (aM D.o true))).2 A ad' kb L1∧L' = (bb,.cells [pV kb,v1,v2,v3,v4,v5,v6,v7,lv,.int .i64 (bRun s (D.m.flatMap (aM D.o true))).1].toArray 138)::(G++L1)):=by
 obtain ⟨am,cm,rfl,hvw⟩:=hm;refine YR func43 ntmps43 fun W F=>?_
 refine Wr ?_;refine Yq (ef_box1 rfl rfl rfl) fun b1=>?_
 refine Yq (ef_box1 rfl rfl rfl) fun b2=>?_
 refine zq [2,5,3,4,8,9,6,61,8] ?_;refine Yp (pv_len_slice (T:=38) rfl rfl) ?_;refine zq [0,2,5,20] ?_;refine Wp.loopK (σ:=Nat×(Nat→Ad)×Hp) [(2,_),(3,_),(11,_),(12,_)] (fun s1=>[(13,.int .i64 s1.1)]) (fun s1=>(b2,.cells [.bool true].toArray 4)::(b1,.cells [pV bb].toArray 136)::(bb,.cells [pV kb,v1,v2,.slice am D.m.length cm,v4,v5,v6,v7,lv,.int .i64 (bRun s ((D.m.take (s1.1)).flatMap (aM D.o true))).1].toArray 138)::(G++(s1.2.2++F))) (fun s1=>s1.1≤D.m.length∧KH (bRun s ((D.m.take (s1.1)).flatMap (aM D.o true))).2 A s1.2.1 kb s1.2.2) (fun s1=>D.m.length-s1.1) (0,ad,L) ⟨Nat.zero_le _,hK⟩ ⟨rfl,rfl,rfl,rfl,trivial⟩ ⟨rfl,trivial⟩ (by intro w ho;exact ho) ?_;rintro ⟨i,ad,L⟩ KK ⟨hi,hI⟩ hK;dsimp only[Y1,Y2]at hK ⊢;dsimp only at hi hI ⊢;refine zq [3,4,42,2,5,3] ?_;refine Yd rfl (fun h1=>?_) (fun h1=>?_)
 ·
  obtain ⟨e,he⟩:∃e,D.m[i]?=some e:=Y9;obtain ⟨bo,oo,co,cso,To,fo,hvo,hbo,hro⟩:=hvw.open (by omega);cases hvo;have hr0:=cel_reads hro he
  obtain ⟨a0,a1,a2,a3,he3⟩:=El.four rfl e;rw[show cE fsM e=[.int .i64 a0,.int .i64 a1,.int .i64 a2,.bool (decide (a3=1))] by unfold cE;rw[he3];rfl]at hr0;have en0:e.n 0=a0:=by unfold El.n;rw[he3];rfl
  have en1:e.n 1=a1:=by unfold El.n;rw[he3];rfl
  have en2:e.n 2=a2:=by unfold El.n;rw[he3];rfl
  have en3:e.n 3=a3:=by unfold El.n;rw[he3];rfl
  have ha:I64 a2:=by have h:Fld.two.rg (e.n 2):=e.rgn rfl;rw[en2]at h;exact h
  refine zq [11,5,3,20,3,4] ?_;refine Yi rfl rfl (i) rfl ?_;refine Yp (pv_loadK _ rfl rfl rfl hr0) ?_;refine zA fun b3=>?_
  refine zq [14,2,5] ?_;apply Wp.cutB1 [(2,_),(3,_),(5,_),(11,_),(12,_),(13,_)] (fun b4=>[(6,_)]) _ ⟨rfl,rfl,rfl,rfl,rfl,rfl,trivial⟩
  ·
   intro KK hA0;refine AnyH.start [(b1,.cells [pV bb].toArray 136),(bb,.cells [pV kb,v1,v2,.slice (some ⟨bo,oo,none⟩) D.m.length cm,v4,v5,v6,v7,lv,.int .i64 (bRun s ((D.m.take (i)).flatMap (aM D.o true))).1].toArray 138),(b3,.cells [.int .i64 a0,.int .i64 a1,.int .i64 a2,.bool (decide (a3=1))].toArray 69)] 9 rfl ?_;refine zd [0,2,1,3,2,0] ?_;refine Yh 3 rfl (pv_loadK [_,_,_,_,_,_,_] rfl rfl rfl ⟨rfl,rfl,rfl,rfl,rfl,rfl,rfl,trivial⟩) ?_;refine zd [4,0,5,2] ?_;refine YB 6 7 ?_ ?_
   ·
    refine Yu rfl rfl (ef_callr (tr_dKind G D.o v1 v2 (.slice (some ⟨bo,oo,none⟩) D.m.length cm) v4 v5 v6 v7 hvo a0) rfl rfl) ?_;refine YA 7 ?_;refine Yw rfl rfl (ef_alloc1 tyZ3 rfl rfl) fun b4=>?_
    refine z1 8 ?_;refine YD ?_;refine zq [49] ?_;refine Goes.same (hA0 b4) ⟨rfl,rfl,rfl,rfl,rfl,rfl,rfl,trivial⟩
   refine Yw rfl rfl (ef_alloc1 tyZ3 rfl rfl) fun b5=>?_
   refine YA 6 ?_;refine Yu rfl rfl (ef_callr (tr_dKind G D.o v1 v2 (.slice (some ⟨bo,oo,none⟩) D.m.length cm) v4 v5 v6 v7 hvo a0) rfl rfl) ?_;refine z1 8 ?_;refine YD ?_;refine zq [49] ?_;refine Yy (hA0 b5)
  intro b4;dsimp only[Y1,Y2];refine zq [3,3,4,8,22,8,64,2,5] ?_;refine Wp.cond_t rfl (fun h2=>?_) (fun h2=>?_)
  ·
   have hno:aM D.o true e=[]:=aM_no (by rw[en0];simp_all)
   have hst:(bRun s ((D.m.take (i+1)).flatMap (aM D.o true)))=(bRun s ((D.m.take (i)).flatMap (aM D.o true))):=by rw[take_at he,List.flatMap_append,bRun_app];simp only[List.flatMap_cons,List.flatMap_nil,hno];rfl
   refine zq [41,16,40,5,4] ?_;refine Ya rfl rfl (i+1) ?_;refine zq [0,2,49] ?_;rw[←hst];refine Yy (hK (i+1,ad,L) ⟨by dsimp only;omega,by dsimp only;rw[hst];exact hI⟩ (by dsimp only;omega))
  have hyes:aM D.o true e=[(BA.map a0 a1 a2 (decide (a3=1)))]:=by rw[aM_yes (by rw[en0];simp_all),en0,en1,en2,en3];simp
  have hst:(bRun s ((D.m.take (i+1)).flatMap (aM D.o true)))=BA.go (bRun s ((D.m.take (i)).flatMap (aM D.o true))) (BA.map a0 a1 a2 (decide (a3=1))):=by rw[take_at he,List.flatMap_append,bRun_app];simp only[List.flatMap_cons,List.flatMap_nil,hyes];rfl
  refine zq [11,5,4,8,73] ?_;refine Ops.ef rfl (ef_call (tr_bDo bb kb v1 v2 (.slice (some ⟨bo,oo,none⟩) D.m.length cm) v4 v5 v6 v7 lv (bRun s ((D.m.take (i)).flatMap (aM D.o true))) A ad L [(b2,.cells ([.bool true]:List Value).toArray 4),(b4,.cells ([.int .i64 (kindD D.o a0)]:List Value).toArray 3),(b1,.cells ([pV bb]:List Value).toArray 136),(b3,.cells ([.int .i64 a0,.int .i64 a1,.int .i64 a2,.bool (decide (a3=1))]:List Value).toArray 69)] hI (BA.map a0 a1 a2 (decide (a3=1))) 92 [.pointer (some ⟨b2,0,none⟩),.pointer (some ⟨b4,0,none⟩),.pointer (some ⟨b1,0,none⟩),.pointer (some ⟨b3,0,none⟩)] (fun _=>tr_bMapT b2 b4 b1 b3 (bRun s ((D.m.take (i)).flatMap (aM D.o true))).2 A ad kb L hI (hrun i (by omega)) bb v1 v2 (.slice (some ⟨bo,oo,none⟩) D.m.length cm) v4 v5 v6 v7 lv (kindD D.o a0) a0 a1 a2 a3 ha)) rfl rfl) ?_;rintro _ _ ⟨_,_,⟨rfl,ad1,J1,hk1,rfl⟩,rfl,rfl⟩;refine Ops.app ?_;simp only[Y1,Y2];refine zq [2,19,5,4] ?_;refine Ya rfl rfl (i+1) ?_;refine zq [0,2,49] ?_;rw[←hst];refine Yy (hK (i+1,ad1,J1) ⟨by dsimp only;omega,by dsimp only;rw[hst];exact hk1⟩ (by dsimp only;omega))
 obtain rfl:i=D.m.length:=by omega
 rw[List.take_length]at hI;refine zq [41,16,16,40] ?_;rw[List.take_length];exact zf (L' := (bb,.cells [pV kb,v1,v2,.slice am D.m.length cm,v4,v5,v6,v7,lv,.int .i64 (bRun s (D.m.flatMap (aM D.o true))).1].toArray 138)::(G++L)) ⟨rfl,_,_,hI,rfl⟩
theorem tr_bMapsF(hrun:∀i,i≤D.m.length→KX (bRun s ((D.m.take (i)).flatMap (aM D.o false))).2):Tr prog 43 [pV bb,.bool false] ((bb,.cells [pV kb,v1,v2,v3,v4,v5,v6,v7,lv,.int .i64 s.1].toArray 138)::(G++L)) (fun u L' => u=.tuple #[]∧∃ad' L1,KH (bRun s (D.m.flatMap (aM D.o false))).2 A ad' kb L1∧L' = (bb,.cells [pV kb,v1,v2,v3,v4,v5,v6,v7,lv,.int .i64 (bRun s (D.m.flatMap (aM D.o false))).1].toArray 138)::(G++L1)):=by
 obtain ⟨am,cm,rfl,hvw⟩:=hm;refine YR func43 ntmps43 fun W F=>?_
 refine Wr ?_;refine Yq (ef_box1 rfl rfl rfl) fun b1=>?_
 refine Yq (ef_box1 rfl rfl rfl) fun b2=>?_
 refine zq [2,5,3,4,8,9,6,61,8] ?_;refine Yp (pv_len_slice (T:=38) rfl rfl) ?_;refine zq [0,2,5,20] ?_;refine Wp.loopK (σ:=Nat×(Nat→Ad)×Hp) [(2,_),(3,_),(11,_),(12,_)] (fun s1=>[(13,.int .i64 s1.1)]) (fun s1=>(b2,.cells [.bool false].toArray 4)::(b1,.cells [pV bb].toArray 136)::(bb,.cells [pV kb,v1,v2,.slice am D.m.length cm,v4,v5,v6,v7,lv,.int .i64 (bRun s ((D.m.take (s1.1)).flatMap (aM D.o false))).1].toArray 138)::(G++(s1.2.2++F))) (fun s1=>s1.1≤D.m.length∧KH (bRun s ((D.m.take (s1.1)).flatMap (aM D.o false))).2 A s1.2.1 kb s1.2.2) (fun s1=>D.m.length-s1.1) (0,ad,L) ⟨Nat.zero_le _,hK⟩ ⟨rfl,rfl,rfl,rfl,trivial⟩ ⟨rfl,trivial⟩ (by intro w ho;exact ho) ?_;rintro ⟨i,ad,L⟩ KK ⟨hi,hI⟩ hK;dsimp only[Y1,Y2]at hK ⊢;dsimp only at hi hI ⊢;refine zq [3,4,42,2,5,3] ?_;refine Yd rfl (fun h1=>?_) (fun h1=>?_)
 ·
  obtain ⟨e,he⟩:∃e,D.m[i]?=some e:=Y9;obtain ⟨bo,oo,co,cso,To,fo,hvo,hbo,hro⟩:=hvw.open (by omega);cases hvo;have hr0:=cel_reads hro he
  obtain ⟨a0,a1,a2,a3,he3⟩:=El.four rfl e;rw[show cE fsM e=[.int .i64 a0,.int .i64 a1,.int .i64 a2,.bool (decide (a3=1))] by unfold cE;rw[he3];rfl]at hr0;have en0:e.n 0=a0:=by unfold El.n;rw[he3];rfl
  have en1:e.n 1=a1:=by unfold El.n;rw[he3];rfl
  have en2:e.n 2=a2:=by unfold El.n;rw[he3];rfl
  have en3:e.n 3=a3:=by unfold El.n;rw[he3];rfl
  have ha:I64 a2:=by have h:Fld.two.rg (e.n 2):=e.rgn rfl;rw[en2]at h;exact h
  refine zq [11,5,3,20,3,4] ?_;refine Yi rfl rfl (i) rfl ?_;refine Yp (pv_loadK _ rfl rfl rfl hr0) ?_;refine zA fun b3=>?_
  refine zq [14,2,5] ?_;apply Wp.cutB1 [(2,_),(3,_),(5,_),(11,_),(12,_),(13,_)] (fun b4=>[(6,_)]) _ ⟨rfl,rfl,rfl,rfl,rfl,rfl,trivial⟩
  ·
   intro KK hA0;refine AnyH.start [(b1,.cells [pV bb].toArray 136),(bb,.cells [pV kb,v1,v2,.slice (some ⟨bo,oo,none⟩) D.m.length cm,v4,v5,v6,v7,lv,.int .i64 (bRun s ((D.m.take (i)).flatMap (aM D.o false))).1].toArray 138),(b3,.cells [.int .i64 a0,.int .i64 a1,.int .i64 a2,.bool (decide (a3=1))].toArray 69)] 9 rfl ?_;refine zd [0,2,1,3,2,0] ?_;refine Yh 3 rfl (pv_loadK [_,_,_,_,_,_,_] rfl rfl rfl ⟨rfl,rfl,rfl,rfl,rfl,rfl,rfl,trivial⟩) ?_;refine zd [4,0,5,2] ?_;refine YB 6 7 ?_ ?_
   ·
    refine Yu rfl rfl (ef_callr (tr_dKind G D.o v1 v2 (.slice (some ⟨bo,oo,none⟩) D.m.length cm) v4 v5 v6 v7 hvo a0) rfl rfl) ?_;refine YA 7 ?_;refine Yw rfl rfl (ef_alloc1 tyZ3 rfl rfl) fun b4=>?_
    refine z1 8 ?_;refine YD ?_;refine zq [49] ?_;refine Goes.same (hA0 b4) ⟨rfl,rfl,rfl,rfl,rfl,rfl,rfl,trivial⟩
   refine Yw rfl rfl (ef_alloc1 tyZ3 rfl rfl) fun b5=>?_
   refine YA 6 ?_;refine Yu rfl rfl (ef_callr (tr_dKind G D.o v1 v2 (.slice (some ⟨bo,oo,none⟩) D.m.length cm) v4 v5 v6 v7 hvo a0) rfl rfl) ?_;refine z1 8 ?_;refine YD ?_;refine zq [49] ?_;refine Yy (hA0 b5)
  intro b4;dsimp only[Y1,Y2];refine zq [3,3,4,8,22,8,64,2,5] ?_;refine Wp.cond_t rfl (fun h2=>?_) (fun h2=>?_)
  ·
   have hno:aM D.o false e=[]:=aM_no (by rw[en0];simp_all)
   have hst:(bRun s ((D.m.take (i+1)).flatMap (aM D.o false)))=(bRun s ((D.m.take (i)).flatMap (aM D.o false))):=by rw[take_at he,List.flatMap_append,bRun_app];simp only[List.flatMap_cons,List.flatMap_nil,hno];rfl
   refine zq [41,16,40,5,4] ?_;refine Ya rfl rfl (i+1) ?_;refine zq [0,2,49] ?_;rw[←hst];refine Yy (hK (i+1,ad,L) ⟨by dsimp only;omega,by dsimp only;rw[hst];exact hI⟩ (by dsimp only;omega))
  have hyes:aM D.o false e=[(if kindD D.o a0≠6 then BA.bad 2 else BA.map a0 a1 a2 (decide (a3=1)))]:=by rw[aM_yes (by rw[en0];simp_all),en0,en1,en2,en3];simp
  have hst:(bRun s ((D.m.take (i+1)).flatMap (aM D.o false)))=BA.go (bRun s ((D.m.take (i)).flatMap (aM D.o false))) (if kindD D.o a0≠6 then BA.bad 2 else BA.map a0 a1 a2 (decide (a3=1))):=by rw[take_at he,List.flatMap_append,bRun_app];simp only[List.flatMap_cons,List.flatMap_nil,hyes];rfl
  refine zq [11,5,4,8,73] ?_;refine Ops.ef rfl (ef_call (tr_bDo bb kb v1 v2 (.slice (some ⟨bo,oo,none⟩) D.m.length cm) v4 v5 v6 v7 lv (bRun s ((D.m.take (i)).flatMap (aM D.o false))) A ad L [(b2,.cells ([.bool false]:List Value).toArray 4),(b4,.cells ([.int .i64 (kindD D.o a0)]:List Value).toArray 3),(b1,.cells ([pV bb]:List Value).toArray 136),(b3,.cells ([.int .i64 a0,.int .i64 a1,.int .i64 a2,.bool (decide (a3=1))]:List Value).toArray 69)] hI (if kindD D.o a0≠6 then BA.bad 2 else BA.map a0 a1 a2 (decide (a3=1))) 92 [.pointer (some ⟨b2,0,none⟩),.pointer (some ⟨b4,0,none⟩),.pointer (some ⟨b1,0,none⟩),.pointer (some ⟨b3,0,none⟩)] (fun _=>tr_bMapF b2 b4 b1 b3 (bRun s ((D.m.take (i)).flatMap (aM D.o false))).2 A ad kb L hI (hrun i (by omega)) bb v1 v2 (.slice (some ⟨bo,oo,none⟩) D.m.length cm) v4 v5 v6 v7 lv (kindD D.o a0) a0 a1 a2 a3 ha)) rfl rfl) ?_;rintro _ _ ⟨_,_,⟨rfl,ad1,J1,hk1,rfl⟩,rfl,rfl⟩;refine Ops.app ?_;simp only[Y1,Y2];refine zq [2,19,5,4] ?_;refine Ya rfl rfl (i+1) ?_;refine zq [0,2,49] ?_;rw[←hst];refine Yy (hK (i+1,ad1,J1) ⟨by dsimp only;omega,by dsimp only;rw[hst];exact hk1⟩ (by dsimp only;omega))
 obtain rfl:i=D.m.length:=by omega
 rw[List.take_length]at hI;refine zq [41,16,16,40] ?_;rw[List.take_length];exact zf (L' := (bb,.cells [pV kb,v1,v2,.slice am D.m.length cm,v4,v5,v6,v7,lv,.int .i64 (bRun s (D.m.flatMap (aM D.o false))).1].toArray 138)::(G++L)) ⟨rfl,_,_,hI,rfl⟩
end
theorem tr_bFills(bb kb:Nat)(v1 v2 v3 v4 v5 v6 v7 lv:Value)(G:Hp)(D:Dd)(hm:VSl G 3 v4 (cE fsF) D.f)(hvo:VSl G 3 v1 (cE fsO) D.o)(hml:D.f.length≤2^11)(pls:Ones)(sb cpl:Nat)(sp sq:List Value)(hpl:pls.length=D.o.length)(hpb:∀p,p∈pls→0≤p.1∧p.1≤65536)(s:Int×Kn)(A:KA)(ad:Nat→Ad)(L:Hp)(hK:KH s.2 A ad kb L)(hrun:∀i,i≤D.f.length→KX (bRun s ((D.f.take (i)).map (aF D.o pls))).2):Tr prog 44 [pV bb] ((sb,.cells (sp++cel oneC pls++sq).toArray 55)::(bb,.cells [pV kb,v1,v2,v3,v4,v5,v6,v7,.slice (some ⟨sb,sp.length,none⟩) pls.length cpl,.int .i64 s.1].toArray 138)::(G++L)) (fun u L' => u=.tuple #[]∧∃ad' L1,KH (bRun s (D.f.map (aF D.o pls))).2 A ad' kb L1∧L' = (sb,.cells (sp++cel oneC pls++sq).toArray 55)::(bb,.cells [pV kb,v1,v2,v3,v4,v5,v6,v7,.slice (some ⟨sb,sp.length,none⟩) pls.length cpl,.int .i64 (bRun s (D.f.map (aF D.o pls))).1].toArray 138)::(G++L1)):=by
 obtain ⟨am,cm,rfl,hvw⟩:=hm;refine YR func44 ntmps44 fun W F=>?_
 refine Wr ?_;refine Yq (ef_box1 rfl rfl rfl) fun b1=>?_
 refine zq [2,5,3,4,8,9,6,61,8] ?_;refine Yp (pv_len_slice (T:=39) rfl rfl) ?_;refine zq [0,2,5,20] ?_;refine Wp.loopK (σ:=Nat×(Nat→Ad)×Hp) [(1,_),(8,_),(9,_)] (fun s1=>[(10,.int .i64 s1.1)]) (fun s1=>(b1,.cells [pV bb].toArray 136)::(sb,.cells (sp++cel oneC pls++sq).toArray 55)::(bb,.cells [pV kb,v1,v2,v3,.slice am D.f.length cm,v5,v6,v7,.slice (some ⟨sb,sp.length,none⟩) pls.length cpl,.int .i64 (bRun s ((D.f.take (s1.1)).map (aF D.o pls))).1].toArray 138)::(G++(s1.2.2++F))) (fun s1=>s1.1≤D.f.length∧KH (bRun s ((D.f.take (s1.1)).map (aF D.o pls))).2 A s1.2.1 kb s1.2.2) (fun s1=>D.f.length-s1.1) (0,ad,L) ⟨Nat.zero_le _,hK⟩ ⟨rfl,rfl,rfl,trivial⟩ ⟨rfl,trivial⟩ (by intro w ho;exact ho) ?_;rintro ⟨i,ad,L⟩ KK ⟨hi,hI⟩ hK;dsimp only[Y1,Y2]at hK ⊢;dsimp only at hi hI ⊢;refine zq [3,4,42,2,5,3] ?_;refine Yd rfl (fun h1=>?_) (fun h1=>?_)
 ·
  obtain ⟨e,he⟩:∃e,D.f[i]?=some e:=Y9;obtain ⟨bo,oo,co,cso,To,fo,hvo,hbo,hro⟩:=hvw.open (by omega);cases hvo;have hr0:=cel_reads hro he
  obtain ⟨a0,a1,a2,he3⟩:=El.three rfl e;rw[show cE fsF e=[.int .i64 a0,.int .i64 a1,.int .u64 a2] by unfold cE;rw[he3];rfl]at hr0;have en0:e.n 0=a0:=by unfold El.n;rw[he3];rfl
  have en1:e.n 1=a1:=by unfold El.n;rw[he3];rfl
  have en2:e.n 2=a2:=by unfold El.n;rw[he3];rfl
  have hst:(bRun s ((D.f.take (i+1)).map (aF D.o pls)))=BA.go (bRun s ((D.f.take (i)).map (aF D.o pls))) (if kindD D.o a0≠6 then BA.bad 2 else if a1<0∨a1≥16 then .bad 1 else .poke ((pls.getD a0.toNat (0,0)).1+a1) a2):=by rw[take_at he,List.map_append,List.map_cons,List.map_nil,bRun_one];unfold aF;rw[en0,en1,en2]
  refine zq [11,5,3,20,3,4] ?_;refine Yi rfl rfl (i) rfl ?_;refine Yp (pv_loadK _ rfl rfl rfl hr0) ?_;refine zA fun b2=>?_
  refine zq [14,2,5,4,8,73] ?_;refine Ops.ef rfl (ef_call (tr_bDo bb kb v1 v2 v3 (.slice (some ⟨bo,oo,none⟩) D.f.length cm) v5 v6 v7 (.slice (some ⟨sb,sp.length,none⟩) pls.length cpl) (bRun s ((D.f.take (i)).map (aF D.o pls))) A ad L ((b1,.cells ([pV bb]:List Value).toArray 136)::(b2,.cells ([.int .i64 a0,.int .i64 a1,.int .u64 a2]:List Value).toArray 119)::(sb,.cells (sp++cel oneC pls++sq).toArray 55)::G) hI (if kindD D.o a0≠6 then BA.bad 2 else if a1<0∨a1≥16 then .bad 1 else .poke ((pls.getD a0.toNat (0,0)).1+a1) a2) 94 [.pointer (some ⟨b1,0,none⟩),.pointer (some ⟨b2,0,none⟩)] (fun _=>tr_bFill1 b1 b2 (bRun s ((D.f.take (i)).map (aF D.o pls))).2 A ad kb L hI (hrun i (by omega)) bb v1 v2 v3 (.slice (some ⟨bo,oo,none⟩) D.f.length cm) v5 v6 v7 (.slice (some ⟨sb,sp.length,none⟩) pls.length cpl) G D.o hvo a0 a1 a2 pls sb cpl sp sq hpl hpb)) rfl rfl) ?_;rintro _ _ ⟨_,_,⟨rfl,ad1,J1,hk1,rfl⟩,rfl,rfl⟩;refine Ops.app ?_;simp only[Y1,Y2];refine zq [2,19,5,4] ?_;refine Ya rfl rfl (i+1) ?_;refine zq [0,2,49] ?_;rw[←hst];refine Yy (hK (i+1,ad1,J1) ⟨by dsimp only;omega,by dsimp only;rw[hst];exact hk1⟩ (by dsimp only;omega))
 obtain rfl:i=D.f.length:=by omega
 rw[List.take_length]at hI;refine zq [41,16,16,40] ?_;rw[List.take_length];exact zf (L' := (sb,.cells (sp++cel oneC pls++sq).toArray 55)::(bb,.cells [pV kb,v1,v2,v3,.slice am D.f.length cm,v5,v6,v7,.slice (some ⟨sb,sp.length,none⟩) pls.length cpl,.int .i64 (bRun s (D.f.map (aF D.o pls))).1].toArray 138)::(G++L)) ⟨rfl,_,_,hI,rfl⟩
theorem tr_bThreads(bb kb:Nat)(v1 v2 v3 v4 v5 v6 v7 lv:Value)(G:Hp)(D:Dd)(hm:VSl G 8 v5 (cE fsT) D.t)(hvo:VSl G 3 v1 (cE fsO) D.o)(hml:D.t.length≤2^11) (s:Int×Kn)(A:KA)(ad:Nat→Ad)(L:Hp)(hK:KH s.2 A ad kb L)(hrun:∀i,i≤D.t.length→KX (bRun s ((D.t.take (i)).map (aT D.o))).2):Tr prog 45 [pV bb] ((bb,.cells [pV kb,v1,v2,v3,v4,v5,v6,v7,lv,.int .i64 s.1].toArray 138)::(G++L)) (fun u L' => u=.tuple #[]∧∃ad' L1,KH (bRun s (D.t.map (aT D.o))).2 A ad' kb L1∧L' = (bb,.cells [pV kb,v1,v2,v3,v4,v5,v6,v7,lv,.int .i64 (bRun s (D.t.map (aT D.o))).1].toArray 138)::(G++L1)):=by
 obtain ⟨am,cm,rfl,hvw⟩:=hm;refine YR func45 ntmps45 fun W F=>?_
 refine Wr ?_;refine Yq (ef_box1 rfl rfl rfl) fun b1=>?_
 refine zq [2,5,3,4,8,9,6,61,8] ?_;refine Yp (pv_len_slice (T:=40) rfl rfl) ?_;refine zq [0,2,5,20] ?_;refine Wp.loopK (σ:=Nat×(Nat→Ad)×Hp) [(1,_),(8,_),(9,_)] (fun s1=>[(10,.int .i64 s1.1)]) (fun s1=>(b1,.cells [pV bb].toArray 136)::(bb,.cells [pV kb,v1,v2,v3,v4,.slice am D.t.length cm,v6,v7,lv,.int .i64 (bRun s ((D.t.take (s1.1)).map (aT D.o))).1].toArray 138)::(G++(s1.2.2++F))) (fun s1=>s1.1≤D.t.length∧KH (bRun s ((D.t.take (s1.1)).map (aT D.o))).2 A s1.2.1 kb s1.2.2) (fun s1=>D.t.length-s1.1) (0,ad,L) ⟨Nat.zero_le _,hK⟩ ⟨rfl,rfl,rfl,trivial⟩ ⟨rfl,trivial⟩ (by intro w ho;exact ho) ?_;rintro ⟨i,ad,L⟩ KK ⟨hi,hI⟩ hK;dsimp only[Y1,Y2]at hK ⊢;dsimp only at hi hI ⊢;refine zq [3,4,42,2,5,3] ?_;refine Yd rfl (fun h1=>?_) (fun h1=>?_)
 ·
  obtain ⟨e,he⟩:∃e,D.t[i]?=some e:=Y9;obtain ⟨bo,oo,co,cso,To,fo,hvo,hbo,hro⟩:=hvw.open (by omega);cases hvo;have hr0:=cel_reads hro he
  obtain ⟨a0,a1,a2,a3,a4,a5,a6,a7,he3⟩:=El.eight rfl e;rw[show cE fsT e=[.int .i64 a0,.int .i64 a1,.int .i64 a2,.int .i64 a3,.int .i64 a4,.int .u64 a5,.int .i64 a6,.int .i64 a7] by unfold cE;rw[he3];rfl]at hr0;have en0:e.n 0=a0:=by unfold El.n;rw[he3];rfl
  have en1:e.n 1=a1:=by unfold El.n;rw[he3];rfl
  have en2:e.n 2=a2:=by unfold El.n;rw[he3];rfl
  have en3:e.n 3=a3:=by unfold El.n;rw[he3];rfl
  have en4:e.n 4=a4:=by unfold El.n;rw[he3];rfl
  have en5:e.n 5=a5:=by unfold El.n;rw[he3];rfl
  have en6:e.n 6=a6:=by unfold El.n;rw[he3];rfl
  have en7:e.n 7=a7:=by unfold El.n;rw[he3];rfl
  have hst:(bRun s ((D.t.take (i+1)).map (aT D.o)))=BA.go (bRun s ((D.t.take (i)).map (aT D.o))) (if kindD D.o a4≠2 then BA.bad 2 else if checkM (⟨2,a4,0,0,a5,a6⟩:CapM)≠0 then .bad (checkM (⟨2,a4,0,0,a5,a6⟩:CapM)) else .setup a0 a1 a2 a3 (⟨2,a4,0,0,a5,a6⟩:CapM) a7):=by rw[take_at he,List.map_append,List.map_cons,List.map_nil,bRun_one];unfold aT rootD;rw[en0,en1,en2,en3,en4,en5,en6,en7]
  refine zq [11,5,3,20,3,4] ?_;refine Yi rfl rfl (i) rfl ?_;refine Yp (pv_loadK _ rfl rfl rfl hr0) ?_;refine zA fun b2=>?_
  refine zq [14,2,5,4,8,73] ?_;refine Ops.ef rfl (ef_call (tr_bDo bb kb v1 v2 v3 v4 (.slice (some ⟨bo,oo,none⟩) D.t.length cm) v6 v7 lv (bRun s ((D.t.take (i)).map (aT D.o))) A ad L ((b1,.cells ([pV bb]:List Value).toArray 136)::(b2,.cells ([.int .i64 a0,.int .i64 a1,.int .i64 a2,.int .i64 a3,.int .i64 a4,.int .u64 a5,.int .i64 a6,.int .i64 a7]:List Value).toArray 67)::G) hI (if kindD D.o a4≠2 then BA.bad 2 else if checkM (⟨2,a4,0,0,a5,a6⟩:CapM)≠0 then .bad (checkM (⟨2,a4,0,0,a5,a6⟩:CapM)) else .setup a0 a1 a2 a3 (⟨2,a4,0,0,a5,a6⟩:CapM) a7) 96 [.pointer (some ⟨b1,0,none⟩),.pointer (some ⟨b2,0,none⟩)] (fun _=>tr_bThr1 b1 b2 (bRun s ((D.t.take (i)).map (aT D.o))).2 A ad kb L hI (hrun i (by omega)) bb v1 v2 v3 v4 (.slice (some ⟨bo,oo,none⟩) D.t.length cm) v6 v7 lv G D.o hvo a0 a1 a2 a3 a4 a5 a6 a7)) rfl rfl) ?_;rintro _ _ ⟨_,_,⟨rfl,ad1,J1,hk1,rfl⟩,rfl,rfl⟩;refine Ops.app ?_;simp only[Y1,Y2];refine zq [2,19,5,4] ?_;refine Ya rfl rfl (i+1) ?_;refine zq [0,2,49] ?_;rw[←hst];refine Yy (hK (i+1,ad1,J1) ⟨by dsimp only;omega,by dsimp only;rw[hst];exact hk1⟩ (by dsimp only;omega))
 obtain rfl:i=D.t.length:=by omega
 rw[List.take_length]at hI;refine zq [41,16,16,40] ?_;rw[List.take_length];exact zf (L' := (bb,.cells [pV kb,v1,v2,v3,v4,.slice am D.t.length cm,v6,v7,lv,.int .i64 (bRun s (D.t.map (aT D.o))).1].toArray 138)::(G++L)) ⟨rfl,_,_,hI,rfl⟩
end
section
def bs1 (D:Dd) (n i:Nat):Int×Kn:=bRun (0,Kn.new n (timesD D)) ((D.o.mapIdx (aO (planL D))).take i)
def bs2 (D:Dd) (n i:Nat):Int×Kn:=bRun (bs1 D n D.o.length) ((D.p.take i).map aP)
def bs3 (D:Dd) (n:Nat):Int×Kn:=bRun (bs2 D n D.p.length) (D.m.flatMap (aM D.o true))
def bs4 (D:Dd) (n:Nat):Int×Kn:=bRun (bs3 D n) (D.m.flatMap (aM D.o false))
def bs5 (D:Dd) (n:Nat):Int×Kn:=bRun (bs4 D n) (D.f.map (aF D.o (planL D)))
def bs6 (D:Dd) (n:Nat):Int×Kn:=bRun (bs5 D n) (D.t.map (aT D.o))
def bs7 (D:Dd) (n i:Nat):Int×Kn:=bRun (bs6 D n) ((D.w.take i).map aW)
def bs8 (D:Dd) (n i:Nat):Int×Kn:=bRun (bs7 D n D.w.length) ((D.t.take i).map aS)
def Reach (D:Dd) (n:Nat) (s:Int×Kn) (rest:List BA):Prop:=∃a,s=bRun (0,Kn.new n (timesD D)) a∧actsD D (planL D)=a++rest
theorem Reach.more{D:Dd}{n:Nat}{s:Int×Kn}{a b:List BA}(h:Reach D n s (a++b)):Reach D n (bRun s a) b:=by
 obtain ⟨x,rfl,h2⟩:=h;exact ⟨x++a,by rw[bRun_app],by rw[h2,Y7]⟩
theorem Reach.part{D:Dd}{n:Nat}{s:Int×Kn}{a a1 a2 b:List BA}(h:Reach D n s (a++b))(e:a=a1++a2):Reach D n (bRun s a1) (a2++b):=by
 rw[e,Y7]at h;exact h.more
theorem Reach.kx{D:Dd}{n:Nat}{s:Int×Kn}{r:List BA}(h:Reach D n s r)(hs:DSmall D)(h1:64≤n)(h2:n≤65536)(hT:tmsOk (timesD D)):KX s.2:=by
 obtain ⟨a,rfl,he⟩:=h;exact acts_kx hs h1 h2 hT he
section
variable (D : Dd) (n : Nat)
def rs1:List BA:=D.p.map aP++(D.m.flatMap (aM D.o true)++(D.m.flatMap (aM D.o false)++(D.f.map (aF D.o (planL D))++(D.t.map (aT D.o)++(D.w.map aW++D.t.map aS)))))
theorem reach1(i:Nat):∃r,Reach D n (bs1 D n i) r:=⟨_,Reach.part (a:=D.o.mapIdx (aO (planL D))) (b:=rs1 D) ⟨[],rfl,rfl⟩ (List.take_append_drop i _).symm⟩
theorem reach1a:Reach D n (bs1 D n D.o.length) (rs1 D):=by
 have h:Reach D n (bRun (0,Kn.new n (timesD D)) (D.o.mapIdx (aO (planL D)))) (rs1 D):=Reach.more ⟨[],rfl,rfl⟩
 unfold bs1;rw[List.take_of_length_le (by simp)];exact h
theorem reach2(i:Nat):∃r,Reach D n (bs2 D n i) r:=⟨_,(reach1a D n).part (by rw[←List.map_append,List.take_append_drop])⟩
theorem reach2a:Reach D n (bs2 D n D.p.length) (D.m.flatMap (aM D.o true)++(D.m.flatMap (aM D.o false)++(D.f.map (aF D.o (planL D))++(D.t.map (aT D.o)++(D.w.map aW++D.t.map aS))))):=by
 unfold bs2;rw[List.take_length];exact (reach1a D n).more
theorem reach3(i:Nat):∃r,Reach D n (bRun (bs2 D n D.p.length) ((D.m.take i).flatMap (aM D.o true))) r:=⟨_,(reach2a D n).part (by rw[←List.flatMap_append,List.take_append_drop])⟩
theorem reach3a:Reach D n (bs3 D n) (D.m.flatMap (aM D.o false)++(D.f.map (aF D.o (planL D))++(D.t.map (aT D.o)++(D.w.map aW++D.t.map aS)))):=(reach2a D n).more
theorem reach4(i:Nat):∃r,Reach D n (bRun (bs3 D n) ((D.m.take i).flatMap (aM D.o false))) r:=⟨_,(reach3a D n).part (by rw[←List.flatMap_append,List.take_append_drop])⟩
theorem reach4a:Reach D n (bs4 D n) (D.f.map (aF D.o (planL D))++(D.t.map (aT D.o)++(D.w.map aW++D.t.map aS))):=(reach3a D n).more
theorem reach5(i:Nat):∃r,Reach D n (bRun (bs4 D n) ((D.f.take i).map (aF D.o (planL D)))) r:=⟨_,(reach4a D n).part (by rw[←List.map_append,List.take_append_drop])⟩
theorem reach5a:Reach D n (bs5 D n) (D.t.map (aT D.o)++(D.w.map aW++D.t.map aS)):=(reach4a D n).more
theorem reach6(i:Nat):∃r,Reach D n (bRun (bs5 D n) ((D.t.take i).map (aT D.o))) r:=⟨_,(reach5a D n).part (by rw[←List.map_append,List.take_append_drop])⟩
theorem reach6a:Reach D n (bs6 D n) (D.w.map aW++D.t.map aS):=(reach5a D n).more
theorem reach7(i:Nat):∃r,Reach D n (bs7 D n i) r:=⟨_,(reach6a D n).part (by rw[←List.map_append,List.take_append_drop])⟩
theorem reach7a:Reach D n (bs7 D n D.w.length) (D.t.map aS++[]):=by
 unfold bs7;rw[List.take_length,List.append_nil];exact (reach6a D n).more
theorem reach8(i:Nat):∃r,Reach D n (bs8 D n i) r:=⟨_,(reach7a D n).part (by rw[←List.map_append,List.take_append_drop])⟩
theorem bs8_all:bs8 D n D.t.length=bRun (0,Kn.new n (timesD D)) (actsD D (planL D)):=by
 have h:Reach D n (bs8 D n D.t.length) []:=by unfold bs8;rw[List.take_length];exact (reach7a D n).more
 obtain ⟨a,e1,e2⟩:=h;rw[e1,e2,List.append_nil]
end
theorem bs1_next{D:Dd}(n:Nat){i:Nat}{e:El fsO}(he:D.o[i]?=some e):bs1 D n (i+1)=BA.go (bs1 D n i) (aO (planL D) i e):=by
 unfold bs1;rw[take_at (x:=aO (planL D) i e) (by rw[List.getElem?_mapIdx,he];rfl),bRun_one]
theorem bs2_next{D:Dd}(n:Nat){i:Nat}{e:El fsP}(he:D.p[i]?=some e):bs2 D n (i+1)=BA.go (bs2 D n i) (aP e):=by
 unfold bs2;rw[take_at he,List.map_append,List.map_cons,List.map_nil,bRun_one]
theorem bs7_next{D:Dd}(n:Nat){i:Nat}{e:El fsW}(he:D.w[i]?=some e):bs7 D n (i+1)=BA.go (bs7 D n i) (aW e):=by
 unfold bs7;rw[take_at he,List.map_append,List.map_cons,List.map_nil,bRun_one]
theorem bs8_next{D:Dd}(n:Nat){i:Nat}{e:El fsT}(he:D.t[i]?=some e):bs8 D n (i+1)=BA.go (bs8 D n i) (aS e):=by
 unfold bs8;rw[take_at he,List.map_append,List.map_cons,List.map_nil,bRun_one]
theorem bs2_0(D:Dd)(n:Nat):bs2 D n 0=bs1 D n D.o.length:=rfl
theorem bs8_0(D:Dd)(n:Nat):bs8 D n 0=bs7 D n D.w.length:=rfl
theorem bs1_0(D:Dd)(n:Nat):bs1 D n 0=(0,Kn.new n (timesD D)):=rfl
theorem plan_bd{D:Dd}{words:Int}(h:planE D words=0):∀p,p∈planL D→0≤p.1∧p.1≤65536:=by
 intro p hp;obtain ⟨i,hi⟩:=List.mem_iff_getElem?.1 hp;have hl:i<D.o.length:=by have:=lt_of_some hi;rwa [planL_len]at this
 have hc:=plan_in ((plan_ok h).check hl).1
 rw[List.getD_eq_getElem?_getD,hi]at hc;obtain ⟨c1,_⟩:=hc;unfold inRangeS at c1;have:=pw_pos p.2
 simp only[Option.getD_some]at c1;omega
def BootR (D:Dd) (n:Nat) (G:Hp) (u:Value) (L' : Hp):Prop:=((bootM D n).1≠0∧u=.tuple #[.pointer none,.int .i64 (bootM D n).1]∧L' = G)∨((bootM D n).1=0∧∃kb A ad L1,u=.tuple #[pV kb,.int .i64 0]∧KH (bootM D n).2 A ad kb L1∧L' = L1++G)
theorem tr_bootP(G:Hp)(D:Dd)(v1 v2 v3 v4 v5 v6 v7:Value)(hd:DV G D v1 v2 v3 v4 v5 v6 v7)(hsm:DSmall D)(n:Nat)(hp:planE D n≠0):Tr prog 15 [.agg #[v1,v2,v3,v4,v5,v6,v7],.int .i64 n] (G) (BootR D n G):=by
 obtain ⟨x1,y1,rfl,w1⟩:=hd.o;obtain ⟨x2,y2,rfl,w2⟩:=hd.p;obtain ⟨x5,y5,rfl,w5⟩:=hd.t;obtain ⟨x6,y6,rfl,w6⟩:=hd.w;obtain ⟨x7,y7,rfl,w7⟩:=hd.s;have hvo:=hd.o
 have hvm:=hd.m
 have hvf:=hd.f
 have hvt:=hd.t
 obtain ⟨hlo,hlp,hlm,hlf,hlt,hlw,hls⟩:=hsm;have hb:=bootM_plan hp
 refine YR func15 ntmps15 fun W F=>?_
 refine Wr ?_;refine zB fun b1=>?_
 refine zq [1,1,2,5,3,4,36,0] ?_;refine zC (tr_planN G D x1 y1 (.slice x2 D.p.length y2) v3 v4 (.slice x5 D.t.length y5) (.slice x6 D.w.length y6) (.slice x7 D.s.length y7) w1 (by omega) n hp) ?_;refine zq [0,7,7] ?_;refine Yq (ef_alloc1 tyZ51 rfl rfl) fun b2=>?_
 refine zq [25,1,2,5,3,3,4,0,27,2,5] ?_;refine Yd rfl (fun h1=>?_) (fun h1=>absurd hp (by assumption));refine zq [3,4,0,1,1,2,5,10,12] ?_;exact Ends.ret (L' := G) (res2 rfl rfl rfl) (.inl ⟨by rw[hb];exact hp,by rw[hb],rfl⟩)
theorem tr_kNewB(G:Hp)(n:Nat)(hn1:64≤n)(hn2:n≤65536)(a:Option Addr)(c:Nat)(T:Ones)(hv:View G 2 (.slice a T.length c) T.length (cel oneC T))(hl:T.length≤2^30)(hT:¬tmsOk T):TrR prog 80 [.slice a T.length c] G (.tuple #[.pointer none,.int .i64 1]) :=
  (tr_sNew G a c T hv hl).mono (by
    rintro v L' (⟨h,_⟩ | ⟨_,h1,h2⟩)
    · exact absurd h hT
    · exact ⟨h1,h2⟩)
theorem tr_kNewN(G:Hp)(n:Nat)(hn1:64≤n)(hn2:n≤65536)(a:Option Addr)(c:Nat)(T:Ones)(hv:View G 2 (.slice a T.length c) T.length (cel oneC T))(hl:T.length≤2^30)(hT:¬tmsOk T):TrR prog 37 [.int .i64 n,.slice a T.length c] (G) (.tuple #[.pointer none,.int .i64 1]):=by
 refine YR func37 ntmps37 fun W F=>?_
 refine zq [3,4,1,1,2,5,3,4,0] ?_;refine zD (tr_memNew n hn1 hn2) ?_;rintro _ _ ⟨mb1,wb1,rfl,rfl⟩;refine Ops.app ?_;refine zq [0,7,7,1,1,2,5,3,3,4,0,67,2,5,17,11,5,3,4,0] ?_;refine zC (tr_kNewB G n hn1 hn2 a c T hv hl hT) ?_;refine zq [0,7,7,1,1,2,5,3,3,4,0,68,2,5,18,3,4,0,1,1,2,5,10,12] ?_;exact zr ⟨rfl,rfl⟩
theorem tr_bootT(G:Hp)(D:Dd)(v1 v2 v3 v4 v5 v6 v7:Value)(hd:DV G D v1 v2 v3 v4 v5 v6 v7)(hsm:DSmall D)(n:Nat)(hp:planE D n=0)(hT:¬tmsOk (timesD D)):Tr prog 15 [.agg #[v1,v2,v3,v4,v5,v6,v7],.int .i64 n] (G) (BootR D n G):=by
 obtain ⟨x1,y1,rfl,w1⟩:=hd.o;obtain ⟨x2,y2,rfl,w2⟩:=hd.p;obtain ⟨x5,y5,rfl,w5⟩:=hd.t;obtain ⟨x6,y6,rfl,w6⟩:=hd.w;obtain ⟨x7,y7,rfl,w7⟩:=hd.s;have hvo:=hd.o
 have hvm:=hd.m
 have hvf:=hd.f
 have hvt:=hd.t
 obtain ⟨hlo,hlp,hlm,hlf,hlt,hlw,hls⟩:=hsm;have htl:(timesD D).length=D.s.length:=by simp[timesD]
 have hb:=bootM_times hp hT
 have hpk:=plan_ok hp
 have hn1:=hpk.w1
 have hn2:=hpk.w2
 refine YR func15 ntmps15 fun W F=>?_
 refine Wr ?_;refine zB fun b1=>?_
 refine zq [1,1,2,5,3,4,36,0] ?_;refine zD (tr_planY G D x1 y1 (.slice x2 D.p.length y2) v3 v4 (.slice x5 D.t.length y5) (.slice x6 D.w.length y6) (.slice x7 D.s.length y7) w1 (by omega) n hp) ?_;rintro _ _ ⟨sb,sp,sq,cpl,rfl,rfl⟩;refine Ops.app ?_;refine zq [0,7,7] ?_;refine Yq (ef_alloc1 tyZ51 rfl rfl) fun b2=>?_
 refine zq [25,1,2,5,3,3,4,0,67,2,5,17,11,5,3,4,1,2,5,3,3,4,6,8] ?_;refine Yp (pv_len_slice (T:=42) rfl rfl) ?_;refine zq [0,2,5,20] ?_;refine YM (σ:=Nat×Value×Hp) [(1,_),(2,_),(6,_),(31,_),(32,_)] (fun s=>[(8,s.2.1),(33,.int .i64 s.1)]) (fun s=>(b2,.cells [.slice (some ⟨sb,sp.length,none⟩) (planL D).length cpl].toArray 51)::(sb,.cells (sp++cel oneC (planL D)++sq).toArray 55)::(b1,.cells [.slice x1 D.o.length y1,.slice x2 D.p.length y2,v3,v4,.slice x5 D.t.length y5,.slice x6 D.w.length y6,.slice x7 D.s.length y7].toArray 44)::(s.2.2++(G++F))) (fun s=>s.1≤D.s.length∧Slc 134 2 s.2.1 s.1 (cel oneC ((timesD D).take s.1)) s.2.2) (fun s=>D.s.length-s.1) (0,.slice none 0 0,[]) ⟨Nat.zero_le _,Slc.nil _ _⟩ ?_;rintro ⟨i,tv,Ht⟩ KK ⟨hi,hts⟩ hK;dsimp only[Y1,Y2]at hK ⊢;dsimp only at hi hts ⊢;obtain ⟨ta,tc,rfl⟩:=hts.form;refine zq [3,4,42,2,5,3] ?_;refine Yd rfl (fun h1=>?_) (fun h1=>?_)
 ·
  have hvw:=w7
  obtain ⟨e,he⟩:∃e,D.s[i]?=some e:=Y9;obtain ⟨bo,oo,co,cso,To,fo,hvo,hbo,hro⟩:=hvw.open (by omega);cases hvo;have hr0:=cel_reads hro he
  obtain ⟨a0,a1,he3⟩:=El.two rfl e;rw[show cE fsS e=[.int .i64 a0,.int .i64 a1] by unfold cE;rw[he3];rfl]at hr0;have en0:e.n 0=a0:=by unfold El.n;rw[he3];rfl
  have en1:e.n 1=a1:=by unfold El.n;rw[he3];rfl
  have htk:(timesD D).take (i+1)=(timesD D).take i++[(a0,a1)]:=take_at (by unfold timesD;rw[List.getElem?_map,he,Option.map_some,en0,en1])
  refine zq [11,5,3,20,3,4] ?_;refine Yi rfl rfl (i) rfl ?_;refine Yp (pv_loadK _ rfl rfl rfl hr0) ?_;refine zA fun b3=>?_
  refine zq [14,2,5,4,0,6,8,6,8,23] ?_;refine Yq (ef_buildSlice1 (k:=2) rfl rfl rfl rfl rfl) fun b4=>?_
  refine Ops.ef rfl (ef_append (H:=Ht) (xs:=[.int .i64 a0,.int .i64 a1]) rfl hts rfl ⟨rfl,rfl,trivial⟩ rfl rfl rfl (by omega) (by omega) rfl rfl) ?_;rintro _ _ ⟨v1,H1,hs1,rfl,rfl⟩;refine Ops.app ?_;refine zq [1,2,19,5,4] ?_;refine Ya rfl rfl (i+1) ?_;refine zq [0,2,49] ?_;refine Yy (hK (i+1,v1,H1) ⟨by dsimp only;omega,by dsimp only;rw[htk,cel_app,cel_one1];exact hs1⟩ (by dsimp only;omega))
 obtain rfl:i=(timesD D).length:=by rw[htl];omega
 rw[List.take_length]at hts;refine zq [41,16,16,40,5,3,4,0,0] ?_;refine zC (tr_kNewN Ht n (by omega) (by omega) ta tc (timesD D) hts.view (by omega) hT) ?_;refine zq [0,7,7] ?_;refine Yq (ef_alloc1 tyZ56 rfl rfl) fun b5=>?_
 refine zq [25,1,2,5,3,3,4,0,68,2,5,18,3,4,0,1,1,2,5,10,12] ?_;exact Ends.ret (L' := G) (res2 rfl rfl rfl) (.inl ⟨by rw[hb];decide,by rw[hb],rfl⟩)
theorem tr_bootK(G:Hp)(D:Dd)(v1 v2 v3 v4 v5 v6 v7:Value)(hd:DV G D v1 v2 v3 v4 v5 v6 v7)(hsm:DSmall D)(n:Nat)(hp:planE D n=0)(hT:tmsOk (timesD D)):Tr prog 15 [.agg #[v1,v2,v3,v4,v5,v6,v7],.int .i64 n] (G) (BootR D n G):=by
 have hsm0:=hsm
 obtain ⟨x1,y1,rfl,w1⟩:=hd.o;obtain ⟨x2,y2,rfl,w2⟩:=hd.p;obtain ⟨x5,y5,rfl,w5⟩:=hd.t;obtain ⟨x6,y6,rfl,w6⟩:=hd.w;obtain ⟨x7,y7,rfl,w7⟩:=hd.s;have hvo:=hd.o
 have hvm:=hd.m
 have hvf:=hd.f
 have hvt:=hd.t
 obtain ⟨hlo,hlp,hlm,hlf,hlt,hlw,hls⟩:=hsm;have htl:(timesD D).length=D.s.length:=by simp[timesD]
 have hpk:=plan_ok hp
 have hn1:64≤n:=by have:=hpk.w1;omega
 have hn2:n≤65536:=by have:=hpk.w2;omega
 refine YR func15 ntmps15 fun W F=>?_
 refine Wr ?_;refine zB fun b1=>?_
 refine zq [1,1,2,5,3,4,36,0] ?_;refine zD (tr_planY G D x1 y1 (.slice x2 D.p.length y2) v3 v4 (.slice x5 D.t.length y5) (.slice x6 D.w.length y6) (.slice x7 D.s.length y7) w1 (by omega) n hp) ?_;rintro _ _ ⟨sb,sp,sq,cpl,rfl,rfl⟩;refine Ops.app ?_;refine zq [0,7,7] ?_;refine Yq (ef_alloc1 tyZ51 rfl rfl) fun b2=>?_
 refine zq [25,1,2,5,3,3,4,0,67,2,5,17,11,5,3,4,1,2,5,3,3,4,6,8] ?_;refine Yp (pv_len_slice (T:=42) rfl rfl) ?_;refine zq [0,2,5,20] ?_;refine YM (σ:=Nat×Value×Hp) [(1,_),(2,_),(6,_),(31,_),(32,_)] (fun s=>[(8,s.2.1),(33,.int .i64 s.1)]) (fun s=>(b2,.cells [.slice (some ⟨sb,sp.length,none⟩) (planL D).length cpl].toArray 51)::(sb,.cells (sp++cel oneC (planL D)++sq).toArray 55)::(b1,.cells [.slice x1 D.o.length y1,.slice x2 D.p.length y2,v3,v4,.slice x5 D.t.length y5,.slice x6 D.w.length y6,.slice x7 D.s.length y7].toArray 44)::(s.2.2++(G++F))) (fun s=>s.1≤D.s.length∧Slc 134 2 s.2.1 s.1 (cel oneC ((timesD D).take s.1)) s.2.2) (fun s=>D.s.length-s.1) (0,.slice none 0 0,[]) ⟨Nat.zero_le _,Slc.nil _ _⟩ ?_;rintro ⟨i,tv,Ht⟩ KK ⟨hi,hts⟩ hK;dsimp only[Y1,Y2]at hK ⊢;dsimp only at hi hts ⊢;obtain ⟨ta,tc,rfl⟩:=hts.form;refine zq [3,4,42,2,5,3] ?_;refine Yd rfl (fun h1=>?_) (fun h1=>?_)
 ·
  have hvw:=w7
  obtain ⟨e,he⟩:∃e,D.s[i]?=some e:=Y9;obtain ⟨bo,oo,co,cso,To,fo,hvo,hbo,hro⟩:=hvw.open (by omega);cases hvo;have hr0:=cel_reads hro he
  obtain ⟨a0,a1,he3⟩:=El.two rfl e;rw[show cE fsS e=[.int .i64 a0,.int .i64 a1] by unfold cE;rw[he3];rfl]at hr0;have en0:e.n 0=a0:=by unfold El.n;rw[he3];rfl
  have en1:e.n 1=a1:=by unfold El.n;rw[he3];rfl
  have htk:(timesD D).take (i+1)=(timesD D).take i++[(a0,a1)]:=take_at (by unfold timesD;rw[List.getElem?_map,he,Option.map_some,en0,en1])
  refine zq [11,5,3,20,3,4] ?_;refine Yi rfl rfl (i) rfl ?_;refine Yp (pv_loadK _ rfl rfl rfl hr0) ?_;refine zA fun b3=>?_
  refine zq [14,2,5,4,0,6,8,6,8,23] ?_;refine Yq (ef_buildSlice1 (k:=2) rfl rfl rfl rfl rfl) fun b4=>?_
  refine Ops.ef rfl (ef_append (H:=Ht) (xs:=[.int .i64 a0,.int .i64 a1]) rfl hts rfl ⟨rfl,rfl,trivial⟩ rfl rfl rfl (by omega) (by omega) rfl rfl) ?_;rintro _ _ ⟨v1,H1,hs1,rfl,rfl⟩;refine Ops.app ?_;refine zq [1,2,19,5,4] ?_;refine Ya rfl rfl (i+1) ?_;refine zq [0,2,49] ?_;refine Yy (hK (i+1,v1,H1) ⟨by dsimp only;omega,by dsimp only;rw[htk,cel_app,cel_one1];exact hs1⟩ (by dsimp only;omega))
 obtain rfl:i=(timesD D).length:=by rw[htl];omega
 rw[List.take_length]at hts;refine zq [41,16,16,40,5,3,4,0,0] ?_;refine Ops.ef rfl (ef_call (tr_kNew Ht n (by omega) (by omega) ta tc (timesD D) hts.view (by omega) hT (fun _=>⟨0,0,0⟩)) rfl rfl) ?_;rintro _ _ ⟨_,_,⟨kb1,A1,J1,rfl,hk1,rfl⟩,rfl,rfl⟩;refine Ops.app ?_;refine zq [0,7,7] ?_;refine Yq (ef_alloc1 tyZ56 rfl rfl) fun b5=>?_
 refine zq [25,1,2,5,3,3,4,0,67,2,5,17,11,5,3,4,8,36,8,23] ?_;refine zB fun b6=>?_
 refine zq [1,2,5,3,3,4,6,8] ?_;refine Yp (pv_len_slice (T:=36) rfl rfl) ?_;refine zq [0,2,5,20] ?_;refine Wp.loopK (σ:=Nat×(Nat→Ad)×Hp) [(2,_),(6,_),(11,_),(12,_),(61,_),(62,_)] (fun s=>[(63,.int .i64 s.1)]) (fun s=>(b6,.cells [pV kb1,.slice x1 D.o.length y1,.slice x2 D.p.length y2,v3,v4,.slice x5 D.t.length y5,.slice x6 D.w.length y6,.slice x7 D.s.length y7,.slice (some ⟨sb,sp.length,none⟩) (planL D).length cpl,.int .i64 (bs1 D n s.1).1].toArray 138)::(b5,.cells [pV kb1].toArray 56)::(b2,.cells [.slice (some ⟨sb,sp.length,none⟩) (planL D).length cpl].toArray 51)::(sb,.cells (sp++cel oneC (planL D)++sq).toArray 55)::(b1,.cells [.slice x1 D.o.length y1,.slice x2 D.p.length y2,v3,v4,.slice x5 D.t.length y5,.slice x6 D.w.length y6,.slice x7 D.s.length y7].toArray 44)::(G++(s.2.2++F))) (fun s=>s.1≤D.o.length∧KH (bs1 D n s.1).2 A1 s.2.1 kb1 s.2.2) (fun s=>D.o.length-s.1) (0,(fun _=>⟨0,0,0⟩),J1) ⟨Nat.zero_le _,hk1⟩ ⟨rfl,rfl,rfl,rfl,rfl,rfl,trivial⟩ ⟨rfl,trivial⟩ (by intro w ho;dsimp only[Y2,Y1];rw[bs1_0];dsimp only;exact Drop.own ho) ?_;rintro ⟨i,ad,L⟩ KK ⟨hi,hI⟩ hK;dsimp only[Y1,Y2]at hK ⊢;dsimp only at hi hI ⊢;refine zq [3,4,42,2,5,3] ?_;refine Yd rfl (fun h2=>?_) (fun h2=>?_)
 ·
  have hvw:=w1
  obtain ⟨e,he⟩:∃e,D.o[i]?=some e:=Y9;obtain ⟨bo,oo,co,cso,To,fo,hvo,hbo,hro⟩:=hvw.open (by omega);cases hvo;have hr0:=cel_reads hro he
  obtain ⟨a0,a1,a2,he3⟩:=El.three rfl e;rw[show cE fsO e=[.int .i64 a0,.int .i64 a1,.int .i64 a2] by unfold cE;rw[he3];rfl]at hr0;have en0:e.n 0=a0:=by unfold El.n;rw[he3];rfl
  have en1:e.n 1=a1:=by unfold El.n;rw[he3];rfl
  have en2:e.n 2=a2:=by unfold El.n;rw[he3];rfl
  have hsz:I64 a1:=by have h:Fld.two.rg (e.n 1):=e.rgn rfl;rw[en1]at h;exact h
  obtain ⟨q,hq⟩:∃q,(planL D)[i]?=some q:=⟨_,Y8 (by rw[planL_len];omega)⟩;have hst:bs1 D n (i+1)=BA.go (bs1 D n i) (BA.create (i:Int) a0 q a1):=by rw[bs1_next n he];unfold aO;rw[en0,en1,List.getD_eq_getElem?_getD,hq];rfl
  refine zq [11,5,3,20,3,4,0] ?_;refine Yi rfl rfl (i) rfl ?_;refine Yp (pv_loadK _ rfl rfl rfl hr0) ?_;refine Yq (ef_alloc1 tyZ3 rfl rfl) fun b7=>?_
  refine zA fun b8=>?_
  refine zq [25,14,2,5,4,0,73] ?_;refine zD (tr_bDo b6 kb1 (.slice (some ⟨bo,oo,none⟩) D.o.length y1) (.slice x2 D.p.length y2) v3 v4 (.slice x5 D.t.length y5) (.slice x6 D.w.length y6) (.slice x7 D.s.length y7) (.slice (some ⟨sb,sp.length,none⟩) (planL D).length cpl) (bs1 D n i) A1 ad L [(b5,.cells ([pV kb1]:List Value).toArray 56),(b7,.cells ([.int .i64 (i:Int)]:List Value).toArray 3),(b8,.cells ([.int .i64 a0,.int .i64 a1,.int .i64 a2]:List Value).toArray 116),(b2,.cells ([.slice (some ⟨sb,sp.length,none⟩) (planL D).length cpl]:List Value).toArray 51),(sb,.cells (sp++cel oneC (planL D)++sq).toArray 55)] hI (BA.create (i:Int) a0 q a1) 39 [.pointer (some ⟨b5,0,none⟩),.pointer (some ⟨b7,0,none⟩),.pointer (some ⟨b8,0,none⟩),.pointer (some ⟨b2,0,none⟩)] (fun _=>tr_bCreate1 b5 b7 b8 b2 (bs1 D n i).2 A1 ad kb1 L hI (let ⟨_,hr⟩:=reach1 D n i;hr.kx hsm0 hn1 hn2 hT) b6 (.slice (some ⟨bo,oo,none⟩) D.o.length y1) (.slice x2 D.p.length y2) v3 v4 (.slice x5 D.t.length y5) (.slice x6 D.w.length y6) (.slice x7 D.s.length y7) (.slice (some ⟨sb,sp.length,none⟩) (planL D).length cpl) i a0 a1 a2 hsz (planL D) sb cpl sp sq q hq)) ?_;rintro _ _ ⟨rfl,ad1,J1,hk1,rfl⟩;refine Ops.app ?_;simp only[Y1,Y2];refine zq [2,19,5,4] ?_;refine Ya rfl rfl (i+1) ?_;refine zq [0,2,49] ?_;rw[←hst];refine Yy (hK (i+1,ad1,J1) ⟨by dsimp only;omega,by dsimp only;rw[hst];exact hk1⟩ (by dsimp only;omega))
 obtain rfl:i=D.o.length:=by omega
 rw[←bs2_0]at hI ⊢;refine zq [41,16,16,40,5,3,3,4,6,8] ?_;refine Yp (pv_len_slice (T:=37) rfl rfl) ?_;refine zq [0,2,5,20] ?_;refine Wp.loopK (σ:=Nat×(Nat→Ad)×Hp) [(2,_),(11,_),(12,_),(73,_),(74,_)] (fun s=>[(75,.int .i64 s.1)]) (fun s=>(b6,.cells [pV kb1,.slice x1 D.o.length y1,.slice x2 D.p.length y2,v3,v4,.slice x5 D.t.length y5,.slice x6 D.w.length y6,.slice x7 D.s.length y7,.slice (some ⟨sb,sp.length,none⟩) (planL D).length cpl,.int .i64 (bs2 D n s.1).1].toArray 138)::(b5,.cells [pV kb1].toArray 56)::(b2,.cells [.slice (some ⟨sb,sp.length,none⟩) (planL D).length cpl].toArray 51)::(sb,.cells (sp++cel oneC (planL D)++sq).toArray 55)::(b1,.cells [.slice x1 D.o.length y1,.slice x2 D.p.length y2,v3,v4,.slice x5 D.t.length y5,.slice x6 D.w.length y6,.slice x7 D.s.length y7].toArray 44)::(G++(s.2.2++F))) (fun s=>s.1≤D.p.length∧KH (bs2 D n s.1).2 A1 s.2.1 kb1 s.2.2) (fun s=>D.p.length-s.1) (0,ad,L) ⟨Nat.zero_le _,hI⟩ ⟨rfl,rfl,rfl,rfl,rfl,trivial⟩ ⟨rfl,trivial⟩ (by intro w ho;(try dsimp only[Y2,Y1]);first | exact Drop.own ho | (dsimp only at ho ⊢;exact Drop.own ho)) ?_;rintro ⟨i,ad,L⟩ KK ⟨hi,hI⟩ hK;dsimp only[Y1,Y2]at hK ⊢;dsimp only at hi hI ⊢;refine zq [3,4,42,2,5,3] ?_;refine Yd rfl (fun h3=>?_) (fun h3=>?_)
 ·
  have hvw:=w2
  obtain ⟨e,he⟩:∃e,D.p[i]?=some e:=Y9;obtain ⟨bo,oo,co,cso,To,fo,hvo,hbo,hro⟩:=hvw.open (by omega);cases hvo;have hr0:=cel_reads hro he
  obtain ⟨a0,a1,a2,a3,a4,a5,a6,a7,he3⟩:=El.eight rfl e;rw[show cE fsP e=[.int .i64 a0,.int .i64 a1,.int .i64 a2,.int .i64 a3,.int .i64 a4,.int .u64 a5,.int .u64 a6,.int .i64 a7] by unfold cE;rw[he3];rfl]at hr0;have en0:e.n 0=a0:=by unfold El.n;rw[he3];rfl
  have en1:e.n 1=a1:=by unfold El.n;rw[he3];rfl
  have en2:e.n 2=a2:=by unfold El.n;rw[he3];rfl
  have en3:e.n 3=a3:=by unfold El.n;rw[he3];rfl
  have en4:e.n 4=a4:=by unfold El.n;rw[he3];rfl
  have en5:e.n 5=a5:=by unfold El.n;rw[he3];rfl
  have en6:e.n 6=a6:=by unfold El.n;rw[he3];rfl
  have en7:e.n 7=a7:=by unfold El.n;rw[he3];rfl
  have hst:bs2 D n (i+1)=BA.go (bs2 D n i) (BA.plant (a0,a1) ⟨a2,a3,a4,a5,a6,a7⟩):=by rw[bs2_next n he];unfold aP;rw[en0,en1,en2,en3,en4,en5,en6,en7]
  refine zq [11,5,3,20,3,4] ?_;refine Yi rfl rfl (i) rfl ?_;refine Yp (pv_loadK _ rfl rfl rfl hr0) ?_;refine zA fun b9=>?_
  refine zq [14,2,5,4,0,73] ?_;refine zD (tr_bDo b6 kb1 (.slice x1 D.o.length y1) (.slice (some ⟨bo,oo,none⟩) D.p.length y2) v3 v4 (.slice x5 D.t.length y5) (.slice x6 D.w.length y6) (.slice x7 D.s.length y7) (.slice (some ⟨sb,sp.length,none⟩) (planL D).length cpl) (bs2 D n i) A1 ad L [(b5,.cells ([pV kb1]:List Value).toArray 56),(b9,.cells ([.int .i64 a0,.int .i64 a1,.int .i64 a2,.int .i64 a3,.int .i64 a4,.int .u64 a5,.int .u64 a6,.int .i64 a7]:List Value).toArray 65)] hI (BA.plant (a0,a1) ⟨a2,a3,a4,a5,a6,a7⟩) 41 [.pointer (some ⟨b5,0,none⟩),.pointer (some ⟨b9,0,none⟩)] (fun _=>tr_bPlant1 b5 b9 (bs2 D n i).2 A1 ad kb1 L hI (let ⟨_,hr⟩:=reach2 D n i;hr.kx hsm0 hn1 hn2 hT) b6 (.slice x1 D.o.length y1) (.slice (some ⟨bo,oo,none⟩) D.p.length y2) v3 v4 (.slice x5 D.t.length y5) (.slice x6 D.w.length y6) (.slice x7 D.s.length y7) (.slice (some ⟨sb,sp.length,none⟩) (planL D).length cpl) a0 a1 a2 a3 a4 a5 a6 a7)) ?_;rintro _ _ ⟨rfl,ad2,J2,hk2,rfl⟩;refine Ops.app ?_;simp only[Y1,Y2];refine zq [2,19,5,4] ?_;refine Ya rfl rfl (i+1) ?_;refine zq [0,2,49] ?_;rw[←hst];refine Yy (hK (i+1,ad2,J2) ⟨by dsimp only;omega,by dsimp only;rw[hst];exact hk2⟩ (by dsimp only;omega))
 obtain rfl:i=D.p.length:=by omega
 refine zq [41,16,16,40,5,3,4,0] ?_;refine Ops.ef rfl (ef_call (tr_bMapsT b6 kb1 (.slice x1 D.o.length y1) (.slice x2 D.p.length y2) v3 v4 (.slice x5 D.t.length y5) (.slice x6 D.w.length y6) (.slice x7 D.s.length y7) (.slice (some ⟨sb,sp.length,none⟩) (planL D).length cpl) G D hvm hvo (by omega) (bs2 D n D.p.length) A1 ad L hI (fun i _=>(let ⟨_,hr⟩:=reach3 D n i;hr.kx hsm0 hn1 hn2 hT))) rfl rfl) ?_;rintro _ _ ⟨_,_,⟨rfl,ad3,J3,hk3,rfl⟩,rfl,rfl⟩;refine Ops.app ?_;rw[show bRun (bs2 D n D.p.length) (D.m.flatMap (aM D.o true))=bs3 D n from rfl]at hk3 ⊢;refine zq [2,5,3,4,0] ?_;refine Ops.ef rfl (ef_call (tr_bMapsF b6 kb1 (.slice x1 D.o.length y1) (.slice x2 D.p.length y2) v3 v4 (.slice x5 D.t.length y5) (.slice x6 D.w.length y6) (.slice x7 D.s.length y7) (.slice (some ⟨sb,sp.length,none⟩) (planL D).length cpl) G D hvm hvo (by omega) (bs3 D n) A1 ad3 J3 hk3 (fun i _=>(let ⟨_,hr⟩:=reach4 D n i;hr.kx hsm0 hn1 hn2 hT))) rfl rfl) ?_;rintro _ _ ⟨_,_,⟨rfl,ad4,J4,hk4,rfl⟩,rfl,rfl⟩;refine Ops.app ?_;rw[show bRun (bs3 D n) (D.m.flatMap (aM D.o false))=bs4 D n from rfl]at hk4 ⊢;refine zq [2,5,3,4,0] ?_;refine Ops.ef rfl (ef_call (tr_bFills b6 kb1 (.slice x1 D.o.length y1) (.slice x2 D.p.length y2) v3 v4 (.slice x5 D.t.length y5) (.slice x6 D.w.length y6) (.slice x7 D.s.length y7) (.slice (some ⟨sb,sp.length,none⟩) (planL D).length cpl) G D hvf hvo (by omega) (planL D) sb cpl sp sq (planL_len D) (plan_bd hp) (bs4 D n) A1 ad4 J4 hk4 (fun i _=>(let ⟨_,hr⟩:=reach5 D n i;hr.kx hsm0 hn1 hn2 hT))) rfl rfl) ?_;rintro _ _ ⟨_,_,⟨rfl,ad5,J5,hk5,rfl⟩,rfl,rfl⟩;refine Ops.app ?_;rw[show bRun (bs4 D n) (D.f.map (aF D.o (planL D)))=bs5 D n from rfl]at hk5 ⊢;refine zq [2,5,3,4,0] ?_;refine Ops.ef rfl (ef_call (tr_bThreads b6 kb1 (.slice x1 D.o.length y1) (.slice x2 D.p.length y2) v3 v4 (.slice x5 D.t.length y5) (.slice x6 D.w.length y6) (.slice x7 D.s.length y7) (.slice (some ⟨sb,sp.length,none⟩) (planL D).length cpl) G D hvt hvo (by omega) (bs5 D n) A1 ad5 J5 hk5 (fun i _=>(let ⟨_,hr⟩:=reach6 D n i;hr.kx hsm0 hn1 hn2 hT))) rfl rfl) ?_;rintro _ _ ⟨_,_,⟨rfl,ad6,J6,hk6,rfl⟩,rfl,rfl⟩;refine Ops.app ?_;rw[show bRun (bs5 D n) (D.t.map (aT D.o))=bs7 D n 0 from rfl]at hk6 ⊢;refine zq [2,5,3,3,4,6,8] ?_;refine Yp (pv_len_slice (T:=41) rfl rfl) ?_;refine zq [0,2,5,20] ?_;refine Wp.loopK (σ:=Nat×(Nat→Ad)×Hp) [(2,_),(11,_),(12,_),(92,_),(93,_)] (fun s=>[(94,.int .i64 s.1)]) (fun s=>(b6,.cells [pV kb1,.slice x1 D.o.length y1,.slice x2 D.p.length y2,v3,v4,.slice x5 D.t.length y5,.slice x6 D.w.length y6,.slice x7 D.s.length y7,.slice (some ⟨sb,sp.length,none⟩) (planL D).length cpl,.int .i64 (bs7 D n s.1).1].toArray 138)::(b5,.cells [pV kb1].toArray 56)::(b1,.cells [.slice x1 D.o.length y1,.slice x2 D.p.length y2,v3,v4,.slice x5 D.t.length y5,.slice x6 D.w.length y6,.slice x7 D.s.length y7].toArray 44)::(G++(s.2.2++F))) (fun s=>s.1≤D.w.length∧KH (bs7 D n s.1).2 A1 s.2.1 kb1 s.2.2) (fun s=>D.w.length-s.1) (0,ad6,J6) ⟨Nat.zero_le _,hk6⟩ ⟨rfl,rfl,rfl,rfl,rfl,trivial⟩ ⟨rfl,trivial⟩ (by intro w ho;(try dsimp only[Y2,Y1]);first | exact Drop.own ho | (dsimp only at ho ⊢;exact Drop.own ho)) ?_;rintro ⟨i,ad,L⟩ KK ⟨hi,hI⟩ hK;dsimp only[Y1,Y2]at hK ⊢;dsimp only at hi hI ⊢;refine zq [3,4,42,2,5,3] ?_;refine Yd rfl (fun h4=>?_) (fun h4=>?_)
 ·
  have hvw:=w6
  obtain ⟨e,he⟩:∃e,D.w[i]?=some e:=Y9;obtain ⟨bo,oo,co,cso,To,fo,hvo,hbo,hro⟩:=hvw.open (by omega);cases hvo;have hr0:=cel_reads hro he
  obtain ⟨a0,a1,a2,a3,he3⟩:=El.four rfl e;rw[show cE fsW e=[.int .i64 a0,.int .i64 a1,.int .i64 a2,.int .u64 a3] by unfold cE;rw[he3];rfl]at hr0;have en0:e.n 0=a0:=by unfold El.n;rw[he3];rfl
  have en1:e.n 1=a1:=by unfold El.n;rw[he3];rfl
  have en2:e.n 2=a2:=by unfold El.n;rw[he3];rfl
  have en3:e.n 3=a3:=by unfold El.n;rw[he3];rfl
  have hst:bs7 D n (i+1)=BA.go (bs7 D n i) (BA.wire a0 a1 a2 a3):=by rw[bs7_next n he];unfold aW;rw[en0,en1,en2,en3]
  refine zq [11,5,3,20,3,4] ?_;refine Yi rfl rfl (i) rfl ?_;refine Yp (pv_loadK _ rfl rfl rfl hr0) ?_;refine zA fun b10=>?_
  refine zq [14,2,5,4,0,73] ?_;refine zD (tr_bDo b6 kb1 (.slice x1 D.o.length y1) (.slice x2 D.p.length y2) v3 v4 (.slice x5 D.t.length y5) (.slice (some ⟨bo,oo,none⟩) D.w.length y6) (.slice x7 D.s.length y7) (.slice (some ⟨sb,sp.length,none⟩) (planL D).length cpl) (bs7 D n i) A1 ad L [(b5,.cells ([pV kb1]:List Value).toArray 56),(b10,.cells ([.int .i64 a0,.int .i64 a1,.int .i64 a2,.int .u64 a3]:List Value).toArray 122)] hI (BA.wire a0 a1 a2 a3) 46 [.pointer (some ⟨b5,0,none⟩),.pointer (some ⟨b10,0,none⟩)] (fun _=>tr_bWire1 b5 b10 (bs7 D n i).2 A1 ad kb1 L hI (let ⟨_,hr⟩:=reach7 D n i;hr.kx hsm0 hn1 hn2 hT) b6 (.slice x1 D.o.length y1) (.slice x2 D.p.length y2) v3 v4 (.slice x5 D.t.length y5) (.slice (some ⟨bo,oo,none⟩) D.w.length y6) (.slice x7 D.s.length y7) (.slice (some ⟨sb,sp.length,none⟩) (planL D).length cpl) a0 a1 a2 a3)) ?_;rintro _ _ ⟨rfl,ad7,J7,hk7,rfl⟩;refine Ops.app ?_;simp only[Y1,Y2];refine zq [2,19,5,4] ?_;refine Ya rfl rfl (i+1) ?_;refine zq [0,2,49] ?_;rw[←hst];refine Yy (hK (i+1,ad7,J7) ⟨by dsimp only;omega,by dsimp only;rw[hst];exact hk7⟩ (by dsimp only;omega))
 obtain rfl:i=D.w.length:=by omega
 rw[←bs8_0]at hI ⊢;refine zq [41,16,16,40,5,3,3,4,6,8] ?_;refine Yp (pv_len_slice (T:=40) rfl rfl) ?_;refine zq [0,2,5,20] ?_;refine Wp.loopK (σ:=Nat×(Nat→Ad)×Hp) [(11,_),(12,_),(103,_),(104,_)] (fun s=>[(105,.int .i64 s.1)]) (fun s=>(b6,.cells [pV kb1,.slice x1 D.o.length y1,.slice x2 D.p.length y2,v3,v4,.slice x5 D.t.length y5,.slice x6 D.w.length y6,.slice x7 D.s.length y7,.slice (some ⟨sb,sp.length,none⟩) (planL D).length cpl,.int .i64 (bs8 D n s.1).1].toArray 138)::(b5,.cells [pV kb1].toArray 56)::(G++(s.2.2++F))) (fun s=>s.1≤D.t.length∧KH (bs8 D n s.1).2 A1 s.2.1 kb1 s.2.2) (fun s=>D.t.length-s.1) (0,ad,L) ⟨Nat.zero_le _,hI⟩ ⟨rfl,rfl,rfl,rfl,trivial⟩ ⟨rfl,trivial⟩ (by intro w ho;(try dsimp only[Y2,Y1]);first | exact Drop.own ho | (dsimp only at ho ⊢;exact Drop.own ho)) ?_;rintro ⟨i,ad,L⟩ KK ⟨hi,hI⟩ hK;dsimp only[Y1,Y2]at hK ⊢;dsimp only at hi hI ⊢;refine zq [3,4,42,2,5,3] ?_;refine Yd rfl (fun h5=>?_) (fun h5=>?_)
 ·
  have hvw:=w5
  obtain ⟨e,he⟩:∃e,D.t[i]?=some e:=Y9;obtain ⟨bo,oo,co,cso,To,fo,hvo,hbo,hro⟩:=hvw.open (by omega);cases hvo;have hr0:=cel_reads hro he
  obtain ⟨a0,a1,a2,a3,a4,a5,a6,a7,he3⟩:=El.eight rfl e;rw[show cE fsT e=[.int .i64 a0,.int .i64 a1,.int .i64 a2,.int .i64 a3,.int .i64 a4,.int .u64 a5,.int .i64 a6,.int .i64 a7] by unfold cE;rw[he3];rfl]at hr0;have en0:e.n 0=a0:=by unfold El.n;rw[he3];rfl
  have en1:e.n 1=a1:=by unfold El.n;rw[he3];rfl
  have en2:e.n 2=a2:=by unfold El.n;rw[he3];rfl
  have en3:e.n 3=a3:=by unfold El.n;rw[he3];rfl
  have en4:e.n 4=a4:=by unfold El.n;rw[he3];rfl
  have en5:e.n 5=a5:=by unfold El.n;rw[he3];rfl
  have en6:e.n 6=a6:=by unfold El.n;rw[he3];rfl
  have en7:e.n 7=a7:=by unfold El.n;rw[he3];rfl
  have hst:bs8 D n (i+1)=BA.go (bs8 D n i) (BA.start a0):=by rw[bs8_next n he];unfold aS;rw[en0]
  refine zq [11,5,3,20,3,4] ?_;refine Yi rfl rfl (i) rfl ?_;refine Yp (pv_loadK _ rfl rfl rfl hr0) ?_;refine zA fun b11=>?_
  refine zq [14,2,5,4,0,73] ?_;refine zD (tr_bDo b6 kb1 (.slice x1 D.o.length y1) (.slice x2 D.p.length y2) v3 v4 (.slice (some ⟨bo,oo,none⟩) D.t.length y5) (.slice x6 D.w.length y6) (.slice x7 D.s.length y7) (.slice (some ⟨sb,sp.length,none⟩) (planL D).length cpl) (bs8 D n i) A1 ad L [(b5,.cells ([pV kb1]:List Value).toArray 56),(b11,.cells ([.int .i64 a0,.int .i64 a1,.int .i64 a2,.int .i64 a3,.int .i64 a4,.int .u64 a5,.int .i64 a6,.int .i64 a7]:List Value).toArray 67)] hI (BA.start a0) 48 [.pointer (some ⟨b5,0,none⟩),.pointer (some ⟨b11,0,none⟩)] (fun _=>tr_bStart1 b5 b11 (bs8 D n i).2 A1 ad kb1 L hI (let ⟨_,hr⟩:=reach8 D n i;hr.kx hsm0 hn1 hn2 hT) b6 (.slice x1 D.o.length y1) (.slice x2 D.p.length y2) v3 v4 (.slice (some ⟨bo,oo,none⟩) D.t.length y5) (.slice x6 D.w.length y6) (.slice x7 D.s.length y7) (.slice (some ⟨sb,sp.length,none⟩) (planL D).length cpl) a0 a1 a2 a3 a4 a5 a6 a7)) ?_;rintro _ _ ⟨rfl,ad8,J8,hk8,rfl⟩;refine Ops.app ?_;simp only[Y1,Y2];refine zq [2,19,5,4] ?_;refine Ya rfl rfl (i+1) ?_;refine zq [0,2,49] ?_;rw[←hst];refine Yy (hK (i+1,ad8,J8) ⟨by dsimp only;omega,by dsimp only;rw[hst];exact hk8⟩ (by dsimp only;omega))
 obtain rfl:i=D.t.length:=by omega
 have hfin:=bs8_all D n
 have hfin2:bootM D n=bs8 D n D.t.length:=by rw[hfin];exact bootM_ok hp hT
 rw[←hfin2]at hI ⊢;refine zq [41,16,16,40,5,3,3,4,0,9,6,8,27,2,5] ?_;refine Yd rfl (fun h6=>?_) (fun h6=>?_)
 ·
  refine Wp.seq ?_;refine AnyH.start [(b6,.cells [pV kb1,.slice x1 D.o.length y1,.slice x2 D.p.length y2,v3,v4,.slice x5 D.t.length y5,.slice x6 D.w.length y6,.slice x7 D.s.length y7,.slice (some ⟨sb,sp.length,none⟩) (planL D).length cpl,.int .i64 (bootM D n).1].toArray 138)] 6 rfl ?_;refine zd [0,1,1,3,2,0,3,2,4,5,5,5] ?_;refine YD ?_;refine zq [5,10,12] ?_;exact Ends.ret (L' := G) (res2 rfl rfl rfl) (.inl ⟨by assumption,rfl,rfl⟩)
 refine zq [11,5,3,4,8,1,1,2,5,10] ?_;exact Ends.ret (L' := L++G) (res2 rfl rfl rfl) (.inr ⟨Decidable.not_not.1 (by assumption),_,_,_,_,rfl,hI,rfl⟩)
theorem tr_boot(G:Hp)(D:Dd)(v1 v2 v3 v4 v5 v6 v7:Value)(hd:DV G D v1 v2 v3 v4 v5 v6 v7)(hsm:DSmall D)(n:Nat):Tr prog 15 [.agg #[v1,v2,v3,v4,v5,v6,v7],.int .i64 n] G (BootR D n G):=by
 by_cases hp:planE D n=0
 ·
  by_cases hT:tmsOk (timesD D)
  ·
   exact tr_bootK G D v1 v2 v3 v4 v5 v6 v7 hd hsm n hp hT
  exact tr_bootT G D v1 v2 v3 v4 v5 v6 v7 hd hsm n hp hT
 exact tr_bootP G D v1 v2 v3 v4 v5 v6 v7 hd hsm n hp
end
section
def labD (o:List (El fsO)) (n:Int):Int×Bool:=if n<0∨n≥o.length then (0,false) else (((o[n.toNat]?).map (fun e=>e.n 2)).getD 0,decide (0≤((o[n.toNat]?).map (fun e=>e.n 2)).getD 0∧((o[n.toNat]?).map (fun e=>e.n 2)).getD 0<8))
def sameD (o:List (El fsO)) (a b:Int):Bool:=(labD o a).2 && (labD o b).2 && decide ((labD o a).1=(labD o b).1)
def putQ (o:List (El fsO)) (e:El fsP):Bool:=decide (¬(e.n 2=1∨e.n 2=9∨e.n 2=10∨e.n 2=11)) && sameD o (e.n 0) (e.n 3)
def mapQ (o:List (El fsO)) (e:El fsM):Bool:=sameD o (e.n 0) (e.n 1)
def thrQ (o:List (El fsO)) (e:El fsT):Bool:=sameD o (e.n 0) (e.n 4) && (decide (e.n 7 = -1) || sameD o (e.n 0) (e.n 7))
def heldD (D:Dd):Bool:=D.p.all (putQ D.o) && D.m.all (mapQ D.o) && D.t.all (thrQ D.o)
def domO (o:List (El fsO)) (ts:List (El fsT)) (d:Int):Option Int:=ts.foldl (fun acc e=>if d=e.n 2 then some (labD o (e.n 0)).1 else acc) none
def fitD (x:Option Int) (l:Int):Bool:=match x with
  | none=>true
  | some was=>decide (was=l)
def domQ (o:List (El fsO)) (ts:List (El fsT)) (i:Nat):Bool:=match ts[i]? with
  | none=>true
  | some e=>fitD (domO o (ts.take i) (e.n 2)) (labD o (e.n 0)).1
def wirQ (o:List (El fsO)) (ts:List (El fsT)) (e:El fsW):Bool:=(labD o (e.n 2)).2 && fitD (domO o ts (e.n 1)) (labD o (e.n 2)).1
def rowQ (o:List (El fsO)) (ts:List (El fsT)) (i:Nat):Bool:=match o[i]? with
  | none=>true
  | some e=>decide (¬e.n 0=3) || ts.any (fun t=>decide ((i:Int)=t.n 0))
def namedD (D:Dd):Bool:=(List.range D.o.length).all (rowQ D.o D.t)
def apartD (D:Dd):Bool:=heldD D && (List.range D.t.length).all (domQ D.o D.t) && D.w.all (wirQ D.o D.t) && namedD D
def edgeD (o:List (El fsO)) (p:List Int) (a b may:Int):List Int :=
  if (labD o a).2=true∧(labD o b).2=true then p.set ((labD o a).1.toNat*8+(labD o b).1.toNat) (bitsI .or .i64 (p.getD ((labD o a).1.toNat*8+(labD o b).1.toNat) 0) may) else p
def polP (o:List (El fsO)) (p:List Int) (e:El fsP):List Int :=
  if e.n 2=4∨e.n 2=5∨e.n 2=6 then edgeD o p (e.n 0) (e.n 3) (bitsI .and .i64 (e.n 4) 7)
  else if e.n 2=1∨e.n 2=2∨e.n 2=3∨e.n 2=7∨e.n 2=8 then edgeD o p (e.n 0) (e.n 3) 8 else p
def polT (o:List (El fsO)) (p:List Int) (e:El fsT):List Int:=edgeD o (edgeD o p (e.n 0) (e.n 4) 8) (e.n 0) (e.n 7) 8
def policyD (D:Dd):List Int:=D.t.foldl (polT D.o) (D.p.foldl (polP D.o) (List.replicate 64 0))
section
variable{α:Type}{p:α→Bool}{l:List α}{i:Nat}{e:α}(he:l[i]?=some e)
include α p l i e he
theorem all_fail(h:p e=false):l.all p=false:=by
 rw[List.all_eq_false];exact ⟨e,List.mem_of_getElem? he,by rw[h];decide⟩
theorem all_more(h1:(l.take i).all p=true)(h:p e=true):(l.take (i+1)).all p=true:=by
 rw[take_at he,List.all_append,h1];simp[h]
end
theorem range_fail{p:Nat→Bool}{n i:Nat}(hi:i<n)(h:p i=false):(List.range n).all p=false:=by
 rw[List.all_eq_false];exact ⟨i,List.mem_range.2 hi,by rw[h];decide⟩
theorem range_all{p:Nat→Bool}{n:Nat}(h:∀i,i<n→p i=true):(List.range n).all p=true:=by
 rw[List.all_eq_true];intro i hi;exact h i (List.mem_range.1 hi)
section
variable{o:List (El fsO)}
include o
theorem domO_more{ts:List (El fsT)}{i:Nat}{e:El fsT}(he:ts[i]?=some e)(d:Int):domO o (ts.take (i+1)) d=if d=e.n 2 then some (labD o (e.n 0)).1 else domO o (ts.take i) d:=by
 unfold domO;rw[take_at he,List.foldl_append];rfl
theorem labD_no{n:Int}(h:n<0∨n≥o.length):labD o n=(0,false):=if_pos h
theorem labD_at{n:Int}{e:El fsO}(h:¬(n<0∨n≥o.length))(he:o[n.toNat]?=some e):labD o n=(e.n 2,decide (0≤e.n 2∧e.n 2<8)):=by unfold labD;rw[if_neg h,he];rfl
theorem labD_in{n:Int}(h:(labD o n).2=true):0≤(labD o n).1∧(labD o n).1<8:=by
 unfold labD at *
 split at h
 ·
  cases h
 ·
  rename_i h1;rw[if_neg h1];exact of_decide_eq_true h
end
section
variable(o:List (El fsO))(p:List Int)
include o p
theorem edgeD_len(a b may:Int):(edgeD o p a b may).length=p.length:=by unfold edgeD; split <;> simp
theorem polP_len(e:El fsP):(polP o p e).length=p.length:=by
 unfold polP;split
 ·
  exact edgeD_len ..
 ·
  split
  ·
   exact edgeD_len ..
  ·
   rfl
theorem polT_len(e:El fsT):(polT o p e).length=p.length:=by unfold polT;rw[edgeD_len,edgeD_len]
end
theorem fold_len{α:Type}{f:List Int→α→List Int}(hf:∀p e,(f p e).length=p.length):∀(l:List α) (p:List Int),(l.foldl f p).length=p.length
  | [],p=>rfl
  | e::l,p=>by rw[List.foldl_cons,fold_len hf l,hf]
theorem fold_more{α β:Type}{f:β→α→β}{l:List α}{i:Nat}{e:α}(he:l[i]?=some e)(p:β):(l.take (i+1)).foldl f p=f ((l.take i).foldl f p) e:=by rw[take_at he,List.foldl_append];rfl
end
section
section
variable(G:Hp)(o:List (El fsO))(v1 v2 v3 v4 v5 v6 v7:Value)(hvo:VSl G 3 v1 (cE fsO) o)
include G o v1 v2 v3 v4 v5 v6 v7 hvo
theorem tr_dLabel(n:Int):TrR prog 63 [.agg #[v1,v2,v3,v4,v5,v6,v7],.int .i64 n] (G) (.tuple #[.int .i64 (labD o n).1,.bool (labD o n).2]):=by
 obtain ⟨x1,y1,rfl,hvw⟩:=hvo;refine YR func63 ntmps63 fun W F=>?_
 refine Wr ?_;refine zB fun b1=>?_
 refine zq [1,1,2,5,3,3,4,0,42,0] ?_;refine Yn rfl rfl (fun hg=>pv_move rfl) ?_;refine Yn rfl rfl (fun hg=>Ys 10 rfl hg (pv_fieldAddr0 rfl rfl)) ?_;refine Yn rfl rfl (fun hg=>Ys 10 rfl hg (Ys 11 rfl hg (pv_load rfl rfl rfl))) ?_;refine Yn rfl rfl (fun hg=>Ys 10 rfl hg (Ys 11 rfl hg (Ys 12 rfl hg (pv_len_slice (T:=36) rfl rfl)))) ?_;refine Yn rfl rfl (fun hg=>Ys 10 rfl hg (Ys 11 rfl hg (Ys 12 rfl hg (Ys 13 rfl hg (pv_geq rfl rfl))))) ?_;refine zq [47,2,5] ?_;refine Yd rfl (fun h1=>?_) (fun h1=>?_)
 ·
  rw[labD_no (by omega)];refine zq [3,4,1,1,2,5,10,12] ?_;exact zr ⟨rfl,rfl⟩
 have hn0:¬(n<0∨n≥o.length):=by omega
 obtain ⟨e,he⟩:∃e,o[n.toNat]?=some e:=Y9;obtain ⟨bo,oo,co,cso,To,fo,hvo,hbo,hro⟩:=hvw.open (by omega);cases hvo;have hr0:=cel_reads hro he
 obtain ⟨a0,a1,a2,he3⟩:=El.three rfl e;rw[show cE fsO e=[.int .i64 a0,.int .i64 a1,.int .i64 a2] by unfold cE;rw[he3];rfl]at hr0;have en0:e.n 0=a0:=by unfold El.n;rw[he3];rfl
 have en1:e.n 1=a1:=by unfold El.n;rw[he3];rfl
 have en2:e.n 2=a2:=by unfold El.n;rw[he3];rfl
 have hny:nth cso (oo+n.toNat*3+2)=some (.int .i64 a2):=by rw[nth_eq];exact hr0.at_ 2 _ rfl
 rw[labD_at hn0 he,en2];refine zq [11,5,3,4,6,8,0] ?_;refine Yp (pv_indexAddr (i:=n.toNat) rfl rfl (by omega) (by omega)) ?_;refine zq [61] ?_;refine Yp (pv_load rfl rfl hny) ?_;refine zq [1,2,5,3,4,0,0,43,0] ?_;refine Yc rfl rfl (fun hg=>pv_move rfl) ?_;refine Yc rfl rfl (fun hg=>Ys 26 rfl hg (pv_lss rfl rfl)) ?_;refine zq [46,1,1,2,5,10] ?_;exact zr ⟨rfl,rfl⟩
theorem tr_dSame(a b:Int):TrR prog 122 [.agg #[v1,v2,v3,v4,v5,v6,v7],.int .i64 a,.int .i64 b] (G) (.bool (sameD o a b)):=by
 refine YR func122 ntmps122 fun W F=>?_
 refine Wr ?_;refine zB fun b1=>?_
 refine zq [1,2,5,3,4,36,0] ?_;refine zC (tr_dLabel G o v1 v2 v3 v4 v5 v6 v7 hvo a) ?_;refine zq [0,7,7,1,1,2,5,3,4,36,0] ?_;refine zC (tr_dLabel G o v1 v2 v3 v4 v5 v6 v7 hvo b) ?_;refine zq [0,7,7,1,1,2,5,3,4,0,0] ?_;refine Ops.splitb (t:=24) rfl (fun h1=>?_) (fun h1=>?_)
 ·
  refine zq [21,24,0] ?_;refine Ops.splitb (t:=27) rfl (fun h2=>?_) (fun h2=>?_)
  ·
   refine zq [21,21] ?_;refine Yg (pv_eql rfl rfl) ?_;refine zq [24,1,2,5,10] ?_;have hs:∀x y:Bool,True:=fun _ _=>trivial
   exact zs (h:=⟨by unfold sameD;simp_all,rfl⟩)
  refine zq [13,13,13,26,1,2,5,10] ?_;have hs:∀x y:Bool,True:=fun _ _=>trivial
  exact zs (h:=⟨by unfold sameD;simp_all,rfl⟩)
 refine zq [13,26,0,13,13,13,26,1,2,5,10] ?_;have hs:∀x y:Bool,True:=fun _ _=>trivial
 exact zs (h:=⟨by unfold sameD;simp_all,rfl⟩)
end
theorem tr_dHeld(G:Hp)(D:Dd)(v1 v2 v3 v4 v5 v6 v7:Value)(hd:DV G D v1 v2 v3 v4 v5 v6 v7)(hsm:DSmall D):TrR prog 62 [.agg #[v1,v2,v3,v4,v5,v6,v7]] (G) (.bool (heldD D)):=by
 have hvo:=hd.o
 obtain ⟨x1,y1,rfl,w1⟩:=hd.o;obtain ⟨x2,y2,rfl,w2⟩:=hd.p;obtain ⟨x3,y3,rfl,w3⟩:=hd.m;obtain ⟨x5,y5,rfl,w5⟩:=hd.t;obtain ⟨x6,y6,rfl,w6⟩:=hd.w;obtain ⟨hlo,hlp,hlm,hlf,hlt,hlw,hls⟩:=hsm;refine YR func62 ntmps62 fun W F=>?_
 refine Wr ?_;refine zB fun b1=>?_
 refine zq [1,2,5,3,3,4,6,8] ?_;refine Yp (pv_len_slice (T:=37) rfl rfl) ?_;refine zq [0,2,5,20] ?_;refine YL (σ:=Nat) [(1,_),(10,_),(11,_)] (fun s=>[(12,.int .i64 s)]) (fun s=>s≤D.p.length∧(D.p.take s).all (putQ D.o)=true) (fun s=>D.p.length-s) 0 ⟨Nat.zero_le _,rfl⟩ ?_;rintro i KK ⟨hi,hqp⟩ hK;dsimp only[Y1,Y2]at hK ⊢;refine zq [3,4,42,2,5,3] ?_;refine Yd rfl (fun h1=>?_) (fun h1=>?_)
 ·
  have hvw:=w2
  obtain ⟨e,he⟩:∃e,D.p[i]?=some e:=Y9;obtain ⟨bo,oo,co,cso,To,fo,hvo,hbo,hro⟩:=hvw.open (by omega);cases hvo;have hr0:=cel_reads hro he
  obtain ⟨a0,a1,a2,a3,a4,a5,a6,a7,he3⟩:=El.eight rfl e;rw[show cE fsP e=[.int .i64 a0,.int .i64 a1,.int .i64 a2,.int .i64 a3,.int .i64 a4,.int .u64 a5,.int .u64 a6,.int .i64 a7] by unfold cE;rw[he3];rfl]at hr0;have en0:e.n 0=a0:=by unfold El.n;rw[he3];rfl
  have en1:e.n 1=a1:=by unfold El.n;rw[he3];rfl
  have en2:e.n 2=a2:=by unfold El.n;rw[he3];rfl
  have en3:e.n 3=a3:=by unfold El.n;rw[he3];rfl
  have en4:e.n 4=a4:=by unfold El.n;rw[he3];rfl
  have en5:e.n 5=a5:=by unfold El.n;rw[he3];rfl
  have en6:e.n 6=a6:=by unfold El.n;rw[he3];rfl
  have en7:e.n 7=a7:=by unfold El.n;rw[he3];rfl
  refine zq [11,5,3,20,3,4] ?_;refine Yi rfl rfl (i) rfl ?_;refine Yp (pv_loadK _ rfl rfl rfl hr0) ?_;refine zA fun b2=>?_
  refine zq [14,2,5,3,3,4,6,61,8,2,5,20,3,3,4,22,1,2,5] ?_;refine Yd rfl (fun h2=>?_) (fun h2=>?_)
  ·
   refine zq [11,5,18,3,4,1,2,5,10,15,12,15,12,12,15,12] ?_;have hf:heldD D=false:=by unfold heldD;rw[all_fail (l:=D.p) (p:=putQ D.o) he (by first | exact hno | (unfold putQ;rw[en0,en2,en3];simp_all))];rfl
   rw[hf];exact zr ⟨rfl,rfl⟩
  refine zq [3,4,22,1,2,5] ?_;refine Yd rfl (fun h3=>?_) (fun h3=>?_)
  ·
   refine zq [11,5,18,3,4,1,2,5,10,15,12,15,12,12,15,12] ?_;have hf:heldD D=false:=by unfold heldD;rw[all_fail (l:=D.p) (p:=putQ D.o) he (by first | exact hno | (unfold putQ;rw[en0,en2,en3];simp_all))];rfl
   rw[hf];exact zr ⟨rfl,rfl⟩
  refine zq [3,4,22,1,2,5] ?_;refine Yd rfl (fun h4=>?_) (fun h4=>?_)
  ·
   refine zq [11,5,18,3,4,1,2,5,10,15,12,15,12,12,15,12] ?_;have hf:heldD D=false:=by unfold heldD;rw[all_fail (l:=D.p) (p:=putQ D.o) he (by first | exact hno | (unfold putQ;rw[en0,en2,en3];simp_all))];rfl
   rw[hf];exact zr ⟨rfl,rfl⟩
  refine zq [4,22,1,2,5] ?_;refine Yd rfl (fun h5=>?_) (fun h5=>?_)
  ·
   refine zq [3,4,1,2,5,10,15,12,15,12,12,15,12] ?_;have hf:heldD D=false:=by unfold heldD;rw[all_fail (l:=D.p) (p:=putQ D.o) he (by first | exact hno | (unfold putQ;rw[en0,en2,en3];simp_all))];rfl
   rw[hf];exact zr ⟨rfl,rfl⟩
  refine zq [11,19,5,3,4,36,6,6,8,6,61,8] ?_;refine zC (tr_dSame G D.o (.slice x1 D.o.length y1) (.slice (some ⟨bo,oo,none⟩) D.p.length y2) (.slice x3 D.m.length y3) v4 (.slice x5 D.t.length y5) (.slice x6 D.w.length y6) v7 hvo a0 a3) ?_;refine zq [39,2,5] ?_;refine Wp.cond_t rfl (fun h6=>?_) (fun h6=>?_)
  ·
   have hno:putQ D.o e=false:=by unfold putQ;rw[en0,en2,en3];simp_all
   refine zq [3,4,1,2,5,10,15,12,12,15,12] ?_;have hf:heldD D=false:=by unfold heldD;rw[all_fail (l:=D.p) (p:=putQ D.o) he (by first | exact hno | (unfold putQ;rw[en0,en2,en3];simp_all))];rfl
   rw[hf];exact zr ⟨rfl,rfl⟩
  have hyes:putQ D.o e=true:=by unfold putQ;rw[en0,en2,en3];simp_all
  refine zq [11,19,5,4] ?_;refine Ya rfl rfl (i+1) ?_;refine zq [0,2,49] ?_;refine Yy (hK (i+1) ⟨by omega,all_more he hqp hyes⟩ (by omega))
 obtain rfl:i=D.p.length:=by omega
 rw[List.take_length]at hqp;refine zq [41,16,16,40,5,3,3,4,6,8] ?_;refine Yp (pv_len_slice (T:=38) rfl rfl) ?_;refine zq [0,2,5,20] ?_;refine YL (σ:=Nat) [(1,_),(35,_),(36,_)] (fun s=>[(37,.int .i64 s)]) (fun s=>s≤D.m.length∧(D.m.take s).all (mapQ D.o)=true) (fun s=>D.m.length-s) 0 ⟨Nat.zero_le _,rfl⟩ ?_;rintro i KK ⟨hi,hqm⟩ hK;dsimp only[Y1,Y2]at hK ⊢;refine zq [3,4,42,2,5,3] ?_;refine Yd rfl (fun h7=>?_) (fun h7=>?_)
 ·
  have hvw:=w3
  obtain ⟨e,he⟩:∃e,D.m[i]?=some e:=Y9;obtain ⟨bo,oo,co,cso,To,fo,hvo,hbo,hro⟩:=hvw.open (by omega);cases hvo;have hr0:=cel_reads hro he
  obtain ⟨a0,a1,a2,a3,he3⟩:=El.four rfl e;rw[show cE fsM e=[.int .i64 a0,.int .i64 a1,.int .i64 a2,.bool (decide (a3=1))] by unfold cE;rw[he3];rfl]at hr0;have en0:e.n 0=a0:=by unfold El.n;rw[he3];rfl
  have en1:e.n 1=a1:=by unfold El.n;rw[he3];rfl
  have en2:e.n 2=a2:=by unfold El.n;rw[he3];rfl
  have en3:e.n 3=a3:=by unfold El.n;rw[he3];rfl
  refine zq [11,5,3,20,3,4] ?_;refine Yi rfl rfl (i) rfl ?_;refine Yp (pv_loadK _ rfl rfl rfl hr0) ?_;refine zA fun b3=>?_
  refine zq [14,2,5,3,4,36,6,8,6,8] ?_;refine zC (tr_dSame G D.o (.slice x1 D.o.length y1) (.slice x2 D.p.length y2) (.slice (some ⟨bo,oo,none⟩) D.m.length y3) v4 (.slice x5 D.t.length y5) (.slice x6 D.w.length y6) v7 hvo a0 a1) ?_;refine zq [39,2,5] ?_;refine Wp.cond_t rfl (fun h8=>?_) (fun h8=>?_)
  ·
   have hno:mapQ D.o e=false:=by unfold mapQ;rw[en0,en1];simp_all
   refine zq [3,4,1,2,5,10,15,12,12,15,12] ?_;have hf:heldD D=false:=by unfold heldD;rw[all_fail he hno,hqp];rfl
   rw[hf];exact zr ⟨rfl,rfl⟩
  have hyes:mapQ D.o e=true:=by unfold mapQ;rw[en0,en1];simp_all
  refine zq [11,19,5,4] ?_;refine Ya rfl rfl (i+1) ?_;refine zq [0,2,49] ?_;refine Yy (hK (i+1) ⟨by omega,all_more he hqm hyes⟩ (by omega))
 obtain rfl:i=D.m.length:=by omega
 rw[List.take_length]at hqm;refine zq [41,16,16,40,5,3,3,4,6,8] ?_;refine Yp (pv_len_slice (T:=40) rfl rfl) ?_;refine zq [0,2,5,20] ?_;refine YL (σ:=Nat) [(1,_),(50,_),(51,_)] (fun s=>[(52,.int .i64 s)]) (fun s=>s≤D.t.length∧(D.t.take s).all (thrQ D.o)=true) (fun s=>D.t.length-s) 0 ⟨Nat.zero_le _,rfl⟩ ?_;rintro i KK ⟨hi,hqt⟩ hK;dsimp only[Y1,Y2]at hK ⊢;refine zq [3,4,42,2,5,3] ?_;refine Yd rfl (fun h9=>?_) (fun h9=>?_)
 ·
  have hvw:=w5
  obtain ⟨e,he⟩:∃e,D.t[i]?=some e:=Y9;obtain ⟨bo,oo,co,cso,To,fo,hvo,hbo,hro⟩:=hvw.open (by omega);cases hvo;have hr0:=cel_reads hro he
  obtain ⟨a0,a1,a2,a3,a4,a5,a6,a7,he3⟩:=El.eight rfl e;rw[show cE fsT e=[.int .i64 a0,.int .i64 a1,.int .i64 a2,.int .i64 a3,.int .i64 a4,.int .u64 a5,.int .i64 a6,.int .i64 a7] by unfold cE;rw[he3];rfl]at hr0;have en0:e.n 0=a0:=by unfold El.n;rw[he3];rfl
  have en1:e.n 1=a1:=by unfold El.n;rw[he3];rfl
  have en2:e.n 2=a2:=by unfold El.n;rw[he3];rfl
  have en3:e.n 3=a3:=by unfold El.n;rw[he3];rfl
  have en4:e.n 4=a4:=by unfold El.n;rw[he3];rfl
  have en5:e.n 5=a5:=by unfold El.n;rw[he3];rfl
  have en6:e.n 6=a6:=by unfold El.n;rw[he3];rfl
  have en7:e.n 7=a7:=by unfold El.n;rw[he3];rfl
  refine zq [11,5,3,20,3,4] ?_;refine Yi rfl rfl (i) rfl ?_;refine Yp (pv_loadK _ rfl rfl rfl hr0) ?_;refine zA fun b4=>?_
  refine zq [14,2,5,3,4,36,6,8,6,8] ?_;refine zC (tr_dSame G D.o (.slice x1 D.o.length y1) (.slice x2 D.p.length y2) (.slice x3 D.m.length y3) v4 (.slice (some ⟨bo,oo,none⟩) D.t.length y5) (.slice x6 D.w.length y6) v7 hvo a0 a4) ?_;refine zq [39,0] ?_;refine Ops.splitb (t:=63) rfl (fun h10=>?_) (fun h10=>?_)
  ·
   refine zq [13,13,13,13] ?_;refine Ops.skipu rfl rfl rfl ?_;refine Ops.skipu rfl rfl rfl ?_;refine Ops.skipu rfl rfl rfl ?_;refine Ops.skipu rfl rfl rfl ?_;refine Ops.skipu rfl rfl rfl ?_;refine Ops.skipu rfl rfl rfl ?_;refine Ops.skipu rfl rfl rfl ?_;refine zq [13,24,2,5,18,3,4,1,2,5,10,15,12,12,15,12] ?_;have hf:heldD D=false:=by unfold heldD;rw[all_fail he (by first | exact hno | (unfold thrQ;rw[en0,en4,en7];simp_all)),hqp,hqm];rfl
   rw[hf];exact zr ⟨rfl,rfl⟩
  refine zq [50,51] ?_;refine Yg (pv_neq rfl rfl) ?_;refine zq [21] ?_;refine Ops.split (t:=67) rfl (fun h11=>?_) (fun h11=>?_)
  ·
   refine Yg (pv_loadK [_,_,_,_,_,_,_] rfl rfl rfl ⟨rfl,rfl,rfl,rfl,rfl,rfl,rfl,trivial⟩) ?_;refine zq [50,51,50,51] ?_;refine Yog (ef_callr (tr_dSame G D.o (.slice x1 D.o.length y1) (.slice x2 D.p.length y2) (.slice x3 D.m.length y3) v4 (.slice (some ⟨bo,oo,none⟩) D.t.length y5) (.slice x6 D.w.length y6) v7 hvo a0 a7) rfl rfl) ?_;refine zq [54] ?_;refine Yg (pv_pick_true rfl rfl) ?_;refine zq [26,2,5] ?_;refine Wp.cond_t rfl (fun h12=>?_) (fun h12=>?_)
   ·
    have hno:thrQ D.o e=false:=by unfold thrQ;rw[en0,en4,en7];simp_all
    refine zq [3,4,1,2,5,10,15,12,12,15,12] ?_;have hf:heldD D=false:=by unfold heldD;rw[all_fail he (by first | exact hno | (unfold thrQ;rw[en0,en4,en7];simp_all)),hqp,hqm];rfl
    rw[hf];exact zr ⟨rfl,rfl⟩
   have hyes:thrQ D.o e=true:=by unfold thrQ;rw[en0,en4,en7];simp_all
   refine zq [11,19,5,4] ?_;refine Ya rfl rfl (i+1) ?_;refine zq [0,2,49] ?_;refine Yy (hK (i+1) ⟨by omega,all_more he hqt (by first | exact hyes | (unfold thrQ;rw[en0,en4,en7];simp_all))⟩ (by omega))
  refine zq [13,13,13,13,13,13,13] ?_;refine Yg (pv_pick_false rfl rfl) ?_;refine zq [26,2,5,17,11,19,5,4] ?_;refine Ya rfl rfl (i+1) ?_;refine zq [0,2,49] ?_;refine Yy (hK (i+1) ⟨by omega,all_more he hqt (by first | exact hyes | (unfold thrQ;rw[en0,en4,en7];simp_all))⟩ (by omega))
 obtain rfl:i=D.t.length:=by omega
 rw[List.take_length]at hqt;refine zq [41,16,16,40,5,3,4,1,2,5,10] ?_;have hf:heldD D=true:=by unfold heldD;rw[hqp,hqm,hqt];rfl
 rw[hf];exact zr ⟨rfl,rfl⟩
theorem fitD_val(x:Option Int)(l:Int):fitD x l=!(x.isSome && decide (x.getD 0≠l)):=by
 unfold fitD;cases x with
 | none=>rfl
 | some y=>simp
theorem any_more{o:List (El fsT)}{i:Nat}{e:El fsT}(he:o[i]?=some e)(p:El fsT→Bool):(o.take (i+1)).any p=((o.take i).any p || p e):=by rw[take_at he,List.any_append];simp
section
variable(G:Hp)(D:Dd)(v1 v2 v3 v4 v5 v6 v7:Value)(hd:DV G D v1 v2 v3 v4 v5 v6 v7)(hsm:DSmall D)
include G D v1 v2 v3 v4 v5 v6 v7 hd hsm
theorem tr_dNamed:TrR prog 64 [.agg #[v1,v2,v3,v4,v5,v6,v7]] (G) (.bool (namedD D)):=by
 have hvo:=hd.o
 obtain ⟨x1,y1,rfl,w1⟩:=hd.o;obtain ⟨x2,y2,rfl,w2⟩:=hd.p;obtain ⟨x3,y3,rfl,w3⟩:=hd.m;obtain ⟨x5,y5,rfl,w5⟩:=hd.t;obtain ⟨x6,y6,rfl,w6⟩:=hd.w;obtain ⟨hlo,hlp,hlm,hlf,hlt,hlw,hls⟩:=hsm;refine YR func64 ntmps64 fun W F=>?_
 refine Wr ?_;refine zB fun b1=>?_
 refine zq [1,2,5,3,4] ?_;refine Ops.ef rfl (ef_makeMapE _root_.Go.SL.encI rfl rfl) ?_;rintro _ _ ⟨bm,rfl,rfl⟩;refine zq [1,2,5,3,3,4,6,8] ?_;refine Yp (pv_len_slice (T:=40) rfl rfl) ?_;refine zq [0,2,5,20] ?_;refine YM (σ:=Nat×List (Int×Value×Nat)×Nat) [(1,_),(3,_),(10,_),(11,_)] (fun s=>[(12,.int .i64 s.1)]) (fun s=>(bm,mapO _root_.Go.SL.encI s.2.1 s.2.2)::(b1,.cells [.slice x1 D.o.length y1,.slice x2 D.p.length y2,.slice x3 D.m.length y3,v4,.slice x5 D.t.length y5,.slice x6 D.w.length y6,v7].toArray 44)::(G++F)) (fun s=>s.1≤D.t.length∧∀x:Int,mget x s.2.1=if (D.t.take s.1).any (fun t=>decide (x=t.n 0))=true then some (.bool true) else none) (fun s=>D.t.length-s.1) (0,[],0) ⟨Nat.zero_le _,fun x=>rfl⟩ ?_;rintro ⟨i,kv,ck⟩ KK ⟨hi,hm⟩ hK;dsimp only[Y1,Y2]at hK ⊢;dsimp only at hi hm ⊢;refine zq [3,4,42,2,5,3] ?_;refine Yd rfl (fun h1=>?_) (fun h1=>?_)
 ·
  have hvw:=w5
  obtain ⟨e,he⟩:∃e,D.t[i]?=some e:=Y9;obtain ⟨bo,oo,co,cso,To,fo,hvo,hbo,hro⟩:=hvw.open (by omega);cases hvo;have hr0:=cel_reads hro he
  obtain ⟨a0,a1,a2,a3,a4,a5,a6,a7,he3⟩:=El.eight rfl e;rw[show cE fsT e=[.int .i64 a0,.int .i64 a1,.int .i64 a2,.int .i64 a3,.int .i64 a4,.int .u64 a5,.int .i64 a6,.int .i64 a7] by unfold cE;rw[he3];rfl]at hr0;have en0:e.n 0=a0:=by unfold El.n;rw[he3];rfl
  have en1:e.n 1=a1:=by unfold El.n;rw[he3];rfl
  have en2:e.n 2=a2:=by unfold El.n;rw[he3];rfl
  have en3:e.n 3=a3:=by unfold El.n;rw[he3];rfl
  have en4:e.n 4=a4:=by unfold El.n;rw[he3];rfl
  have en5:e.n 5=a5:=by unfold El.n;rw[he3];rfl
  have en6:e.n 6=a6:=by unfold El.n;rw[he3];rfl
  have en7:e.n 7=a7:=by unfold El.n;rw[he3];rfl
  refine zq [11,5,3,20,3,4] ?_;refine Yi rfl rfl (i) rfl ?_;refine Yp (pv_loadK _ rfl rfl rfl hr0) ?_;refine zA fun b2=>?_
  refine zq [14,2,5,4,0,6,8] ?_;refine Yo (ef_mapUpdate_i _ rfl rfl rfl) ?_;refine zq [2,19,5,4] ?_;refine Ya rfl rfl (i+1) ?_;refine zq [0,2,49] ?_;refine Yy (hK (i+1,mput a0 (.bool true) ck kv,mclk a0 kv ck) ⟨by dsimp only; omega,fun x=>by dsimp only; rw[mget_mput,hm x,any_more he,en0]; by_cases hx:x=a0 <;> simp[hx]⟩ (by dsimp only; omega))
 obtain rfl:i=D.t.length:=by omega
 rw[List.take_length]at hm;have hmv:∀x,(mget x kv).getD (.bool false)=.bool (D.t.any (fun t=>decide (x=t.n 0))):=fun x=>by rw[hm]; cases D.t.any (fun t=>decide (x=t.n 0)) <;> rfl
 refine zq [41,16,16,40,5,3,3,4,6,8] ?_;refine Yp (pv_len_slice (T:=36) rfl rfl) ?_;refine zq [0,2,5,20] ?_;refine YL (σ:=Nat) [(3,_),(21,_),(22,_)] (fun s=>[(23,.int .i64 s)]) (fun s=>s≤D.o.length∧∀j,j<s→rowQ D.o D.t j=true) (fun s=>D.o.length-s) 0 ⟨Nat.zero_le _,fun j h=>absurd h (by omega)⟩ ?_;rintro i KK ⟨hi,hr⟩ hK;dsimp only[Y1,Y2]at hK ⊢;refine zq [3,4,42,2,5,3] ?_;refine Yd rfl (fun h2=>?_) (fun h2=>?_)
 ·
  have hvw:=w1
  obtain ⟨e,he⟩:∃e,D.o[i]?=some e:=Y9;obtain ⟨bo,oo,co,cso,To,fo,hvo,hbo,hro⟩:=hvw.open (by omega);cases hvo;have hr0:=cel_reads hro he
  obtain ⟨a0,a1,a2,he3⟩:=El.three rfl e;rw[show cE fsO e=[.int .i64 a0,.int .i64 a1,.int .i64 a2] by unfold cE;rw[he3];rfl]at hr0;have en0:e.n 0=a0:=by unfold El.n;rw[he3];rfl
  have en1:e.n 1=a1:=by unfold El.n;rw[he3];rfl
  have en2:e.n 2=a2:=by unfold El.n;rw[he3];rfl
  refine zq [11,5,3,20,3,4,0] ?_;refine Yi rfl rfl (i) rfl ?_;refine Yp (pv_loadK _ rfl rfl rfl hr0) ?_;refine zA fun b3=>?_
  refine zq [1,14,2,5,3,4,6,8,22,0] ?_;refine Ops.split (t:=31) rfl (fun h3=>?_) (fun h3=>?_)
  ·
   refine zq [21,21] ?_;refine Yg (pv_lookup_i (i:Int) rfl rfl (hmv _)) ?_;refine zq [54,24,2,5] ?_;refine Wp.cond_t rfl (fun h4=>?_) (fun h4=>?_)
   ·
    have hno:rowQ D.o D.t i=false:=by unfold rowQ;rw[he];dsimp only;rw[en0];simp_all
    refine zq [3,4,1,2,5,10,15,12,12,15,12] ?_;rw[show namedD D=false from range_fail (i:=i) (by omega) hno];exact zr ⟨rfl,rfl⟩
   have hyes:rowQ D.o D.t i=true:=by unfold rowQ;rw[he];dsimp only;rw[en0];simp_all
   refine zq [11,19,5,4] ?_;refine Ya rfl rfl (i+1) ?_;refine zq [0,2,49] ?_;refine Yy (hK (i+1) ⟨by omega,fun j hj=>if e:j=i then e ▸ (by first | exact hyes | (unfold rowQ;rw[he];dsimp only;rw[en0];simp_all)) else hr j (by omega)⟩ (by omega))
  refine zq [13,13,13,13,26,2,5,17,11,19,5,4] ?_;refine Ya rfl rfl (i+1) ?_;refine zq [0,2,49] ?_;refine Yy (hK (i+1) ⟨by omega,fun j hj=>if e:j=i then e ▸ (by first | exact hyes | (unfold rowQ;rw[he];dsimp only;rw[en0];simp_all)) else hr j (by omega)⟩ (by omega))
 obtain rfl:i=D.o.length:=by omega
 refine zq [41,16,16,40,5,3,4,1,2,5,10] ?_;rw[show namedD D=true from range_all hr];exact zr ⟨rfl,rfl⟩
theorem tr_apart:TrR prog 26 [.agg #[v1,v2,v3,v4,v5,v6,v7]] (G) (.bool (apartD D)):=by
 have hsm0:=hsm
 have hvo:=hd.o
 obtain ⟨x1,y1,rfl,w1⟩:=hd.o;obtain ⟨x2,y2,rfl,w2⟩:=hd.p;obtain ⟨x3,y3,rfl,w3⟩:=hd.m;obtain ⟨x5,y5,rfl,w5⟩:=hd.t;obtain ⟨x6,y6,rfl,w6⟩:=hd.w;obtain ⟨hlo,hlp,hlm,hlf,hlt,hlw,hls⟩:=hsm;refine YR func26 ntmps26 fun W F=>?_
 refine Wr ?_;refine zB fun b1=>?_
 refine zq [1,2,5,3,3,4,36] ?_;refine zC (tr_dHeld G D (.slice x1 D.o.length y1) (.slice x2 D.p.length y2) (.slice x3 D.m.length y3) v4 (.slice x5 D.t.length y5) (.slice x6 D.w.length y6) v7 hd hsm0) ?_;refine zq [39,2,5] ?_;refine Wp.cond_t rfl (fun h1=>?_) (fun h1=>?_)
 ·
  have hh:heldD D=false:=by simp_all
  refine zq [3,4,1,2,5,10,12] ?_;rw[show apartD D=false by unfold apartD;rw[hh];rfl];exact zr ⟨rfl,rfl⟩
 have hh:heldD D=true:=by simp_all
 refine zq [11,5,3,4] ?_;refine Ops.ef rfl (ef_makeMapE _root_.Go.SL.encI rfl rfl) ?_;rintro _ _ ⟨bm,rfl,rfl⟩;refine zq [1,2,5,3,3,4,6,8] ?_;refine Yp (pv_len_slice (T:=40) rfl rfl) ?_;refine zq [0,2,5,20] ?_;refine YM (σ:=Nat×List (Int×Value×Nat)×Nat) [(1,_),(3,_),(21,_),(22,_)] (fun s=>[(23,.int .i64 s.1)]) (fun s=>(bm,mapO _root_.Go.SL.encI s.2.1 s.2.2)::(b1,.cells [.slice x1 D.o.length y1,.slice x2 D.p.length y2,.slice x3 D.m.length y3,v4,.slice x5 D.t.length y5,.slice x6 D.w.length y6,v7].toArray 44)::(G++F)) (fun s=>s.1≤D.t.length∧(∀d:Int,mget d s.2.1=(domO D.o (D.t.take s.1) d).map (fun x=>Value.int .i64 x))∧∀j,j<s.1→domQ D.o D.t j=true) (fun s=>D.t.length-s.1) (0,[],0) ⟨Nat.zero_le _,fun x=>rfl,fun j h=>absurd h (by dsimp only;omega)⟩ ?_;rintro ⟨i,kv,ck⟩ KK ⟨hi,hm,hr⟩ hK;dsimp only[Y1,Y2]at hK ⊢;dsimp only at hi hm hr ⊢;refine zq [3,4,42,2,5,3] ?_;refine Yd rfl (fun h2=>?_) (fun h2=>?_)
 ·
  have hvw:=w5
  obtain ⟨e,he⟩:∃e,D.t[i]?=some e:=Y9;obtain ⟨bo,oo,co,cso,To,fo,hvo,hbo,hro⟩:=hvw.open (by omega);cases hvo;have hr0:=cel_reads hro he
  obtain ⟨a0,a1,a2,a3,a4,a5,a6,a7,he3⟩:=El.eight rfl e;rw[show cE fsT e=[.int .i64 a0,.int .i64 a1,.int .i64 a2,.int .i64 a3,.int .i64 a4,.int .u64 a5,.int .i64 a6,.int .i64 a7] by unfold cE;rw[he3];rfl]at hr0;have en0:e.n 0=a0:=by unfold El.n;rw[he3];rfl
  have en1:e.n 1=a1:=by unfold El.n;rw[he3];rfl
  have en2:e.n 2=a2:=by unfold El.n;rw[he3];rfl
  have en3:e.n 3=a3:=by unfold El.n;rw[he3];rfl
  have en4:e.n 4=a4:=by unfold El.n;rw[he3];rfl
  have en5:e.n 5=a5:=by unfold El.n;rw[he3];rfl
  have en6:e.n 6=a6:=by unfold El.n;rw[he3];rfl
  have en7:e.n 7=a7:=by unfold El.n;rw[he3];rfl
  have hv1:∀d,(mget d kv).getD (.int .i64 0)=.int .i64 ((domO D.o (D.t.take i) d).getD 0):=fun d=>by rw[hm]; cases domO D.o (D.t.take i) d <;> rfl
  have hv2:∀d,(mget d kv).isSome=(domO D.o (D.t.take i) d).isSome:=fun d=>by rw[hm]; cases domO D.o (D.t.take i) d <;> rfl
  refine zq [11,5,3,20,3,4] ?_;refine Yi rfl rfl (i) rfl ?_;refine Yp (pv_loadK _ rfl rfl rfl hr0) ?_;refine zA fun b2=>?_
  refine zq [14,2,5,3,4,36,6,8] ?_;refine zC (tr_dLabel G D.o (.slice x1 D.o.length y1) (.slice x2 D.p.length y2) (.slice x3 D.m.length y3) v4 (.slice (some ⟨bo,oo,none⟩) D.t.length y5) (.slice x6 D.w.length y6) v7 hvo a0) ?_;refine zq [0,7,7,1,1,2,5,3,3,4,0,6,8] ?_;refine Yp (pv_lookup_ok_i a2 rfl rfl (hv1 _) (hv2 _)) ?_;refine zq [0,7,7,1,1,2,5,3,4,0,0] ?_;refine Ops.splitb (t:=42) rfl (fun h3=>?_) (fun h3=>?_)
  ·
   refine zq [21,21] ?_;refine Yg (pv_neq rfl rfl) ?_;refine zq [24,2,5] ?_;refine Wp.cond_t rfl (fun h4=>?_) (fun h4=>?_)
   ·
    have hno:domQ D.o D.t i=false:=by unfold domQ;rw[he];dsimp only;rw[fitD_val,en0,en2];simp_all
    refine zq [3,4,1,2,5,10,12,15,12,12,15,12] ?_;rw[show apartD D=false by unfold apartD;rw[hh,range_fail (p:=domQ D.o D.t) (i:=i) (by omega) hno];rfl];exact zr ⟨rfl,rfl⟩
   have hyes:domQ D.o D.t i=true:=by unfold domQ;rw[he];dsimp only;rw[fitD_val,en0,en2];simp_all
   refine zq [11,5,4,0,6,8,0] ?_;refine Yo (ef_mapUpdate_i _ rfl rfl rfl) ?_;refine zq [2,19,5,4] ?_;refine Ya rfl rfl (i+1) ?_;refine zq [0,2,49] ?_;refine Yy (hK (i+1,mput a2 (.int .i64 (labD D.o a0).1) ck kv,mclk a2 kv ck) ⟨by dsimp only; omega,fun x=>by dsimp only; rw[mget_mput,hm x,domO_more he,en0,en2]; by_cases hx:x=a2 <;> simp[hx],fun j hj=>if e:j=i then e ▸ (by first | exact hyes | (unfold domQ; rw[he]; dsimp only; rw[fitD_val,en0,en2]; simp_all)) else hr j (by dsimp only at hj; omega)⟩ (by dsimp only; omega))
  refine zq [13,13,13,26,2,5,17,11,5,4,0,6,8,0] ?_;refine Yo (ef_mapUpdate_i _ rfl rfl rfl) ?_;refine zq [2,19,5,4] ?_;refine Ya rfl rfl (i+1) ?_;refine zq [0,2,49] ?_;refine Yy (hK (i+1,mput a2 (.int .i64 (labD D.o a0).1) ck kv,mclk a2 kv ck) ⟨by dsimp only; omega,fun x=>by dsimp only; rw[mget_mput,hm x,domO_more he,en0,en2]; by_cases hx:x=a2 <;> simp[hx],fun j hj=>if e:j=i then e ▸ (by first | exact hyes | (unfold domQ; rw[he]; dsimp only; rw[fitD_val,en0,en2]; simp_all)) else hr j (by dsimp only at hj; omega)⟩ (by dsimp only; omega))
 obtain rfl:i=D.t.length:=by omega
 rw[List.take_length]at hm;have hv1:∀d,(mget d kv).getD (.int .i64 0)=.int .i64 ((domO D.o D.t d).getD 0):=fun d=>by rw[hm]; cases domO D.o D.t d <;> rfl
 have hv2:∀d,(mget d kv).isSome=(domO D.o D.t d).isSome:=fun d=>by rw[hm]; cases domO D.o D.t d <;> rfl
 have hq:(List.range D.t.length).all (domQ D.o D.t)=true:=range_all hr
 refine zq [41,16,16,40,5,3,3,4,6,8] ?_;refine Yp (pv_len_slice (T:=41) rfl rfl) ?_;refine zq [0,2,5,20] ?_;refine YL (σ:=Nat) [(1,_),(3,_),(53,_),(54,_)] (fun s=>[(55,.int .i64 s)]) (fun s=>s≤D.w.length∧(D.w.take s).all (wirQ D.o D.t)=true) (fun s=>D.w.length-s) 0 ⟨Nat.zero_le _,rfl⟩ ?_;rintro i KK ⟨hi,hqw⟩ hK;dsimp only[Y1,Y2]at hK ⊢;refine zq [3,4,42,2,5,3] ?_;refine Yd rfl (fun h5=>?_) (fun h5=>?_)
 ·
  have hvw:=w6
  obtain ⟨e,he⟩:∃e,D.w[i]?=some e:=Y9;obtain ⟨bo,oo,co,cso,To,fo,hvo,hbo,hro⟩:=hvw.open (by omega);cases hvo;have hr0:=cel_reads hro he
  obtain ⟨a0,a1,a2,a3,he3⟩:=El.four rfl e;rw[show cE fsW e=[.int .i64 a0,.int .i64 a1,.int .i64 a2,.int .u64 a3] by unfold cE;rw[he3];rfl]at hr0;have en0:e.n 0=a0:=by unfold El.n;rw[he3];rfl
  have en1:e.n 1=a1:=by unfold El.n;rw[he3];rfl
  have en2:e.n 2=a2:=by unfold El.n;rw[he3];rfl
  have en3:e.n 3=a3:=by unfold El.n;rw[he3];rfl
  refine zq [11,5,3,20,3,4] ?_;refine Yi rfl rfl (i) rfl ?_;refine Yp (pv_loadK _ rfl rfl rfl hr0) ?_;refine zA fun b3=>?_
  refine zq [14,2,5,3,4,36,6,8] ?_;refine zC (tr_dLabel G D.o (.slice x1 D.o.length y1) (.slice x2 D.p.length y2) (.slice x3 D.m.length y3) v4 (.slice x5 D.t.length y5) (.slice (some ⟨bo,oo,none⟩) D.w.length y6) v7 hvo a2) ?_;refine zq [0,7,7,1,1,2,5,3,4,0,6,8] ?_;refine Yp (pv_lookup_ok_i a1 rfl rfl (hv1 _) (hv2 _)) ?_;refine zq [0,7,7,1,1,2,5,3,4,0,39,0] ?_;refine Ops.splitb (t:=75) rfl (fun h6=>?_) (fun h6=>?_)
  ·
   refine zq [13,13] ?_;refine Ops.skipu rfl rfl rfl ?_;refine Ops.skipu rfl rfl rfl ?_;refine Ops.skipu rfl rfl rfl ?_;refine zq [13,24,2,5,18,3,4,1,2,5,10,15,12,12,15,12] ?_;rw[show apartD D=false by unfold apartD;rw[hh,hq,all_fail he (by first | exact hno | (unfold wirQ;rw[fitD_val,en1,en2];simp_all))];rfl];exact zr ⟨rfl,rfl⟩
  refine zq [21,21] ?_;refine Ops.splitb (t:=77) rfl (fun h7=>?_) (fun h7=>?_)
  ·
   refine zq [21,21] ?_;refine Yg (pv_neq rfl rfl) ?_;refine Yg (pv_pick_true rfl rfl) ?_;refine zq [26,2,5] ?_;refine Wp.cond_t rfl (fun h8=>?_) (fun h8=>?_)
   ·
    have hno:wirQ D.o D.t e=false:=by unfold wirQ;rw[fitD_val,en1,en2];simp_all
    refine zq [3,4,1,2,5,10,15,12,12,15,12] ?_;rw[show apartD D=false by unfold apartD;rw[hh,hq,all_fail he (by first | exact hno | (unfold wirQ;rw[fitD_val,en1,en2];simp_all))];rfl];exact zr ⟨rfl,rfl⟩
   have hyes:wirQ D.o D.t e=true:=by unfold wirQ;rw[fitD_val,en1,en2];simp_all
   refine zq [11,19,5,4] ?_;refine Ya rfl rfl (i+1) ?_;refine zq [0,2,49] ?_;refine Yy (hK (i+1) ⟨by omega,all_more he hqw (by first | exact hyes | (unfold wirQ;rw[fitD_val,en1,en2];simp_all))⟩ (by omega))
  refine zq [13,13,13] ?_;refine Yg (pv_pick_false rfl rfl) ?_;refine zq [26,2,5,17,11,19,5,4] ?_;refine Ya rfl rfl (i+1) ?_;refine zq [0,2,49] ?_;refine Yy (hK (i+1) ⟨by omega,all_more he hqw (by first | exact hyes | (unfold wirQ;rw[fitD_val,en1,en2];simp_all))⟩ (by omega))
 obtain rfl:i=D.w.length:=by omega
 rw[List.take_length]at hqw;refine zq [41,16,16,40,5,3,4,36] ?_;refine zC (tr_dNamed G D (.slice x1 D.o.length y1) (.slice x2 D.p.length y2) (.slice x3 D.m.length y3) v4 (.slice x5 D.t.length y5) (.slice x6 D.w.length y6) v7 hd hsm0) ?_;refine zq [1,2,5,10] ?_;rw[show apartD D=namedD D by unfold apartD;rw[hh,hq,hqw];rfl];exact zr ⟨rfl,rfl⟩
end
theorem ints_putN{l:List Int}{i:Nat}(x:Int)(h:i<l.length):SetL (intsC l) i [.int .i64 x] (intsC (l.set i x)):=by
 have:=ints_put x h;rwa [Nat.zero_add,Nat.mul_one]at this
theorem ints_atN{l:List Int}{i:Nat}(h:i<l.length):nth (intsC l) i=some (.int .i64 (l.getD i 0)):=by
 rw[nth_eq,List.getD_eq_getElem?_getD];simp[intsC,h]
theorem reads_all(l:List Value):Reads l 0 l:=by rw[reads_iff];intro j v h;rw[Nat.zero_add];exact h
instance tyZ99:TyZ prog 99 (.agg [.int .i64 0,.int .i64 0,.int .i64 0,.int .i64 0,.int .i64 0,.int .i64 0,.int .i64 0,.int .i64 0,.int .i64 0,.int .i64 0,.int .i64 0,.int .i64 0,.int .i64 0,.int .i64 0,.int .i64 0,.int .i64 0,.int .i64 0,.int .i64 0,.int .i64 0,.int .i64 0,.int .i64 0,.int .i64 0,.int .i64 0,.int .i64 0,.int .i64 0,.int .i64 0,.int .i64 0,.int .i64 0,.int .i64 0,.int .i64 0,.int .i64 0,.int .i64 0,.int .i64 0,.int .i64 0,.int .i64 0,.int .i64 0,.int .i64 0,.int .i64 0,.int .i64 0,.int .i64 0,.int .i64 0,.int .i64 0,.int .i64 0,.int .i64 0,.int .i64 0,.int .i64 0,.int .i64 0,.int .i64 0,.int .i64 0,.int .i64 0,.int .i64 0,.int .i64 0,.int .i64 0,.int .i64 0,.int .i64 0,.int .i64 0,.int .i64 0,.int .i64 0,.int .i64 0,.int .i64 0,.int .i64 0,.int .i64 0,.int .i64 0,.int .i64 0].toArray):=⟨by kernel_rfl⟩
theorem tr_polEdge(db pb:Nat)(G:Hp)(o:List (El fsO))(v1 v2 v3 v4 v5 v6 v7:Value)(hvo:VSl G 3 v1 (cE fsO) o)(p:List Int)(hp:p.length=64)(a b may:Int):Tr prog 65 [.int .i64 a,.int .i64 b,.int .i64 may,.pointer (some ⟨db,0,none⟩),.pointer (some ⟨pb,0,none⟩)] ((db,.cells [v1,v2,v3,v4,v5,v6,v7].toArray 44)::(pb,.cells (intsC (p)).toArray 99)::G) (fun u L' => u=.tuple #[]∧L' = (db,.cells [v1,v2,v3,v4,v5,v6,v7].toArray 44)::(pb,.cells (intsC (edgeD o p a b may)).toArray 99)::G):=by
 refine YR func65 ntmps65 fun W F=>?_
 refine zq [3,4,36,0] ?_;refine zC (tr_dLabel G o v1 v2 v3 v4 v5 v6 v7 hvo a) ?_;refine zq [0,7,7,1,1,2,5,3,4,36,0] ?_;refine zC (tr_dLabel G o v1 v2 v3 v4 v5 v6 v7 hvo b) ?_;refine zq [0,7,7,1,1,2,5,3,4,0,0] ?_;refine Ops.splitb (t:=25) rfl (fun h1=>?_) (fun h1=>?_)
 ·
  refine zq [21,24,2,5] ?_;refine Wp.cond_t rfl (fun h2=>?_) (fun h2=>?_)
  ·
   have hab:(labD o a).2=true∧(labD o b).2=true:=by simp_all
   have ha8:=labD_in hab.1
   have hb8:=labD_in hab.2
   haveI hs1:SetL (intsC p) ((labD o a).1.toNat*8+(labD o b).1.toNat) [.int .i64 (bitsI .or .i64 (p.getD ((labD o a).1.toNat*8+(labD o b).1.toNat) 0) may)] (intsC (edgeD o p a b may)):=by unfold edgeD;rw[if_pos hab];exact ints_putN _ (by omega)
   refine AnyH.start ([]:Hp) 10 rfl ?_;refine zd [0,1,1,1] ?_;refine Yh 2 rfl (pv_indexAddrN (i:=(labD o a).1.toNat) (o2:=(labD o a).1.toNat*8) rfl rfl (by omega) (by omega) (by omega)) ?_;refine Yh 3 rfl (pv_indexAddrN (i:=(labD o b).1.toNat) (o2:=((labD o a).1.toNat*8+(labD o b).1.toNat)) rfl rfl (by omega) (by omega) (by omega)) ?_;refine zd [5,1] ?_;refine Yh 7 rfl (pv_indexAddrN (i:=(labD o a).1.toNat) (o2:=(labD o a).1.toNat*8) rfl rfl (by omega) (by omega) (by omega)) ?_;refine YA 4 ?_;refine Yv rfl rfl (pv_load rfl rfl (ints_atN (by omega))) ?_;refine Yh 6 rfl (pv_or rfl rfl rfl) ?_;refine Yh 8 rfl (pv_indexAddrN (i:=(labD o b).1.toNat) (o2:=((labD o a).1.toNat*8+(labD o b).1.toNat)) rfl rfl (by omega) (by omega) (by omega)) ?_;refine z1 9 ?_;refine YD ?_;exact zf (L' := (db,.cells [v1,v2,v3,v4,v5,v6,v7].toArray 44)::(pb,.cells (intsC (edgeD o p a b may)).toArray 99)::G) ⟨rfl,rfl⟩
  have hab:¬((labD o a).2=true∧(labD o b).2=true):=by simp_all
  refine Wp.skip ?_;rw[show edgeD o p a b may=p from if_neg (by first | exact hab | simp_all)];exact zf (L' := (db,.cells [v1,v2,v3,v4,v5,v6,v7].toArray 44)::(pb,.cells (intsC (p)).toArray 99)::G) ⟨rfl,rfl⟩
 refine zq [13,26,2,5,17,11] ?_;rw[show edgeD o p a b may=p from if_neg (by first | exact hab | simp_all)];exact zf (L' := (db,.cells [v1,v2,v3,v4,v5,v6,v7].toArray 44)::(pb,.cells (intsC (p)).toArray 99)::G) ⟨rfl,rfl⟩
theorem tr_policy(G:Hp)(D:Dd)(v1 v2 v3 v4 v5 v6 v7:Value)(hd:DV G D v1 v2 v3 v4 v5 v6 v7)(hsm:DSmall D):TrR prog 27 [.agg #[v1,v2,v3,v4,v5,v6,v7]] (G) (.agg (intsC (policyD D)).toArray):=by
 have hvo:=hd.o
 obtain ⟨x1,y1,rfl,w1⟩:=hd.o;obtain ⟨x2,y2,rfl,w2⟩:=hd.p;obtain ⟨x3,y3,rfl,w3⟩:=hd.m;obtain ⟨x5,y5,rfl,w5⟩:=hd.t;obtain ⟨x6,y6,rfl,w6⟩:=hd.w;obtain ⟨hlo,hlp,hlm,hlf,hlt,hlw,hls⟩:=hsm;refine YR func27 ntmps27 fun W F=>?_
 refine Wr ?_;refine zB fun b1=>?_
 refine zA fun b2=>?_
 refine zq [2,5,3,4,73,1,2,5,3,3,4,6,8] ?_;refine Yp (pv_len_slice (T:=37) rfl rfl) ?_;refine zq [0,2,5,20] ?_;refine Wp.loopK (σ:=Nat) [(1,_),(2,_),(3,_),(11,_),(12,_)] (fun s=>[(13,.int .i64 s)]) (fun s=>(b2,.cells (intsC ((D.p.take s).foldl (polP D.o) (List.replicate 64 0))).toArray 99)::(b1,.cells [.slice x1 D.o.length y1,.slice x2 D.p.length y2,.slice x3 D.m.length y3,v4,.slice x5 D.t.length y5,.slice x6 D.w.length y6,v7].toArray 44)::(G++F)) (fun s=>s≤D.p.length) (fun s=>D.p.length-s) 0 (Nat.zero_le _) ⟨rfl,rfl,rfl,rfl,rfl,trivial⟩ ⟨rfl,trivial⟩ (by intro w ho;exact ho) ?_;rintro i KK hi hK;dsimp only[Y1,Y2]at hK ⊢;refine zq [3,4,42,2,5,3] ?_;refine Yd rfl (fun h1=>?_) (fun h1=>?_)
 ·
  have hvw:=w2
  obtain ⟨e,he⟩:∃e,D.p[i]?=some e:=Y9;obtain ⟨bo,oo,co,cso,To,fo,hvo,hbo,hro⟩:=hvw.open (by omega);cases hvo;have hr0:=cel_reads hro he
  obtain ⟨a0,a1,a2,a3,a4,a5,a6,a7,he3⟩:=El.eight rfl e;rw[show cE fsP e=[.int .i64 a0,.int .i64 a1,.int .i64 a2,.int .i64 a3,.int .i64 a4,.int .u64 a5,.int .u64 a6,.int .i64 a7] by unfold cE;rw[he3];rfl]at hr0;have en0:e.n 0=a0:=by unfold El.n;rw[he3];rfl
  have en1:e.n 1=a1:=by unfold El.n;rw[he3];rfl
  have en2:e.n 2=a2:=by unfold El.n;rw[he3];rfl
  have en3:e.n 3=a3:=by unfold El.n;rw[he3];rfl
  have en4:e.n 4=a4:=by unfold El.n;rw[he3];rfl
  have en5:e.n 5=a5:=by unfold El.n;rw[he3];rfl
  have en6:e.n 6=a6:=by unfold El.n;rw[he3];rfl
  have en7:e.n 7=a7:=by unfold El.n;rw[he3];rfl
  have hpl:((D.p.take i).foldl (polP D.o) (List.replicate 64 0)).length=64:=by rw[fold_len (polP_len D.o),List.length_replicate]
  refine zq [11,5,3,20,3,4] ?_;refine Yi rfl rfl (i) rfl ?_;refine Yp (pv_loadK _ rfl rfl rfl hr0) ?_;refine zA fun b3=>?_
  refine zq [14,2,5,3,4,6,32] ?_;refine zA fun b4=>?_
  refine zq [14,2,5,3,4,6,8,2,5,20,3,3,4,22,1,2,5] ?_;refine Yd rfl (fun h2=>?_) (fun h2=>?_)
  ·
   refine zq [11,5,18,4,0,6,6,8,6,8,6,8] ?_;refine Yp (pv_and rfl rfl rfl) ?_;refine Ops.ef rfl (ef_callf rfl rfl (tr_polEdge b1 b2 G D.o (.slice x1 D.o.length y1) (.slice (some ⟨bo,oo,none⟩) D.p.length y2) (.slice x3 D.m.length y3) v4 (.slice x5 D.t.length y5) (.slice x6 D.w.length y6) v7 hvo ((D.p.take i).foldl (polP D.o) (List.replicate 64 0)) hpl a0 a3 (bitsI .and .i64 a4 7)) rfl) ?_;rintro _ _ ⟨_,_,⟨rfl,rfl⟩,rfl,rfl⟩;refine Ops.app ?_;refine zq [2,19,19,5,4] ?_;refine Ya rfl rfl (i+1) ?_;refine zq [0,2,49] ?_;have hst:(D.p.take (i+1)).foldl (polP D.o) (List.replicate 64 0)=edgeD D.o ((D.p.take i).foldl (polP D.o) (List.replicate 64 0)) a0 a3 (bitsI .and .i64 a4 7):=by rw[fold_more he];unfold polP;rw[en0,en2,en3,en4];rw[if_pos (by omega)]
   rw[←hst];refine Yy (hK (i+1) (by omega) (by omega))
  refine zq [3,4,22,1,2,5] ?_;refine Yd rfl (fun h3=>?_) (fun h3=>?_)
  ·
   refine zq [11,5,18,4,0,6,6,8,6,8,6,8] ?_;refine Yp (pv_and rfl rfl rfl) ?_;refine Ops.ef rfl (ef_callf rfl rfl (tr_polEdge b1 b2 G D.o (.slice x1 D.o.length y1) (.slice (some ⟨bo,oo,none⟩) D.p.length y2) (.slice x3 D.m.length y3) v4 (.slice x5 D.t.length y5) (.slice x6 D.w.length y6) v7 hvo ((D.p.take i).foldl (polP D.o) (List.replicate 64 0)) hpl a0 a3 (bitsI .and .i64 a4 7)) rfl) ?_;rintro _ _ ⟨_,_,⟨rfl,rfl⟩,rfl,rfl⟩;refine Ops.app ?_;refine zq [2,19,19,5,4] ?_;refine Ya rfl rfl (i+1) ?_;refine zq [0,2,49] ?_;have hst:(D.p.take (i+1)).foldl (polP D.o) (List.replicate 64 0)=edgeD D.o ((D.p.take i).foldl (polP D.o) (List.replicate 64 0)) a0 a3 (bitsI .and .i64 a4 7):=by rw[fold_more he];unfold polP;rw[en0,en2,en3,en4];rw[if_pos (by omega)]
   rw[←hst];refine Yy (hK (i+1) (by omega) (by omega))
  refine zq [4,22,1,2,5] ?_;refine Yd rfl (fun h4=>?_) (fun h4=>?_)
  ·
   refine zq [4,0,6,6,8,6,8,6,8] ?_;refine Yp (pv_and rfl rfl rfl) ?_;refine Ops.ef rfl (ef_callf rfl rfl (tr_polEdge b1 b2 G D.o (.slice x1 D.o.length y1) (.slice (some ⟨bo,oo,none⟩) D.p.length y2) (.slice x3 D.m.length y3) v4 (.slice x5 D.t.length y5) (.slice x6 D.w.length y6) v7 hvo ((D.p.take i).foldl (polP D.o) (List.replicate 64 0)) hpl a0 a3 (bitsI .and .i64 a4 7)) rfl) ?_;rintro _ _ ⟨_,_,⟨rfl,rfl⟩,rfl,rfl⟩;refine Ops.app ?_;refine zq [2,19,19,5,4] ?_;refine Ya rfl rfl (i+1) ?_;refine zq [0,2,49] ?_;have hst:(D.p.take (i+1)).foldl (polP D.o) (List.replicate 64 0)=edgeD D.o ((D.p.take i).foldl (polP D.o) (List.replicate 64 0)) a0 a3 (bitsI .and .i64 a4 7):=by rw[fold_more he];unfold polP;rw[en0,en2,en3,en4];rw[if_pos (by omega)]
   rw[←hst];refine Yy (hK (i+1) (by omega) (by omega))
  refine zq [3,3,4,22,1,2,5] ?_;refine Yd rfl (fun h5=>?_) (fun h5=>?_)
  ·
   refine zq [11,5,18,4,0,6,6,8,6,8] ?_;refine Ops.ef rfl (ef_callf rfl rfl (tr_polEdge b1 b2 G D.o (.slice x1 D.o.length y1) (.slice (some ⟨bo,oo,none⟩) D.p.length y2) (.slice x3 D.m.length y3) v4 (.slice x5 D.t.length y5) (.slice x6 D.w.length y6) v7 hvo ((D.p.take i).foldl (polP D.o) (List.replicate 64 0)) hpl a0 a3 8) rfl) ?_;rintro _ _ ⟨_,_,⟨rfl,rfl⟩,rfl,rfl⟩;refine Ops.app ?_;refine zq [2,19,19,5,4] ?_;refine Ya rfl rfl (i+1) ?_;refine zq [0,2,49] ?_;have hst:(D.p.take (i+1)).foldl (polP D.o) (List.replicate 64 0)=edgeD D.o ((D.p.take i).foldl (polP D.o) (List.replicate 64 0)) a0 a3 8:=by rw[fold_more he];unfold polP;rw[en0,en2,en3,en4];rw[if_neg (by omega),if_pos (by omega)]
   rw[←hst];refine Yy (hK (i+1) (by omega) (by omega))
  refine zq [3,4,22,1,2,5] ?_;refine Yd rfl (fun h6=>?_) (fun h6=>?_)
  ·
   refine zq [11,5,18,4,0,6,6,8,6,8] ?_;refine Ops.ef rfl (ef_callf rfl rfl (tr_polEdge b1 b2 G D.o (.slice x1 D.o.length y1) (.slice (some ⟨bo,oo,none⟩) D.p.length y2) (.slice x3 D.m.length y3) v4 (.slice x5 D.t.length y5) (.slice x6 D.w.length y6) v7 hvo ((D.p.take i).foldl (polP D.o) (List.replicate 64 0)) hpl a0 a3 8) rfl) ?_;rintro _ _ ⟨_,_,⟨rfl,rfl⟩,rfl,rfl⟩;refine Ops.app ?_;refine zq [2,19,19,5,4] ?_;refine Ya rfl rfl (i+1) ?_;refine zq [0,2,49] ?_;have hst:(D.p.take (i+1)).foldl (polP D.o) (List.replicate 64 0)=edgeD D.o ((D.p.take i).foldl (polP D.o) (List.replicate 64 0)) a0 a3 8:=by rw[fold_more he];unfold polP;rw[en0,en2,en3,en4];rw[if_neg (by omega),if_pos (by omega)]
   rw[←hst];refine Yy (hK (i+1) (by omega) (by omega))
  refine zq [3,4,22,1,2,5] ?_;refine Yd rfl (fun h7=>?_) (fun h7=>?_)
  ·
   refine zq [11,5,18,4,0,6,6,8,6,8] ?_;refine Ops.ef rfl (ef_callf rfl rfl (tr_polEdge b1 b2 G D.o (.slice x1 D.o.length y1) (.slice (some ⟨bo,oo,none⟩) D.p.length y2) (.slice x3 D.m.length y3) v4 (.slice x5 D.t.length y5) (.slice x6 D.w.length y6) v7 hvo ((D.p.take i).foldl (polP D.o) (List.replicate 64 0)) hpl a0 a3 8) rfl) ?_;rintro _ _ ⟨_,_,⟨rfl,rfl⟩,rfl,rfl⟩;refine Ops.app ?_;refine zq [2,19,19,5,4] ?_;refine Ya rfl rfl (i+1) ?_;refine zq [0,2,49] ?_;have hst:(D.p.take (i+1)).foldl (polP D.o) (List.replicate 64 0)=edgeD D.o ((D.p.take i).foldl (polP D.o) (List.replicate 64 0)) a0 a3 8:=by rw[fold_more he];unfold polP;rw[en0,en2,en3,en4];rw[if_neg (by omega),if_pos (by omega)]
   rw[←hst];refine Yy (hK (i+1) (by omega) (by omega))
  refine zq [3,4,22,1,2,5] ?_;refine Yd rfl (fun h8=>?_) (fun h8=>?_)
  ·
   refine zq [11,5,18,4,0,6,6,8,6,8] ?_;refine Ops.ef rfl (ef_callf rfl rfl (tr_polEdge b1 b2 G D.o (.slice x1 D.o.length y1) (.slice (some ⟨bo,oo,none⟩) D.p.length y2) (.slice x3 D.m.length y3) v4 (.slice x5 D.t.length y5) (.slice x6 D.w.length y6) v7 hvo ((D.p.take i).foldl (polP D.o) (List.replicate 64 0)) hpl a0 a3 8) rfl) ?_;rintro _ _ ⟨_,_,⟨rfl,rfl⟩,rfl,rfl⟩;refine Ops.app ?_;refine zq [2,19,19,5,4] ?_;refine Ya rfl rfl (i+1) ?_;refine zq [0,2,49] ?_;have hst:(D.p.take (i+1)).foldl (polP D.o) (List.replicate 64 0)=edgeD D.o ((D.p.take i).foldl (polP D.o) (List.replicate 64 0)) a0 a3 8:=by rw[fold_more he];unfold polP;rw[en0,en2,en3,en4];rw[if_neg (by omega),if_pos (by omega)]
   rw[←hst];refine Yy (hK (i+1) (by omega) (by omega))
  refine zq [4,22,1,2,5] ?_;refine Yd rfl (fun h9=>?_) (fun h9=>?_)
  ·
   refine zq [4,0,6,6,8,6,8] ?_;refine Ops.ef rfl (ef_callf rfl rfl (tr_polEdge b1 b2 G D.o (.slice x1 D.o.length y1) (.slice (some ⟨bo,oo,none⟩) D.p.length y2) (.slice x3 D.m.length y3) v4 (.slice x5 D.t.length y5) (.slice x6 D.w.length y6) v7 hvo ((D.p.take i).foldl (polP D.o) (List.replicate 64 0)) hpl a0 a3 8) rfl) ?_;rintro _ _ ⟨_,_,⟨rfl,rfl⟩,rfl,rfl⟩;refine Ops.app ?_;refine zq [2,19,19,5,4] ?_;refine Ya rfl rfl (i+1) ?_;refine zq [0,2,49] ?_;have hst:(D.p.take (i+1)).foldl (polP D.o) (List.replicate 64 0)=edgeD D.o ((D.p.take i).foldl (polP D.o) (List.replicate 64 0)) a0 a3 8:=by rw[fold_more he];unfold polP;rw[en0,en2,en3,en4];rw[if_neg (by omega),if_pos (by omega)]
   rw[←hst];refine Yy (hK (i+1) (by omega) (by omega))
  refine zq [11,19,19,5,4] ?_;refine Ya rfl rfl (i+1) ?_;refine zq [0,2,49] ?_;have hst:(D.p.take (i+1)).foldl (polP D.o) (List.replicate 64 0)=(D.p.take i).foldl (polP D.o) (List.replicate 64 0):=by rw[fold_more he];unfold polP;rw[en0,en2,en3,en4];rw[if_neg (by omega),if_neg (by omega)]
  rw[←hst];refine Yy (hK (i+1) (by omega) (by omega))
 obtain rfl:i=D.p.length:=by omega
 rw[List.take_length];refine zq [41,16,16,40,5,3,3,4,6,8] ?_;refine Yp (pv_len_slice (T:=40) rfl rfl) ?_;refine zq [0,2,5,20] ?_;refine Wp.loopK (σ:=Nat) [(2,_),(3,_),(50,_),(51,_)] (fun s=>[(52,.int .i64 s)]) (fun s=>(b2,.cells (intsC ((D.t.take s).foldl (polT D.o) (D.p.foldl (polP D.o) (List.replicate 64 0)))).toArray 99)::(b1,.cells [.slice x1 D.o.length y1,.slice x2 D.p.length y2,.slice x3 D.m.length y3,v4,.slice x5 D.t.length y5,.slice x6 D.w.length y6,v7].toArray 44)::(G++F)) (fun s=>s≤D.t.length) (fun s=>D.t.length-s) 0 (Nat.zero_le _) ⟨rfl,rfl,rfl,rfl,trivial⟩ ⟨rfl,trivial⟩ (by intro w ho;exact ho) ?_;rintro i KK hi hK;dsimp only[Y1,Y2]at hK ⊢;refine zq [3,4,42,2,5,3] ?_;refine Yd rfl (fun h10=>?_) (fun h10=>?_)
 ·
  have hvw:=w5
  obtain ⟨e,he⟩:∃e,D.t[i]?=some e:=Y9;obtain ⟨bo,oo,co,cso,To,fo,hvo,hbo,hro⟩:=hvw.open (by omega);cases hvo;have hr0:=cel_reads hro he
  obtain ⟨a0,a1,a2,a3,a4,a5,a6,a7,he3⟩:=El.eight rfl e;rw[show cE fsT e=[.int .i64 a0,.int .i64 a1,.int .i64 a2,.int .i64 a3,.int .i64 a4,.int .u64 a5,.int .i64 a6,.int .i64 a7] by unfold cE;rw[he3];rfl]at hr0;have en0:e.n 0=a0:=by unfold El.n;rw[he3];rfl
  have en1:e.n 1=a1:=by unfold El.n;rw[he3];rfl
  have en2:e.n 2=a2:=by unfold El.n;rw[he3];rfl
  have en3:e.n 3=a3:=by unfold El.n;rw[he3];rfl
  have en4:e.n 4=a4:=by unfold El.n;rw[he3];rfl
  have en5:e.n 5=a5:=by unfold El.n;rw[he3];rfl
  have en6:e.n 6=a6:=by unfold El.n;rw[he3];rfl
  have en7:e.n 7=a7:=by unfold El.n;rw[he3];rfl
  have hpl:((D.t.take i).foldl (polT D.o) (D.p.foldl (polP D.o) (List.replicate 64 0))).length=64:=by rw[fold_len (polT_len D.o),fold_len (polP_len D.o),List.length_replicate]
  refine zq [11,5,3,20,3,4] ?_;refine Yi rfl rfl (i) rfl ?_;refine Yp (pv_loadK _ rfl rfl rfl hr0) ?_;refine zA fun b5=>?_
  refine zq [14,2,5,3,4,0,6,8,6,8] ?_;refine Ops.ef rfl (ef_callf rfl rfl (tr_polEdge b1 b2 G D.o (.slice x1 D.o.length y1) (.slice x2 D.p.length y2) (.slice x3 D.m.length y3) v4 (.slice (some ⟨bo,oo,none⟩) D.t.length y5) (.slice x6 D.w.length y6) v7 hvo ((D.t.take i).foldl (polT D.o) (D.p.foldl (polP D.o) (List.replicate 64 0))) hpl a0 a4 8) rfl) ?_;rintro _ _ ⟨_,_,⟨rfl,rfl⟩,rfl,rfl⟩;refine Ops.app ?_;refine zq [2,5,4,0,6,8,6,8] ?_;refine Ops.ef rfl (ef_callf rfl rfl (tr_polEdge b1 b2 G D.o (.slice x1 D.o.length y1) (.slice x2 D.p.length y2) (.slice x3 D.m.length y3) v4 (.slice (some ⟨bo,oo,none⟩) D.t.length y5) (.slice x6 D.w.length y6) v7 hvo (edgeD D.o ((D.t.take i).foldl (polT D.o) (D.p.foldl (polP D.o) (List.replicate 64 0))) a0 a4 8) (by rw[edgeD_len];exact hpl) a0 a7 8) rfl) ?_;rintro _ _ ⟨_,_,⟨rfl,rfl⟩,rfl,rfl⟩;refine Ops.app ?_;refine zq [2,19,5,4] ?_;refine Ya rfl rfl (i+1) ?_;refine zq [0,2,49] ?_;have hst:(D.t.take (i+1)).foldl (polT D.o) (D.p.foldl (polP D.o) (List.replicate 64 0))=edgeD D.o (edgeD D.o ((D.t.take i).foldl (polT D.o) (D.p.foldl (polP D.o) (List.replicate 64 0))) a0 a4 8) a0 a7 8:=by rw[fold_more he];unfold polT;rw[en0,en4,en7]
  rw[←hst];refine Yy (hK (i+1) (by omega) (by omega))
 obtain rfl:i=D.t.length:=by omega
 rw[List.take_length,show D.t.foldl (polT D.o) (D.p.foldl (polP D.o) (List.replicate 64 0))=policyD D from rfl];have hrl:(intsC (policyD D)).length=64:=by rw[intsC_len];unfold policyD;rw[fold_len (polT_len D.o),fold_len (polP_len D.o),List.length_replicate]
 haveI hs0:SetL (intsC (policyD D)) 0 (intsC (policyD D)) (intsC (policyD D)):=⟨rfl,by omega,fun j=>by split <;> simp⟩
 refine zq [41,16,16,40,5,3,4] ?_;refine Yp (pv_loadK (intsC (policyD D)) rfl rfl hrl (reads_all _)) ?_;refine Yo (ef_storeK rfl rfl hrl (intsC_one _)) ?_;refine zq [2,5,10] ?_;exact Ends.ret (res_one rfl (rv_cellK (intsC (policyD D)) rfl rfl hrl (reads_all _))) ⟨rfl,rfl⟩
end
section
section
variable {P : Program} {n : Nat} {D : List Deferred} {E : Env} {L : Hp} {d : Option Tmp} {ty : TypeId} {pos : String} {aft : Array Edge} {g : Option (Nat × Bool)} {T : TypeId} {x y : Operand}
theorem pv_eql_of{xs ys:List Value}{b:Bool}{yt:TypeId}(hx:ev E x=some (.agg xs.toArray))(hy:ev E y=some (.agg ys.toArray))(he:∀w,(Op.equalIn 10000 T (.agg xs.toArray) (.agg ys.toArray)).run P w=.ok b w)(hg:P.eqGuardType P.depth T=false) :
    Pv P n D E L ⟨d,.binOp .eql T x y yt,ty,pos,aft,g⟩ (.bool b):=by
  unfold Pv;intro a w hs _
  simp only[execOp,hs.ev hx,hs.ev hy,Sem.run_bind,run_eqGuard_agg (P:=P) w .eql T x y _ _ hg,run_eql_struct,Result.andThen_ok,he w,Sem.run_pure]
end
theorem eq_nums{T:TypeId}{ks:List IntKind}[hT:NumTy prog T ks]{fs:List Fld}(h:∀e:El fs,cE fs e=encK ks e.val)(hl:fs.length=ks.length)(a b:El fs)(w:World):(Op.equalIn 10000 T (.agg (cE fs a).toArray) (.agg (cE fs b).toArray)).run prog w=.ok (decide (a.val=b.val)) w:=by
 rw[h,h];exact hT.eq 9998 w _ _ (by rw[a.len,hl]) (by rw[b.len,hl])
theorem eq_o(a b:El fsO)(w:World):(Op.equalIn 10000 116 (.agg (cE fsO a).toArray) (.agg (cE fsO b).toArray)).run prog w=.ok (decide (a.val=b.val)) w:=eq_nums (T:=116) (fs:=fsO) (fun e=>by obtain ⟨_,_,_,h⟩:=El.three rfl e;unfold cE;rw[h];rfl) rfl a b w
theorem eq_f(a b:El fsF)(w:World):(Op.equalIn 10000 119 (.agg (cE fsF a).toArray) (.agg (cE fsF b).toArray)).run prog w=.ok (decide (a.val=b.val)) w:=eq_nums (T:=119) (fs:=fsF) (fun e=>by obtain ⟨_,_,_,h⟩:=El.three rfl e;unfold cE;rw[h];rfl) rfl a b w
theorem eq_t(a b:El fsT)(w:World):(Op.equalIn 10000 67 (.agg (cE fsT a).toArray) (.agg (cE fsT b).toArray)).run prog w=.ok (decide (a.val=b.val)) w:=eq_nums (T:=67) (fs:=fsT) (fun e=>by obtain ⟨_,_,_,_,_,_,_,_,h⟩:=El.eight rfl e;unfold cE;rw[h];rfl) rfl a b w
theorem eq_w(a b:El fsW)(w:World):(Op.equalIn 10000 122 (.agg (cE fsW a).toArray) (.agg (cE fsW b).toArray)).run prog w=.ok (decide (a.val=b.val)) w:=eq_nums (T:=122) (fs:=fsW) (fun e=>by obtain ⟨_,_,_,_,h⟩:=El.four rfl e;unfold cE;rw[h];rfl) rfl a b w
theorem eq_s(a b:El fsS)(w:World):(Op.equalIn 10000 125 (.agg (cE fsS a).toArray) (.agg (cE fsS b).toArray)).run prog w=.ok (decide (a.val=b.val)) w:=eq_nums (T:=125) (fs:=fsS) (fun e=>by obtain ⟨_,_,h⟩:=El.two rfl e;unfold cE;rw[h];rfl) rfl a b w
theorem fieldsOf_of{P:Program}{T:TypeId}{fs:Array Field}(h:P.underlying T=some (.struct fs)):P.fieldsOf T=fs:=by simp[Program.fieldsOf,h]
theorem flg_dec{x y:Int}(hx:x=0∨x=1)(hy:y=0∨y=1):(decide (x=1)=decide (y=1))↔x=y:=by
 rcases hx with rfl | rfl <;> rcases hy with rfl | rfl <;> simp
theorem eq_m(a b:El fsM)(w:World):(Op.equalIn 10000 69 (.agg (cE fsM a).toArray) (.agg (cE fsM b).toArray)).run prog w=.ok (decide (a.val=b.val)) w:=by
 obtain ⟨a0,a1,a2,a3,ha⟩:=El.four rfl a;obtain ⟨b0,b1,b2,b3,hb⟩:=El.four rfl b;have ra:=a.rg
 have rb:=b.rg
 unfold cE;rw[ha]at ra ⊢;rw[hb]at rb ⊢;simp only[fsM,rgE,Fld.rg]at ra rb;have hfs:=fieldsOf_of underlying69
 have h3:=flg_dec ra.2.2.2.1 rb.2.2.2.1
 rw[show (10000:Nat)=9999+1 from rfl,run_equalIn_struct w 9999 69 _ _ (by rw[hfs];exact underlying69) (by kernel_rfl),hfs];have ui:=underlying3
 have ub:=underlying4
 simp[Op.eqFields,part,isAgg,underlying,ui,ub,cellsE,fsM,Fld.cell,run_equalIn_int (P:=prog) w 9998 3 .i64 .i64 _ _ ui,run_equalIn_bool' (P:=prog) w 9998 4 _ _ ub]
 by_cases e0:a0=b0 <;> by_cases e1:a1=b1 <;> by_cases e2:a2=b2 <;> by_cases e3:a3=b3 <;> simp_all
theorem eq_p(a b:El fsP)(w:World):(Op.equalIn 10000 65 (.agg (cE fsP a).toArray) (.agg (cE fsP b).toArray)).run prog w=.ok (decide (a.val=b.val)) w:=by
 obtain ⟨a0,a1,a2,a3,a4,a5,a6,a7,ha⟩:=El.eight rfl a;obtain ⟨b0,b1,b2,b3,b4,b5,b6,b7,hb⟩:=El.eight rfl b;unfold cE;rw[ha,hb];have hfs:=fieldsOf_of underlying65
 rw[show (10000:Nat)=9999+1 from rfl,run_equalIn_struct w 9999 65 _ _ (by rw[hfs];exact underlying65) (by kernel_rfl),hfs];have n1:=NumTy.eq (P:=prog) (T:=61) 9997 w [a0,a1] [b0,b1] rfl rfl
 have n2:=NumTy.eq (P:=prog) (T:=63) 9997 w [a2,a3,a4,a5,a6,a7] [b2,b3,b4,b5,b6,b7] rfl rfl
 simp only[encK]at n1 n2;simp[Op.eqFields,part,TyD.agg,aggD,TyS.run,cellsE,fsP,Fld.cell];rw[n1];simp only[Result.andThen_ok];rw[n2]
 by_cases e1:[a0,a1]=[b0,b1] <;> by_cases e2:[a2,a3,a4,a5,a6,a7]=[b2,b3,b4,b5,b6,b7] <;> simp_all
end
section
theorem tr_sameV(G:Hp)(D:Dd)(v1 v2 v3 v4 v5 v6 v7:Value)(hA:DV G D v1 v2 v3 v4 v5 v6 v7)(w1 w2 w3 w4 w5 w6 w7:Value)(hB:DV G D w1 w2 w3 w4 w5 w6 w7)(hlo:D.o.length≤2^20)(hlp:D.p.length≤2^20)(hlm:D.m.length≤2^20)(hlf:D.f.length≤2^20)(hlt:D.t.length≤2^20)(hlw:D.w.length≤2^20)(hls:D.s.length≤2^20):TrR prog 13 [.agg #[v1,v2,v3,v4,v5,v6,v7],.agg #[w1,w2,w3,w4,w5,w6,w7]] (G) (.bool true):=by
 obtain ⟨s1,c1,rfl,p1⟩:=hA.o;obtain ⟨s2,c2,rfl,p2⟩:=hA.p;obtain ⟨s3,c3,rfl,p3⟩:=hA.m;obtain ⟨s4,c4,rfl,p4⟩:=hA.f;obtain ⟨s5,c5,rfl,p5⟩:=hA.t;obtain ⟨s6,c6,rfl,p6⟩:=hA.w;obtain ⟨s7,c7,rfl,p7⟩:=hA.s;obtain ⟨t1,d1,rfl,q1⟩:=hB.o;obtain ⟨t2,d2,rfl,q2⟩:=hB.p;obtain ⟨t3,d3,rfl,q3⟩:=hB.m;obtain ⟨t4,d4,rfl,q4⟩:=hB.f;obtain ⟨t5,d5,rfl,q5⟩:=hB.t;obtain ⟨t6,d6,rfl,q6⟩:=hB.w;obtain ⟨t7,d7,rfl,q7⟩:=hB.s;refine YR func13 ntmps13 fun W F=>?_
 refine Wr ?_;refine zB fun b1=>?_
 refine zB fun b2=>?_
 refine zq [1,2,5,3,3,4,6,8] ?_;refine Yp (pv_len_slice (T:=36) rfl rfl) ?_;refine zq [6,8] ?_;refine Yp (pv_len_slice (T:=36) rfl rfl) ?_;refine zq [67,0,50,51] ?_;refine Yg (pv_len_slice (T:=37) rfl rfl) ?_;refine zq [50,51] ?_;refine Yg (pv_len_slice (T:=37) rfl rfl) ?_;refine zq [71,26,0,50,51] ?_;refine Yg (pv_len_slice (T:=38) rfl rfl) ?_;refine zq [50,51] ?_;refine Yg (pv_len_slice (T:=38) rfl rfl) ?_;refine zq [71,26,0,50,51] ?_;refine Yg (pv_len_slice (T:=39) rfl rfl) ?_;refine zq [50,51] ?_;refine Yg (pv_len_slice (T:=39) rfl rfl) ?_;refine zq [71,26,0,50,51] ?_;refine Yg (pv_len_slice (T:=40) rfl rfl) ?_;refine zq [50,51] ?_;refine Yg (pv_len_slice (T:=40) rfl rfl) ?_;refine zq [71,26,0,50,51] ?_;refine Yg (pv_len_slice (T:=41) rfl rfl) ?_;refine zq [50,51] ?_;refine Yg (pv_len_slice (T:=41) rfl rfl) ?_;refine zq [71,26,0,50,51] ?_;refine Yg (pv_len_slice (T:=42) rfl rfl) ?_;refine zq [50,51] ?_;refine Yg (pv_len_slice (T:=42) rfl rfl) ?_;refine zq [71,26,2,5,17,11,5,3,4,1,2,5,3,3,4,1,2,5,20] ?_;refine YL (σ:=Nat) [(2,_),(3,_)] (fun s=>[(5,.bool true),(6,.int .i64 s)]) (fun s=>s≤D.o.length) (fun s=>D.o.length-s) 0 (Nat.zero_le _) ?_;rintro i KK hi hK;dsimp only[Y1,Y2]at hK ⊢;refine zq [3,3,4,0,6,8] ?_;refine Yp (pv_len_slice (T:=36) rfl rfl) ?_;refine zq [42,2,5] ?_;refine Yd rfl (fun h1=>?_) (fun h1=>?_)
 ·
  obtain ⟨e,he⟩:∃e,D.o[i]?=some e:=Y9;obtain ⟨ab,ao,ac,ca,Ta,fa,hva,hba,hra⟩:=p1.open (by omega);cases hva;obtain ⟨bb,bo,bc,cb,Tb,fb,hvb,hbb,hrb⟩:=q1.open (by omega);cases hvb;have hxa:=cel_reads hra he
  have hxb:=cel_reads hrb he
  refine zq [11,5,3,20] ?_;refine AnyH.start ((b1,.cells [.slice (some ⟨ab,ao,none⟩) D.o.length c1,.slice s2 D.p.length c2,.slice s3 D.m.length c3,.slice s4 D.f.length c4,.slice s5 D.t.length c5,.slice s6 D.w.length c6,.slice s7 D.s.length c7].toArray 44)::(b2,.cells [.slice (some ⟨bb,bo,none⟩) D.o.length d1,.slice t2 D.p.length d2,.slice t3 D.m.length d3,.slice t4 D.f.length d4,.slice t5 D.t.length d5,.slice t6 D.w.length d6,.slice t7 D.s.length d7].toArray 44)::G) 15 rfl ?_;refine zd [0,1,1,1] ?_;refine Yt 2 rfl (pv_fieldAddr0 rfl rfl) ?_;refine Yt 3 rfl (pv_load rfl rfl rfl) ?_;refine Yt 4 rfl (pv_move rfl) ?_;refine Yt 5 rfl (pv_indexAddr (i:=i) rfl rfl rfl (by omega)) ?_;refine Yt 6 rfl (pv_loadK (cE fsO e) rfl rfl (by rw[cE,cellsE_len _ _ e.len];rfl) hxa) ?_;refine Yt 7 rfl (pv_fieldAddr0 rfl rfl) ?_;refine Yt 8 rfl (pv_load rfl rfl rfl) ?_;refine Yt 9 rfl (pv_move rfl) ?_;refine Yt 10 rfl (pv_indexAddr (i:=i) rfl rfl rfl (by omega)) ?_;refine Yt 11 rfl (pv_loadK (cE fsO e) rfl rfl (by rw[cE,cellsE_len _ _ e.len];rfl) hxb) ?_;refine Yt 12 rfl ((pv_eql_of rfl rfl (fun w=>eq_o e e w) (by kernel_rfl)).tru rfl) ?_;refine Yh 13 rfl (pv_pick_true rfl rfl) ?_;refine zd [14,5] ?_;refine YD ?_;refine zq [19,5,4,0] ?_;refine Ya rfl rfl (i+1) ?_;refine zq [1,2,49] ?_;refine Yy (hK (i+1) (by omega) (by omega))
 refine zq [41,16,16,40,5,3,3,4,1,2,5,20] ?_;refine YL (σ:=Nat) [(2,_),(3,_)] (fun s=>[(5,.bool true),(7,.int .i64 s)]) (fun s=>s≤D.p.length) (fun s=>D.p.length-s) 0 (Nat.zero_le _) ?_;rintro i KK hi hK;dsimp only[Y1,Y2]at hK ⊢;refine zq [3,3,4,0,6,8] ?_;refine Yp (pv_len_slice (T:=37) rfl rfl) ?_;refine zq [42,2,5] ?_;refine Yd rfl (fun h2=>?_) (fun h2=>?_)
 ·
  obtain ⟨e,he⟩:∃e,D.p[i]?=some e:=Y9;obtain ⟨ab,ao,ac,ca,Ta,fa,hva,hba,hra⟩:=p2.open (by omega);cases hva;obtain ⟨bb,bo,bc,cb,Tb,fb,hvb,hbb,hrb⟩:=q2.open (by omega);cases hvb;have hxa:=cel_reads hra he
  have hxb:=cel_reads hrb he
  refine zq [11,5,3,20] ?_;refine AnyH.start ((b1,.cells [.slice s1 D.o.length c1,.slice (some ⟨ab,ao,none⟩) D.p.length c2,.slice s3 D.m.length c3,.slice s4 D.f.length c4,.slice s5 D.t.length c5,.slice s6 D.w.length c6,.slice s7 D.s.length c7].toArray 44)::(b2,.cells [.slice t1 D.o.length d1,.slice (some ⟨bb,bo,none⟩) D.p.length d2,.slice t3 D.m.length d3,.slice t4 D.f.length d4,.slice t5 D.t.length d5,.slice t6 D.w.length d6,.slice t7 D.s.length d7].toArray 44)::G) 15 rfl ?_;refine zd [0,1,1,1] ?_;refine Yt 2 rfl (pv_fieldAddr0 rfl rfl) ?_;refine Yt 3 rfl (pv_load rfl rfl rfl) ?_;refine Yt 4 rfl (pv_move rfl) ?_;refine Yt 5 rfl (pv_indexAddr (i:=i) rfl rfl rfl (by omega)) ?_;refine Yt 6 rfl (pv_loadK (cE fsP e) rfl rfl (by rw[cE,cellsE_len _ _ e.len];rfl) hxa) ?_;refine Yt 7 rfl (pv_fieldAddr0 rfl rfl) ?_;refine Yt 8 rfl (pv_load rfl rfl rfl) ?_;refine Yt 9 rfl (pv_move rfl) ?_;refine Yt 10 rfl (pv_indexAddr (i:=i) rfl rfl rfl (by omega)) ?_;refine Yt 11 rfl (pv_loadK (cE fsP e) rfl rfl (by rw[cE,cellsE_len _ _ e.len];rfl) hxb) ?_;refine Yt 12 rfl ((pv_eql_of rfl rfl (fun w=>eq_p e e w) (by kernel_rfl)).tru rfl) ?_;refine Yh 13 rfl (pv_pick_true rfl rfl) ?_;refine zd [14,5] ?_;refine YD ?_;refine zq [19,5,4,0] ?_;refine Ya rfl rfl (i+1) ?_;refine zq [1,2,49] ?_;refine Yy (hK (i+1) (by omega) (by omega))
 refine zq [41,16,16,40,5,3,3,4,1,2,5,20] ?_;refine YL (σ:=Nat) [(2,_),(3,_)] (fun s=>[(5,.bool true),(8,.int .i64 s)]) (fun s=>s≤D.m.length) (fun s=>D.m.length-s) 0 (Nat.zero_le _) ?_;rintro i KK hi hK;dsimp only[Y1,Y2]at hK ⊢;refine zq [3,3,4,0,6,8] ?_;refine Yp (pv_len_slice (T:=38) rfl rfl) ?_;refine zq [42,2,5] ?_;refine Yd rfl (fun h3=>?_) (fun h3=>?_)
 ·
  obtain ⟨e,he⟩:∃e,D.m[i]?=some e:=Y9;obtain ⟨ab,ao,ac,ca,Ta,fa,hva,hba,hra⟩:=p3.open (by omega);cases hva;obtain ⟨bb,bo,bc,cb,Tb,fb,hvb,hbb,hrb⟩:=q3.open (by omega);cases hvb;have hxa:=cel_reads hra he
  have hxb:=cel_reads hrb he
  refine zq [11,5,3,20] ?_;refine AnyH.start ((b1,.cells [.slice s1 D.o.length c1,.slice s2 D.p.length c2,.slice (some ⟨ab,ao,none⟩) D.m.length c3,.slice s4 D.f.length c4,.slice s5 D.t.length c5,.slice s6 D.w.length c6,.slice s7 D.s.length c7].toArray 44)::(b2,.cells [.slice t1 D.o.length d1,.slice t2 D.p.length d2,.slice (some ⟨bb,bo,none⟩) D.m.length d3,.slice t4 D.f.length d4,.slice t5 D.t.length d5,.slice t6 D.w.length d6,.slice t7 D.s.length d7].toArray 44)::G) 15 rfl ?_;refine zd [0,1,1,1] ?_;refine Yt 2 rfl (pv_fieldAddr0 rfl rfl) ?_;refine Yt 3 rfl (pv_load rfl rfl rfl) ?_;refine Yt 4 rfl (pv_move rfl) ?_;refine Yt 5 rfl (pv_indexAddr (i:=i) rfl rfl rfl (by omega)) ?_;refine Yt 6 rfl (pv_loadK (cE fsM e) rfl rfl (by rw[cE,cellsE_len _ _ e.len];rfl) hxa) ?_;refine Yt 7 rfl (pv_fieldAddr0 rfl rfl) ?_;refine Yt 8 rfl (pv_load rfl rfl rfl) ?_;refine Yt 9 rfl (pv_move rfl) ?_;refine Yt 10 rfl (pv_indexAddr (i:=i) rfl rfl rfl (by omega)) ?_;refine Yt 11 rfl (pv_loadK (cE fsM e) rfl rfl (by rw[cE,cellsE_len _ _ e.len];rfl) hxb) ?_;refine Yt 12 rfl ((pv_eql_of rfl rfl (fun w=>eq_m e e w) (by kernel_rfl)).tru rfl) ?_;refine Yh 13 rfl (pv_pick_true rfl rfl) ?_;refine zd [14,5] ?_;refine YD ?_;refine zq [19,5,4,0] ?_;refine Ya rfl rfl (i+1) ?_;refine zq [1,2,49] ?_;refine Yy (hK (i+1) (by omega) (by omega))
 refine zq [41,16,16,40,5,3,3,4,1,2,5,20] ?_;refine YL (σ:=Nat) [(2,_),(3,_)] (fun s=>[(5,.bool true),(9,.int .i64 s)]) (fun s=>s≤D.f.length) (fun s=>D.f.length-s) 0 (Nat.zero_le _) ?_;rintro i KK hi hK;dsimp only[Y1,Y2]at hK ⊢;refine zq [3,3,4,0,6,8] ?_;refine Yp (pv_len_slice (T:=39) rfl rfl) ?_;refine zq [42,2,5] ?_;refine Yd rfl (fun h4=>?_) (fun h4=>?_)
 ·
  obtain ⟨e,he⟩:∃e,D.f[i]?=some e:=Y9;obtain ⟨ab,ao,ac,ca,Ta,fa,hva,hba,hra⟩:=p4.open (by omega);cases hva;obtain ⟨bb,bo,bc,cb,Tb,fb,hvb,hbb,hrb⟩:=q4.open (by omega);cases hvb;have hxa:=cel_reads hra he
  have hxb:=cel_reads hrb he
  refine zq [11,5,3,20] ?_;refine AnyH.start ((b1,.cells [.slice s1 D.o.length c1,.slice s2 D.p.length c2,.slice s3 D.m.length c3,.slice (some ⟨ab,ao,none⟩) D.f.length c4,.slice s5 D.t.length c5,.slice s6 D.w.length c6,.slice s7 D.s.length c7].toArray 44)::(b2,.cells [.slice t1 D.o.length d1,.slice t2 D.p.length d2,.slice t3 D.m.length d3,.slice (some ⟨bb,bo,none⟩) D.f.length d4,.slice t5 D.t.length d5,.slice t6 D.w.length d6,.slice t7 D.s.length d7].toArray 44)::G) 15 rfl ?_;refine zd [0,1,1,1] ?_;refine Yt 2 rfl (pv_fieldAddr0 rfl rfl) ?_;refine Yt 3 rfl (pv_load rfl rfl rfl) ?_;refine Yt 4 rfl (pv_move rfl) ?_;refine Yt 5 rfl (pv_indexAddr (i:=i) rfl rfl rfl (by omega)) ?_;refine Yt 6 rfl (pv_loadK (cE fsF e) rfl rfl (by rw[cE,cellsE_len _ _ e.len];rfl) hxa) ?_;refine Yt 7 rfl (pv_fieldAddr0 rfl rfl) ?_;refine Yt 8 rfl (pv_load rfl rfl rfl) ?_;refine Yt 9 rfl (pv_move rfl) ?_;refine Yt 10 rfl (pv_indexAddr (i:=i) rfl rfl rfl (by omega)) ?_;refine Yt 11 rfl (pv_loadK (cE fsF e) rfl rfl (by rw[cE,cellsE_len _ _ e.len];rfl) hxb) ?_;refine Yt 12 rfl ((pv_eql_of rfl rfl (fun w=>eq_f e e w) (by kernel_rfl)).tru rfl) ?_;refine Yh 13 rfl (pv_pick_true rfl rfl) ?_;refine zd [14,5] ?_;refine YD ?_;refine zq [19,5,4,0] ?_;refine Ya rfl rfl (i+1) ?_;refine zq [1,2,49] ?_;refine Yy (hK (i+1) (by omega) (by omega))
 refine zq [41,16,16,40,5,3,3,4,1,2,5,20] ?_;refine YL (σ:=Nat) [(2,_),(3,_)] (fun s=>[(5,.bool true),(10,.int .i64 s)]) (fun s=>s≤D.t.length) (fun s=>D.t.length-s) 0 (Nat.zero_le _) ?_;rintro i KK hi hK;dsimp only[Y1,Y2]at hK ⊢;refine zq [3,3,4,0,6,8] ?_;refine Yp (pv_len_slice (T:=40) rfl rfl) ?_;refine zq [42,2,5] ?_;refine Yd rfl (fun h5=>?_) (fun h5=>?_)
 ·
  obtain ⟨e,he⟩:∃e,D.t[i]?=some e:=Y9;obtain ⟨ab,ao,ac,ca,Ta,fa,hva,hba,hra⟩:=p5.open (by omega);cases hva;obtain ⟨bb,bo,bc,cb,Tb,fb,hvb,hbb,hrb⟩:=q5.open (by omega);cases hvb;have hxa:=cel_reads hra he
  have hxb:=cel_reads hrb he
  refine zq [11,5,3,20] ?_;refine AnyH.start ((b1,.cells [.slice s1 D.o.length c1,.slice s2 D.p.length c2,.slice s3 D.m.length c3,.slice s4 D.f.length c4,.slice (some ⟨ab,ao,none⟩) D.t.length c5,.slice s6 D.w.length c6,.slice s7 D.s.length c7].toArray 44)::(b2,.cells [.slice t1 D.o.length d1,.slice t2 D.p.length d2,.slice t3 D.m.length d3,.slice t4 D.f.length d4,.slice (some ⟨bb,bo,none⟩) D.t.length d5,.slice t6 D.w.length d6,.slice t7 D.s.length d7].toArray 44)::G) 15 rfl ?_;refine zd [0,1,1,1] ?_;refine Yt 2 rfl (pv_fieldAddr0 rfl rfl) ?_;refine Yt 3 rfl (pv_load rfl rfl rfl) ?_;refine Yt 4 rfl (pv_move rfl) ?_;refine Yt 5 rfl (pv_indexAddr (i:=i) rfl rfl rfl (by omega)) ?_;refine Yt 6 rfl (pv_loadK (cE fsT e) rfl rfl (by rw[cE,cellsE_len _ _ e.len];rfl) hxa) ?_;refine Yt 7 rfl (pv_fieldAddr0 rfl rfl) ?_;refine Yt 8 rfl (pv_load rfl rfl rfl) ?_;refine Yt 9 rfl (pv_move rfl) ?_;refine Yt 10 rfl (pv_indexAddr (i:=i) rfl rfl rfl (by omega)) ?_;refine Yt 11 rfl (pv_loadK (cE fsT e) rfl rfl (by rw[cE,cellsE_len _ _ e.len];rfl) hxb) ?_;refine Yt 12 rfl ((pv_eql_of rfl rfl (fun w=>eq_t e e w) (by kernel_rfl)).tru rfl) ?_;refine Yh 13 rfl (pv_pick_true rfl rfl) ?_;refine zd [14,5] ?_;refine YD ?_;refine zq [19,5,4,0] ?_;refine Ya rfl rfl (i+1) ?_;refine zq [1,2,49] ?_;refine Yy (hK (i+1) (by omega) (by omega))
 refine zq [41,16,16,40,5,3,3,4,1,2,5,20] ?_;refine YL (σ:=Nat) [(2,_),(3,_)] (fun s=>[(5,.bool true),(11,.int .i64 s)]) (fun s=>s≤D.w.length) (fun s=>D.w.length-s) 0 (Nat.zero_le _) ?_;rintro i KK hi hK;dsimp only[Y1,Y2]at hK ⊢;refine zq [3,3,4,0,6,8] ?_;refine Yp (pv_len_slice (T:=41) rfl rfl) ?_;refine zq [42,2,5] ?_;refine Yd rfl (fun h6=>?_) (fun h6=>?_)
 ·
  obtain ⟨e,he⟩:∃e,D.w[i]?=some e:=Y9;obtain ⟨ab,ao,ac,ca,Ta,fa,hva,hba,hra⟩:=p6.open (by omega);cases hva;obtain ⟨bb,bo,bc,cb,Tb,fb,hvb,hbb,hrb⟩:=q6.open (by omega);cases hvb;have hxa:=cel_reads hra he
  have hxb:=cel_reads hrb he
  refine zq [11,5,3,20] ?_;refine AnyH.start ((b1,.cells [.slice s1 D.o.length c1,.slice s2 D.p.length c2,.slice s3 D.m.length c3,.slice s4 D.f.length c4,.slice s5 D.t.length c5,.slice (some ⟨ab,ao,none⟩) D.w.length c6,.slice s7 D.s.length c7].toArray 44)::(b2,.cells [.slice t1 D.o.length d1,.slice t2 D.p.length d2,.slice t3 D.m.length d3,.slice t4 D.f.length d4,.slice t5 D.t.length d5,.slice (some ⟨bb,bo,none⟩) D.w.length d6,.slice t7 D.s.length d7].toArray 44)::G) 15 rfl ?_;refine zd [0,1,1,1] ?_;refine Yt 2 rfl (pv_fieldAddr0 rfl rfl) ?_;refine Yt 3 rfl (pv_load rfl rfl rfl) ?_;refine Yt 4 rfl (pv_move rfl) ?_;refine Yt 5 rfl (pv_indexAddr (i:=i) rfl rfl rfl (by omega)) ?_;refine Yt 6 rfl (pv_loadK (cE fsW e) rfl rfl (by rw[cE,cellsE_len _ _ e.len];rfl) hxa) ?_;refine Yt 7 rfl (pv_fieldAddr0 rfl rfl) ?_;refine Yt 8 rfl (pv_load rfl rfl rfl) ?_;refine Yt 9 rfl (pv_move rfl) ?_;refine Yt 10 rfl (pv_indexAddr (i:=i) rfl rfl rfl (by omega)) ?_;refine Yt 11 rfl (pv_loadK (cE fsW e) rfl rfl (by rw[cE,cellsE_len _ _ e.len];rfl) hxb) ?_;refine Yt 12 rfl ((pv_eql_of rfl rfl (fun w=>eq_w e e w) (by kernel_rfl)).tru rfl) ?_;refine Yh 13 rfl (pv_pick_true rfl rfl) ?_;refine zd [14,5] ?_;refine YD ?_;refine zq [19,5,4,0] ?_;refine Ya rfl rfl (i+1) ?_;refine zq [1,2,49] ?_;refine Yy (hK (i+1) (by omega) (by omega))
 refine zq [41,16,16,40,5,3,3,4,1,2,5,20] ?_;refine YL (σ:=Nat) [(2,_),(3,_)] (fun s=>[(5,.bool true),(12,.int .i64 s)]) (fun s=>s≤D.s.length) (fun s=>D.s.length-s) 0 (Nat.zero_le _) ?_;rintro i KK hi hK;dsimp only[Y1,Y2]at hK ⊢;refine zq [3,3,4,0,6,8] ?_;refine Yp (pv_len_slice (T:=42) rfl rfl) ?_;refine zq [42,2,5] ?_;refine Yd rfl (fun h7=>?_) (fun h7=>?_)
 ·
  obtain ⟨e,he⟩:∃e,D.s[i]?=some e:=Y9;obtain ⟨ab,ao,ac,ca,Ta,fa,hva,hba,hra⟩:=p7.open (by omega);cases hva;obtain ⟨bb,bo,bc,cb,Tb,fb,hvb,hbb,hrb⟩:=q7.open (by omega);cases hvb;have hxa:=cel_reads hra he
  have hxb:=cel_reads hrb he
  refine zq [11,5,3,20] ?_;refine AnyH.start ((b1,.cells [.slice s1 D.o.length c1,.slice s2 D.p.length c2,.slice s3 D.m.length c3,.slice s4 D.f.length c4,.slice s5 D.t.length c5,.slice s6 D.w.length c6,.slice (some ⟨ab,ao,none⟩) D.s.length c7].toArray 44)::(b2,.cells [.slice t1 D.o.length d1,.slice t2 D.p.length d2,.slice t3 D.m.length d3,.slice t4 D.f.length d4,.slice t5 D.t.length d5,.slice t6 D.w.length d6,.slice (some ⟨bb,bo,none⟩) D.s.length d7].toArray 44)::G) 15 rfl ?_;refine zd [0,1,1,1] ?_;refine Yt 2 rfl (pv_fieldAddr0 rfl rfl) ?_;refine Yt 3 rfl (pv_load rfl rfl rfl) ?_;refine Yt 4 rfl (pv_move rfl) ?_;refine Yt 5 rfl (pv_indexAddr (i:=i) rfl rfl rfl (by omega)) ?_;refine Yt 6 rfl (pv_loadK (cE fsS e) rfl rfl (by rw[cE,cellsE_len _ _ e.len];rfl) hxa) ?_;refine Yt 7 rfl (pv_fieldAddr0 rfl rfl) ?_;refine Yt 8 rfl (pv_load rfl rfl rfl) ?_;refine Yt 9 rfl (pv_move rfl) ?_;refine Yt 10 rfl (pv_indexAddr (i:=i) rfl rfl rfl (by omega)) ?_;refine Yt 11 rfl (pv_loadK (cE fsS e) rfl rfl (by rw[cE,cellsE_len _ _ e.len];rfl) hxb) ?_;refine Yt 12 rfl ((pv_eql_of rfl rfl (fun w=>eq_s e e w) (by kernel_rfl)).tru rfl) ?_;refine Yh 13 rfl (pv_pick_true rfl rfl) ?_;refine zd [14,5] ?_;refine YD ?_;refine zq [19,5,4,0] ?_;refine Ya rfl rfl (i+1) ?_;refine zq [1,2,49] ?_;refine Yy (hK (i+1) (by omega) (by omega))
 refine zq [41,16,16,40,5,3,4,0,1,2,5,10] ?_;exact zr ⟨rfl,rfl⟩
theorem DV.mono{G G' : Hp}{D:Dd}{v1 v2 v3 v4 v5 v6 v7:Value}(h:DV G D v1 v2 v3 v4 v5 v6 v7)(hg:∀p,p∈G→p∈G'):DV G' D v1 v2 v3 v4 v5 v6 v7:=⟨h.o.mono hg,h.p.mono hg,h.m.mono hg,h.f.mono hg,h.t.mono hg,h.w.mono hg,h.s.mono hg⟩
theorem same_refl(A:Dd){v1 v2 v3 v4 v5 v6 v7:Value}{H1 H2 H3 H4 H5 H6 H7:Hp}(hs:DSB A v1 v2 v3 v4 v5 v6 v7 H1 H2 H3 H4 H5 H6 H7){w1 w2 w3 w4 w5 w6 w7:Value}{K1 K2 K3 K4 K5 K6 K7:Hp}(ht:DSB A w1 w2 w3 w4 w5 w6 w7 K1 K2 K3 K4 K5 K6 K7)(hl:A.o.length≤2^20∧A.p.length≤2^20∧A.m.length≤2^20∧A.f.length≤2^20∧A.t.length≤2^20∧A.w.length≤2^20∧A.s.length≤2^20):TrR prog 13 [.agg #[v1,v2,v3,v4,v5,v6,v7],.agg #[w1,w2,w3,w4,w5,w6,w7]] (H1++(H2++(H3++(H4++(H5++(H6++(H7++(K1++(K2++(K3++(K4++(K5++(K6++(K7)))))))))))))) (.bool true) :=
  tr_sameV _ A _ _ _ _ _ _ _ ((DS.dv hs).mono (fun p hp=>by simp only[List.mem_append]at hp ⊢; rcases hp with hp | hp | hp | hp | hp | hp | hp <;> simp[hp])) _ _ _ _ _ _ _ ((DS.dv ht).mono (by simp +contextual)) hl.1 hl.2.1 hl.2.2.1 hl.2.2.2.1 hl.2.2.2.2.1 hl.2.2.2.2.2.1 hl.2.2.2.2.2.2
end
section
theorem leV_leB:∀w v,leV (leB w v)=v%256^w
  | 0,v=>by simp[leB,leV,Nat.mod_one]
  | w+1,v=>by
    rw[leB,leV,leV_leB w,Nat.pow_succ,Nat.mul_comm (256^w) 256,Nat.mod_mul]
    congr 1
theorem leB_leV:∀l:List UInt8,leB l.length (leV l)=l
  | []=>rfl
  | b::l=>by
    have hb:=b.toNat_lt
    rw[Y4,leV,leB,show (b.toNat+256*leV l)/256=leV l by omega,leB_leV l]
    congr 1
    apply UInt8.toNat_inj.1;simp
theorem uI_of{x:Int}(h0:0≤x)(h1:x<18446744073709551616):uI x=x.toNat:=by unfold uI;rw[u64 h0 h1]
theorem enc_wid(f:Fld)(v:Int):(f.enc v).length=f.wid:=by cases f <;> exact leB_len ..
theorem rdF_enc{f:Fld}{v:Int}(hok:f.ok v)(hrg:f.rg v)(r:List UInt8):rdF f (f.enc v++r)=some (v,r):=by
 unfold rdF;have hl:=enc_wid f v
 rw[if_neg (by rw[Y3,hl];omega),←hl,List.take_left,List.drop_left];have hd:f.dec (leV (f.enc v))=some v:=by
  cases f <;> simp only[Fld.ok,Fld.rg,RgI]at hok hrg <;> simp only[Fld.enc,Fld.dec,leV_leB]
  case two=>rw[uI_of (by omega) (by omega),Nat.mod_eq_of_lt (by omega)];congr 1;omega
  case lab=>rw[uI_of (by omega) (by omega),Nat.mod_eq_of_lt (by omega),if_pos (by omega)];congr 1;omega
  case spc=>rw[uI_of (by omega) (by omega),Nat.mod_eq_of_lt (by omega)];congr 1;omega
  case w4=>rw[Nat.mod_eq_of_lt (by omega)];congr 1;omega
  case w8=>rw[Nat.mod_eq_of_lt (by omega)];congr 1;omega
  case flg=>rw[Nat.mod_eq_of_lt (by omega),if_pos (by omega)];congr 1;omega
 rw[hd];rfl
theorem enc_rdF{f:Fld}{s r:List UInt8}{v:Int}(h:rdF f s=some (v,r)):s=f.enc v++r∧f.ok v:=by
 unfold rdF at h
 split at h
 ·
  cases h
 ·
  rename_i hl
  have ht:(s.take f.wid).length=f.wid:=by rw[List.length_take];omega
  have hb:=leB_leV (s.take f.wid)
  rw[ht]at hb;have hlt:=leV_lt (s.take f.wid)
  rw[ht]at hlt;have key:f.enc v=s.take f.wid∧f.ok v∧r=s.drop f.wid:=by
   cases f <;> simp only[Fld.dec,Fld.wid,Fld.ok,Fld.enc]at h hb hlt ⊢
   case lab =>
    by_cases hc:leV (s.take 2)<8
    ·
     simp only[hc,if_true,Option.map_some,Option.some.injEq,Prod.mk.injEq]at h;obtain ⟨rfl,rfl⟩:=h;refine ⟨?_,by omega,rfl⟩;rw[uI_of (by omega) (by omega),Int.toNat_natCast];exact hb
    ·
     simp[hc]at h
   case flg =>
    by_cases hc:leV (s.take 1)<2
    ·
     simp only[hc,if_true,Option.map_some,Option.some.injEq,Prod.mk.injEq]at h;obtain ⟨rfl,rfl⟩:=h;refine ⟨?_,trivial,rfl⟩;rw[Int.toNat_natCast];exact hb
    ·
     simp[hc]at h
   case spc =>
    simp only[Option.map_some,Option.some.injEq,Prod.mk.injEq]at h;obtain ⟨rfl,rfl⟩:=h;refine ⟨?_,by omega,rfl⟩;rw[show ((leV (s.take 2):Nat):Int)-1+1=((leV (s.take 2):Nat):Int) by omega,uI_of (by omega) (by omega),Int.toNat_natCast];exact hb
   case two =>
    simp only[Option.map_some,Option.some.injEq,Prod.mk.injEq]at h;obtain ⟨rfl,rfl⟩:=h;refine ⟨?_,by omega,rfl⟩;rw[uI_of (by omega) (by omega),Int.toNat_natCast];exact hb
   all_goals
    simp only[Option.map_some,Option.some.injEq,Prod.mk.injEq]at h;obtain ⟨rfl,rfl⟩:=h;refine ⟨?_,by first | trivial | omega,rfl⟩;rw[Int.toNat_natCast];exact hb
  obtain ⟨k1,k2,rfl⟩:=key;exact ⟨by rw[k1,List.take_append_drop],k2⟩
theorem rdE_enc:∀{fs:List Fld} {e:List Int},e.length=fs.length→okE fs e→rgE fs e→∀r,rdE fs (encE fs e++r)=some (e,r)
  | [],[],_,_,_,r=>rfl
  | f::fs,x::e,hl,hok,hrg,r=>by
    unfold encE;rw[Y7];exact rdE_some (rdF_enc hok.1 hrg.1 _) (rdE_enc (by simpa using hl) hok.2 hrg.2 r)
theorem enc_rdE:∀{fs:List Fld} {s r:List UInt8} {e:List Int},rdE fs s=some (e,r)→s=encE fs e++r∧okE fs e
  | [],s,r,e,h=>by cases h;exact ⟨rfl,trivial⟩
  | f::fs,s,r,e,h=>by
    rw[rdE]at h
    split at h
    · cases h
    · rename_i v s1 h1
      split at h
      · cases h
      · rename_i e2 s3 h2
        cases h;obtain ⟨a1,a2⟩:=enc_rdF h1;obtain ⟨b1,b2⟩:=enc_rdE h2;exact ⟨by rw[a1,b1,encE,Y7],a2,b2⟩
theorem El.ext{fs:List Fld}{a b:El fs}(h:a.val=b.val):a=b:=by cases a;cases b;cases h;rfl
theorem mkEl_el{fs:List Fld}(e:El fs):mkEl fs e.val=e:=El.ext (mkEl_val ⟨e.len,e.rg⟩)
theorem encI_cons(fs:List Fld)(e:El fs)(l:List (El fs)):encI fs (e::l)=encE fs e.1++encI fs l:=by simp[encI]
theorem encI_app(fs:List Fld)(l m:List (El fs)):encI fs (l++m)=encI fs l++encI fs m:=by simp[encI]
theorem rdI_enc{fs:List Fld}{l:List (El fs)}(hok:∀e,e∈l→okE fs e.1)(r:List UInt8):∀i,i≤l.length→rdI fs i (encI fs l++r)=some (l.take i,encI fs (l.drop i)++r)
  | 0,_=>rfl
  | i+1,h=>by
    have h0:=rdI_enc hok r i (by omega)
    have hd:=List.drop_eq_getElem_cons (show i<l.length by omega)
    rw[hd,encI_cons,Y7]at h0;have he:l[i]∈l:=List.getElem_mem ..
    rw[rdI_some h0 (rdE_enc l[i].len (hok _ he) l[i].rg _),mkEl_el,List.take_add_one,Y8 (by omega)];rfl
theorem enc_rdI{fs:List Fld}:∀{n:Nat} {s r:List UInt8} {l:List (El fs)},rdI fs n s=some (l,r)→s=encI fs l++r∧∀e,e∈l→okE fs e.1
  | 0,s,r,l,h=>by cases h;exact ⟨rfl,fun e he=>(List.not_mem_nil he).elim⟩
  | n+1,s,r,l,h=>by
    rw[rdI]at h
    split at h
    · cases h
    · rename_i l1 r1 h1
      split at h
      · cases h
      · rename_i e r2 h2
        cases h;obtain ⟨a1,a2⟩:=enc_rdI h1;obtain ⟨b1,b2⟩:=enc_rdE h2;have hv:=rdE_el h2
        refine ⟨?_,fun x hx=>?_⟩
        · rw[a1,b1,encI_app,encI_cons,hv];simp[encI]
        · rcases List.mem_append.1 hx with hx | hx
          · exact a2 x hx
          · simp at hx;subst hx;rw[hv];exact b2
theorem rdL_enc{fs:List Fld}{m:Nat}{l:List (El fs)}(h:okL fs m l)(hm:m≤65535)(r:List UInt8):rdL fs m (encL fs l++r)=some (l,r):=by
 have hl:=h.1
 unfold rdL encL;have e2:(leB 2 l.length).length=2:=leB_len ..
 have et:((leB 2 l.length++encI fs l)++r).take 2=leB 2 l.length:=by
  rw[Y7];exact List.take_left' e2
 have ed:((leB 2 l.length++encI fs l)++r).drop 2=encI fs l++r:=by
  rw[Y7];exact List.drop_left' e2
 have ev:leV (leB 2 l.length)=l.length:=by rw[leV_leB,Nat.mod_eq_of_lt (by omega)]
 rw[et,ed,ev,if_neg (by simp only[Y3,e2];omega),if_neg (by omega),rdI_enc h.2 r l.length (Nat.le_refl _),List.take_length,List.drop_length];rfl
theorem enc_rdL{fs:List Fld}{m:Nat}{s r:List UInt8}{l:List (El fs)}(h:rdL fs m s=some (l,r)):s=encL fs l++r∧okL fs m l:=by
 unfold rdL at h
 split at h
 ·
  cases h
 ·
  rename_i h1
  split at h
  ·
   cases h
  ·
   rename_i h2
   obtain ⟨a1,a2⟩:=enc_rdI h;have hn:=(rdI_len h).1
   have ht:(s.take 2).length=2:=by rw[List.length_take];omega
   have hb:=leB_leV (s.take 2)
   rw[ht,←hn]at hb;refine ⟨?_,by omega,a2⟩;unfold encL;rw[hb,Y7,←a1,List.take_append_drop]
theorem rdD_enc{D:Dd}(h:okD D):rdD (encD D)=some (D,[]):=by
 obtain ⟨h1,h2,h3,h4,h5,h6,h7⟩:=h;have e7:=rdL_enc h7 (by decide) []
 rw[List.append_nil]at e7;unfold rdD encD;simp only[Y7];rw[rdL_enc h1 (by decide)];dsimp only
 rw[rdL_enc h2 (by decide)];dsimp only
 rw[rdL_enc h3 (by decide)];dsimp only
 rw[rdL_enc h4 (by decide)];dsimp only
 rw[rdL_enc h5 (by decide)];dsimp only
 rw[rdL_enc h6 (by decide)];dsimp only
 rw[e7]
theorem enc_rdD{D:Dd}{s:List UInt8}(h:rdD s=some (D,[])):s=encD D∧okD D:=by
 unfold rdD at h
 split at h
 ·
  cases h
 rename_i o s1 h1
 split at h
 ·
  cases h
 rename_i p s2 h2
 split at h
 ·
  cases h
 rename_i m s3 h3
 split at h
 ·
  cases h
 rename_i f s4 h4
 split at h
 ·
  cases h
 rename_i t s5 h5
 split at h
 ·
  cases h
 rename_i w s6 h6
 split at h
 ·
  cases h
 rename_i u s7 h7
 cases h;obtain ⟨a1,b1⟩:=enc_rdL h1;obtain ⟨a2,b2⟩:=enc_rdL h2;obtain ⟨a3,b3⟩:=enc_rdL h3;obtain ⟨a4,b4⟩:=enc_rdL h4;obtain ⟨a5,b5⟩:=enc_rdL h5;obtain ⟨a6,b6⟩:=enc_rdL h6;obtain ⟨a7,b7⟩:=enc_rdL h7;refine ⟨?_,b1,b2,b3,b4,b5,b6,b7⟩;unfold encD;rw[a1,a2,a3,a4,a5,a6,a7];simp only[Y7,List.append_nil]
end
section
def smallD:Dd where
  o:=[⟨[3,0,0],rfl,by simp[rgE,fsO,Fld.rg,RgI]⟩,⟨[2,2,0],rfl,by simp[rgE,fsO,Fld.rg,RgI]⟩,⟨[8,0,0],rfl,by simp[rgE,fsO,Fld.rg,RgI]⟩,⟨[7,0,0],rfl,by simp[rgE,fsO,Fld.rg,RgI]⟩,⟨[6,0,0],rfl,by simp[rgE,fsO,Fld.rg,RgI]⟩]
  p:=[⟨[1,0,6,4,1,0,0,0],rfl,by simp[rgE,fsP,Fld.rg,RgI]⟩]
  m:=[⟨[4,2,0,0],rfl,by simp[rgE,fsM,Fld.rg,RgI]⟩,⟨[3,2,0,0],rfl,by simp[rgE,fsM,Fld.rg,RgI]⟩]
  f:=[⟨[4,0,14352],rfl,by simp[rgE,fsF,Fld.rg,RgI]⟩,⟨[4,1,13],rfl,by simp[rgE,fsF,Fld.rg,RgI]⟩]
  t:=[⟨[0,2,0,0,1,0,14,2],rfl,by simp[rgE,fsT,Fld.rg,RgI]⟩]
  w:=[]
  s:=[⟨[0,1],rfl,by simp[rgE,fsS,Fld.rg,RgI]⟩]
theorem small_sm:DSmall smallD:=⟨by decide,by decide,by decide,by decide,by decide,by decide,by decide⟩
theorem small_ok:okD smallD:=by
 refine ⟨⟨by decide,?_⟩,⟨by decide,?_⟩,⟨by decide,?_⟩,⟨by decide,?_⟩,⟨by decide,?_⟩,⟨by decide,?_⟩,⟨by decide,?_⟩⟩
 all_goals
  unfold smallD;dsimp only;intro e he;simp only[List.mem_cons,List.not_mem_nil,or_false]at he
 ·
  rcases he with rfl | rfl | rfl | rfl | rfl <;> simp[okE,fsO,Fld.ok]
 ·
  rcases he with rfl;simp[okE,fsP,Fld.ok]
 ·
  rcases he with rfl | rfl <;> simp[okE,fsM,Fld.ok]
 ·
  rcases he with rfl | rfl <;> simp[okE,fsF,Fld.ok]
 ·
  rcases he with rfl;simp[okE,fsT,Fld.ok]
 ·
  rcases he with rfl;simp[okE,fsS,Fld.ok]
theorem small_p:planE smallD 100=0:=by decide +kernel
theorem small_T:tmsOk (timesD smallD):=by decide +kernel
theorem small_l:(planL smallD)[1]?=some (64,3):=by decide +kernel
theorem small_e:(bootM smallD 100).1=0:=by decide +kernel
theorem small_f:bootM smallD 64=(7,Kn.new 0 []):=bootM_plan (by decide +kernel)
theorem small_a:apartD smallD=true:=by decide +kernel
def smallK:Nat→Kn
  | 0=>(bootM smallD 100).2
  | i+1=>((smallK i).step yieldF).1
theorem small_st:stB (smallK 0)=true∧stB (smallK 1)=true∧stB (smallK 2)=true∧stB (smallK 3)=true∧stB (smallK 4)=true:=by decide +kernel
theorem small_go:((smallK 0).step yieldF).2=true∧((smallK 1).step yieldF).2=true∧((smallK 2).step yieldF).2=true∧((smallK 3).step yieldF).2=true∧((smallK 4).step yieldF).2=true:=by decide +kernel
theorem small_tl:(smallK 0).tl.length≤6∧(smallK 1).tl.length≤6∧(smallK 2).tl.length≤6∧(smallK 3).tl.length≤6∧(smallK 4).tl.length≤6:=by decide +kernel
theorem small_pc:(thrT (smallK 5) 0).pc=1:=by decide +kernel
theorem small_sr:(thrT (smallK 5) 0).st=1:=by decide +kernel
theorem small_is:((smallK 5).thr 0).isSome=true:=by decide +kernel
theorem small_ln:((planL smallD).length:Int)=5:=by rw[planL_len];rfl
theorem small_pol:policyD smallD=[9,0,0,0,0,0,0,0,0,0,0,0,0,0,0,0,0,0,0,0,0,0,0,0,0,0,0,0,0,0,0,0,0,0,0,0,0,0,0,0,0,0,0,0,0,0,0,0,0,0,0,0,0,0,0,0,0,0,0,0,0,0,0,0]:=by decide +kernel
theorem smallK_s(i:Nat):smallK (i+1)=((smallK i).step yieldF).1:=by rw[smallK]
theorem smallK_z:smallK 0=(bootM smallD 100).2:=by rw[smallK]
attribute [local irreducible] bootM Kn.step smallK
theorem small_kw:∀i,i≤5→KW (smallK i)
  | 0,_=>by
    have h0:KW (bootM smallD 100).2:=by
      rw[bootM_ok small_p small_T];exact (acts_kx small_sm (n:=(100:Int).toNat) (by decide) (by decide) small_T (b:=[]) (List.append_nil _).symm).kw
    rw[smallK_z];exact h0
  | i+1,h=>by
    have ih:=small_kw i (by omega)
    have hs:StY (smallK i):=by
      rcases (by omega:i=0∨i=1∨i=2∨i=3∨i=4) with rfl | rfl | rfl | rfl | rfl
      · exact StY.of ih small_tl.1 small_st.1
      · exact StY.of ih small_tl.2.1 small_st.2.1
      · exact StY.of ih small_tl.2.2.1 small_st.2.2.1
      · exact StY.of ih small_tl.2.2.2.1 small_st.2.2.2.1
      · exact StY.of ih small_tl.2.2.2.2 small_st.2.2.2.2
    rw[smallK_s];exact (step_kw hs).1
theorem small_sy{i:Nat}(h:i<5):StY (smallK i)∧((smallK i).step yieldF).2=true:=by
 have ih:=small_kw i (by omega)
 rcases (by omega:i=0∨i=1∨i=2∨i=3∨i=4) with rfl | rfl | rfl | rfl | rfl
 ·
  exact ⟨StY.of ih small_tl.1 small_st.1,small_go.1⟩
 ·
  exact ⟨StY.of ih small_tl.2.1 small_st.2.1,small_go.2.1⟩
 ·
  exact ⟨StY.of ih small_tl.2.2.1 small_st.2.2.1,small_go.2.2.1⟩
 ·
  exact ⟨StY.of ih small_tl.2.2.2.1 small_st.2.2.2.1,small_go.2.2.2.1⟩
 ·
  exact ⟨StY.of ih small_tl.2.2.2.2 small_st.2.2.2.2,small_go.2.2.2.2⟩
theorem decP_enc{D D' : Dd}{e:Int}(h:okD D)(hd:DecP ([67,68]++encD D) D' e):D' = D∧e=0:=by
 have h0:([67,68]++encD D).drop 2=encD D:=rfl
 have hr:=rdD_enc h
 rcases hd with ⟨_,h2,h3⟩ | ⟨h1,_,_⟩
 ·
  rw[h0,hr]at h2;cases h2;exact ⟨rfl,h3⟩
 ·
  exact absurd ⟨rfl,by rw[h0];exact ⟨D,hr⟩⟩ h1
theorem decP_none{D' : Dd}{e:Int}(hd:DecP [67,68] D' e):e=10:=by
 rcases hd with ⟨_,h2,_⟩ | ⟨_,_,h⟩
 ·
  have:=(enc_rdD h2).1
  exfalso
  have hl:=congrArg List.length this
  unfold encD at hl;simp only[Y3,encL_len]at hl;simp at hl;omega
 ·
  exact h
end
section
theorem tr_kRunZ(k:Kn)(A:KA)(ad:Nat→Ad)(kb:Nat)(L:Hp)(hK:KH k A ad kb L)(hw:KW k){i:Nat}{t:ThrM}{c:CapM}{s b:Int}{sp:Int×Int}(he:k.ar[i]?=some ⟨.thr t c s b,sp⟩)(hs:s = -1∨∃j,k.ix s=some j)(n:Int)(hr:k.tl.length≤6)(hb:¬badI k t s)(h03:(effI k t s).asks=0∨(effI k t s).asks=3)(h3:(effI k t s).asks=3→(effI k t s).val=7) :
    Tr prog 60 [pV kb,.int .i64 n,pV (ad i).tb] L (fun u L' => u=.bool true∧KH (k.run (fun k' c=>yieldF k' n i c) i t s).1 A ad kb L')∧(k.run (fun k' c=>yieldF k' n i c) i t s).2=true:=by
  have htw:=(hw.ths i _ he).1
  have he1:(k.atK s t.pc).ar[i]?=some ⟨.thr t c s b,sp⟩:=he
  have hw1:=hw.atK s t.pc (by omega)
  generalize hx:effI k t s=x at *
  have h4:x.asks≠4:=by omega
  have h1:x.asks≠1:=by omega
  have h2:x.asks≠2:=by omega
  by_cases h5:x.asks=3
  · have e:k.run (fun k' c=>yieldF k' n i c) i t s=(({ (k.atK s t.pc).setI i (doneT x) with L:=syL ((k.atK s t.pc).setI i (doneT x)).L n }:Kn).tell i 0,true):=by
      unfold Kn.run;simp only[if_neg hb,hx,if_neg h4,if_neg h1,if_neg h2,if_pos h5,yieldF,h3 h5,if_true,Bool.false_eq_true,if_false]
    rw[e];refine ⟨?_,rfl⟩;have hxo:x.Ok:=by rw[←hx];exact run_ok (unpI_ok (Decidable.of_not_not (fun h=>hb (.inr h)))) htw.wf.regs htw.pc
    refine tr_kRunCall k A ad kb L hK hw he hs n hr hb x hx h5 _ (fun L2 hK2=>?_);rw[h3 h5];exact tr_cYield _ A ad kb L2 hK2 (hw1.setI i (fun t ht=>done_w ht hxo)).1 n (setI_get he1 (doneT x))
  · have e:k.run (fun k' c=>yieldF k' n i c) i t s=((k.atK s t.pc).setI i (doneT x),true):=by unfold Kn.run;simp only[if_neg hb,hx,if_neg h4,if_neg h1,if_neg h2,if_neg h5]
    rw[e];exact ⟨tr_kRunPlain k A ad kb L hK hw he hs n hr hb x hx ⟨h4,h1,h2,h5⟩,rfl⟩
def stZ (k:Kn):Bool:=k.curB && match k.thr k.cur with
  | none=>false
  | some x=>!decide (badI k x.1 x.2.2.1) && (decide ((effI k x.1 x.2.2.1).asks=0) || decide ((effI k x.1 x.2.2.1).asks=3))
theorem small_z:stZ (smallK 0)=true∧stZ (smallK 1)=true∧stZ (smallK 2)=true∧stZ (smallK 3)=true∧stZ (smallK 4)=true:=by decide +kernel
theorem small_zi{i:Nat}(h:i<5):stZ (smallK i)=true:=by
 rcases (by omega:i=0∨i=1∨i=2∨i=3∨i=4) with rfl | rfl | rfl | rfl | rfl
 ·
  exact small_z.1
 ·
  exact small_z.2.1
 ·
  exact small_z.2.2.1
 ·
  exact small_z.2.2.2.1
 ·
  exact small_z.2.2.2.2
theorem tr_kStepZ{k:Kn}(A:KA)(ad:Nat→Ad)(kb:Nat)(L:Hp)(hK:KH k A ad kb L)(h:StY k)(hz:stZ k=true):Tr prog 25 [pV kb] L (fun u L' => u=.bool true∧KH (k.step yieldF).1 A ad kb L'):=by
 unfold stZ at hz;rw[Bool.and_eq_true]at hz;obtain ⟨hB,hz⟩:=hz;obtain ⟨x,hx⟩:=Option.isSome_iff_exists.1 (h.cur hB);rw[hx]at hz;simp only[Bool.and_eq_true,Bool.or_eq_true,decide_eq_true_eq,Bool.not_eq_true', decide_eq_false_iff_not]at hz;obtain ⟨i,sp,hi,he⟩:=thr_ex hx;have hs:x.2.2.1 = -1∨∃j,k.ix x.2.2.1=some j:=(h.sp x hx).imp id (fun q=>Option.isSome_iff_exists.1 q)
 have hrun:∀L2,KH k A ad kb L2→_:=fun L2 hK2=>tr_kRunZ k A ad kb L2 hK2 h.kw he hs k.cur h.tl hz.1 hz.2 (h.c3 x hx hz.1)
 rw[step_yes hB hi hx,if_pos (hrun L hK).2];exact tr_kStepT k A ad kb L hK h.kw hB hi he _ (fun L2 hK2=>(hrun L2 hK2).1)
end
end Go.Proofs.YtmoeokkelkgnhaaGreat
