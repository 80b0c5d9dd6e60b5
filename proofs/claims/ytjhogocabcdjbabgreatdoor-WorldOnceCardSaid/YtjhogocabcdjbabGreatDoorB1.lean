import Derived.Great.BuildSlice
import Derived.WideLaws
import Derived.Stop.Asserts
import Derived.Lib.ItoaLen
import Derived.Lib.Join
import Derived.ProofKit
import Derived.OpenShut
import Derived.Deep.DeepHandedRow
import Derived.Deep.Slices
import Derived.Lay
import Derived.LaidHandle
import Derived.Lib.LaidTab
import Derived.Lib.AppendIntMem
import Derived.RangeFuncRecord
import Derived.RangeFuncCalls
import Derived.RangeFuncBound
import Derived.OrdersIn
import Derived.Lib.SplitLaws
import Derived.Lib.AtoiAll
import Derived.Lib.IndexLaws
import Derived.Lib.IndexBytes
import Derived.Lib.ItoaMem
import Derived.Laws.Strings3
import Derived.Laws.Slices
import Derived.Test.YtjhogocabcdjbabGreatDoorShelf
import Derived.Lib.AtoiErrMem
import Derived.Maps.OwnOps
import Derived.Test.YtjhogocabcdjbabGreatDoorB0
set_option linter.unusedSimpArgs false
set_option linter.unusedVariables false
/- the steps of the calculus: slices that grow and shrink -/
namespace WB
open Go Go.RowKit
section
variable {P:Program} {ops:Array Oper} {d:Bool} {Q:Exit→Act→World→Prop} {n:Nat} {D:List Deferred} {w0:World} {G:Env} {L R N:List HP} {l:List (Kd×Oper)} {k:Kd}
 {t:Nat} {op:Op} {ty T T' E:TypeId} {pos:String} {af:Array Edge} {x y z:Operand} {v u:Value} {i j:Nat} {a c r:Int} {α:Type} {cf:α→List Value} {sz:Nat} {xs ys:List α} {e:α}
theorem KO.wv (hk:(!d||k== .write)=true) (hr:∀a w,Knows n D G a→St w0 L w→∃w',(execOp a.eval ⟨some t,op,ty,pos,af,none⟩).run P w=.ok (.value v) w'∧St w0 N w') (ht:Nat.blt t n=true)
 (h:KO P ops d Q n D w0 ((t,v)::G) N l):KO P ops d Q n D w0 G L ((k,⟨some t,op,ty,pos,af,none⟩)::l):=fun a w ha hw=>by
 obtain⟨w',hr,hs⟩:=hr a w ha hw
 refine vcG_write hk rfl ?_
 unfold Oper.wp
 rw[hr]
 exact h _ w' (put_dst ha _ ht) hs
theorem KO.wn (hk:(!d||k== .write)=true) (hr:∀a w,Knows n D G a→St w0 L w→∃w' u,(execOp a.eval ⟨none,op,ty,pos,af,none⟩).run P w=.ok (.value u) w'∧St w0 N w')
 (h:KO P ops d Q n D w0 G N l):KO P ops d Q n D w0 G L ((k,⟨none,op,ty,pos,af,none⟩)::l):=fun a w ha hw=>by
 obtain⟨w',u,hr,hs⟩:=hr a w ha hw
 refine vcG_write hk rfl ?_
 unfold Oper.wp
 rw[hr]
 exact h _ w' ha hs
theorem KO.wvE (hk:(!d||k== .write)=true) {F:Value→List HP} (hr:∀a w,Knows n D G a→St w0 L w→∃v w',(execOp a.eval ⟨some t,op,ty,pos,af,none⟩).run P w=.ok (.value v) w'∧St w0 (F v) w') (ht:Nat.blt t n=true)
 (h:∀v,KO P ops d Q n D w0 ((t,v)::G) (F v) l):KO P ops d Q n D w0 G L ((k,⟨some t,op,ty,pos,af,none⟩)::l):=fun a w ha hw=>by
 obtain⟨v,w',hr,hs⟩:=hr a w ha hw
 refine vcG_write hk rfl ?_
 unfold Oper.wp
 rw[hr]
 exact h v _ w' (put_dst ha _ ht) hs
theorem run_cut {w:World} {bs:Option Addr} {len cap lo hi mx:Nat} {l h m:Option Value} (hT:P.underlying T=some (.slice E)) (hs:(Go.sizeOf E).run P w=.ok sz w)
 (hm:match m with|none=>mx=cap|some v=>v=.int .i64 (mx:Nat)) (hh:match h with|none=>hi=len∧m=none|some v=>v=.int .i64 (hi:Nat)) (hl:match l with|none=>lo=0|some v=>v=.int .i64 (lo:Nat))
 (h1:lo≤hi) (h2:hi≤mx) (h3:mx≤cap):
 (Instr.sliceAt T (.slice bs len cap) l h m).run P w=.ok (.slice (if mx=lo then bs else bs.map (·.add (lo *sz))) (hi-lo) (mx-lo)) w:=by
 have e1:∀(i y:Nat) (code:BoundsCode),i≤y→(Instr.sliceBound (.int .i64 (i:Nat)) y code).run P w=.ok i w:=fun i y code h=>by
  simp[Instr.sliceBound,asIntOf,h]
 cases m with
 |none=>
  cases h with
  |none=>
   obtain⟨rfl,_⟩:=hh
   cases l with
   |none=>simp only at hm hl;subst hm;subst hl;simp[Instr.sliceAt,run_underlying hT,Instr.slice,Instr.sliceBounds,hs]
   |some v=>simp only at hm hl;subst hm;subst hl;simp[Instr.sliceAt,run_underlying hT,Instr.slice,Instr.sliceBounds,hs,e1 _ _ _ h1]
  |some v=>
   simp only at hh;subst hh
   cases l with
   |none=>simp only at hm hl;subst hm;subst hl;simp[Instr.sliceAt,run_underlying hT,Instr.slice,Instr.sliceBounds,hs,e1 _ _ _ h2]
   |some v=>simp only at hm hl;subst hm;subst hl;simp[Instr.sliceAt,run_underlying hT,Instr.slice,Instr.sliceBounds,hs,e1 _ _ _ h1,e1 _ _ _ h2]
 |some vm=>
  simp only at hm;subst hm
  cases h with
  |none=>simp at hh
  |some v=>
   simp only at hh;subst hh
   cases l with
   |none=>simp only at hl;subst hl;simp[Instr.sliceAt,run_underlying hT,Instr.slice,Instr.sliceBounds,hs,e1 _ _ _ h2,e1 _ _ _ h3]
   |some v=>simp only at hl;subst hl;simp[Instr.sliceAt,run_underlying hT,Instr.slice,Instr.sliceBounds,hs,e1 _ _ _ h1,e1 _ _ _ h2,e1 _ _ _ h3]
def cutAt (g:Nat) (lo sz mx:Nat):Addr:=⟨g,if mx=lo then 0 else lo *sz,none⟩
theorem cutAt_eq (g lo sz mx:Nat):(if mx=lo then(some ⟨g,0,none⟩:Option Addr)else(some (⟨g,0,none⟩:Addr)).map (·.add (lo *sz)))=some (cutAt g lo sz mx):=by
 unfold cutAt
 by_cases h:mx=lo
 ·simp[h]
 ·simp[h,Addr.add_lit]
theorem KO.cutTo {bs:Option Addr} {len cap hi:Nat} (hx:ev G x=some (.slice bs len cap)) (hy:ev G y=some (.int .i64 c)) (hT:P.underlying T=some (.slice E)) (hs:∀w,(Go.sizeOf E).run P w=.ok sz w) (hc:c=(hi:Int)) (h2:hi≤cap) (ht:Nat.blt t n=true)
 (h:KO P ops d Q n D w0 ((t,.slice bs hi cap)::G) L l):KO P ops d Q n D w0 G L ((k,⟨some t,.slice T x none (some y) none,ty,pos,af,none⟩)::l):=
 KO.val (fun a w ha=>by
  subst hc
  have :=run_cut (P:=P) (w:=w) (bs:=bs) (len:=len) (cap:=cap) (lo:=0) (hi:=hi) (mx:=cap) (l:=none) (h:=some (.int .i64 (hi:Nat))) (m:=none) hT (hs w) rfl rfl rfl (Nat.zero_le _) h2 (Nat.le_refl _)
  have e:(if cap=0 then bs else bs.map (·.add (0*sz)))=bs:=by
   split
   ·rfl
   ·cases bs<;>simp[Addr.add_zero']
  simp only[e,Nat.sub_zero]at this
  simp[execOp,ha.eval hx,ha.eval hy,this]) ht h
theorem KO.cutFrom {g len cap lo:Nat} (hx:ev G x=some (.slice (some ⟨g,0,none⟩) len cap)) (hy:ev G y=some (.int .i64 c)) (hT:P.underlying T=some (.slice E)) (hs:∀w,(Go.sizeOf E).run P w=.ok sz w) (hc:c=(lo:Int)) (h1:lo≤len) (h2:len≤cap) (ht:Nat.blt t n=true)
 (h:KO P ops d Q n D w0 ((t,.slice (some (cutAt g lo sz cap)) (len-lo) (cap-lo))::G) L l):KO P ops d Q n D w0 G L ((k,⟨some t,.slice T x (some y) none none,ty,pos,af,none⟩)::l):=
 KO.val (fun a w ha=>by
  subst hc
  have :=run_cut (P:=P) (w:=w) (bs:=some ⟨g,0,none⟩) (len:=len) (cap:=cap) (lo:=lo) (hi:=len) (mx:=cap) (l:=some (.int .i64 (lo:Nat))) (h:=none) (m:=none) hT (hs w) rfl ⟨rfl,rfl⟩ rfl h1 h2 (Nat.le_refl _)
  rw[cutAt_eq]at this
  simp[execOp,ha.eval hx,ha.eval hy,this]) ht h
theorem KO.cutMid {g len cap lo hi:Nat} {b:Int} (hx:ev G x=some (.slice (some ⟨g,0,none⟩) len cap)) (hy:ev G y=some (.int .i64 c)) (hz:ev G z=some (.int .i64 b)) (hT:P.underlying T=some (.slice E)) (hs:∀w,(Go.sizeOf E).run P w=.ok sz w) (hc:c=(lo:Int)) (hb:b=(hi:Int)) (h1:lo≤hi) (h2:hi≤cap) (ht:Nat.blt t n=true)
 (h:KO P ops d Q n D w0 ((t,.slice (some (cutAt g lo sz cap)) (hi-lo) (cap-lo))::G) L l):KO P ops d Q n D w0 G L ((k,⟨some t,.slice T x (some y) (some z) none,ty,pos,af,none⟩)::l):=
 KO.val (fun a w ha=>by
  subst hc;subst hb
  have :=run_cut (P:=P) (w:=w) (bs:=some ⟨g,0,none⟩) (len:=len) (cap:=cap) (lo:=lo) (hi:=hi) (mx:=cap) (l:=some (.int .i64 (lo:Nat))) (h:=some (.int .i64 (hi:Nat))) (m:=none) hT (hs w) rfl rfl rfl h1 h2 (Nat.le_refl _)
  rw[cutAt_eq]at this
  simp[execOp,ha.eval hx,ha.eval hy,ha.eval hz,this]) ht h
theorem KO.cutAny {u:Operand} {bs:Option Addr} {len cap lo hi mx:Nat} {b m:Int} (hx:ev G x=some (.slice bs len cap)) (hy:ev G y=some (.int .i64 c)) (hz:ev G z=some (.int .i64 b)) (hu:ev G u=some (.int .i64 m)) (hT:P.underlying T=some (.slice E)) (hs:∀w,(Go.sizeOf E).run P w=.ok sz w) (hc:c=(lo:Int)) (hb:b=(hi:Int)) (hm:m=(mx:Int))
 (h1:lo≤hi) (h2:hi≤mx) (h3:mx≤cap) (ht:Nat.blt t n=true)
 (h:∀q,KO P ops d Q n D w0 ((t,.slice q (hi-lo) (mx-lo))::G) L l):KO P ops d Q n D w0 G L ((k,⟨some t,.slice T x (some y) (some z) (some u),ty,pos,af,none⟩)::l):=
 KO.val (v:=.slice (if mx=lo then bs else bs.map (·.add (lo *sz))) (hi-lo) (mx-lo)) (fun a w ha=>by
  subst hc;subst hb;subst hm
  have :=run_cut (P:=P) (w:=w) (bs:=bs) (len:=len) (cap:=cap) (lo:=lo) (hi:=hi) (mx:=mx) (l:=some (.int .i64 (lo:Nat))) (h:=some (.int .i64 (hi:Nat))) (m:=some (.int .i64 (mx:Nat))) hT (hs w) rfl rfl rfl h1 h2 h3
  simp[execOp,ha.eval hx,ha.eval hy,ha.eval hz,ha.eval hu,this]) ht (h _)
end
theorem flat_one {α:Type} {cf:α→List Value} (h1:∀e,∀u∈cf e,u.oneCell'=true) (xs:List α):∀u∈xs.flatMap cf,u.oneCell'=true:=fun u hu=>by
 obtain⟨e,_,hu⟩:=List.mem_flatMap.1 hu
 exact h1 e u hu
section
variable {P:Program} {w0 w:World} {L:List HP} {E T ty:TypeId} {α:Type} {cf:α→List Value} {sz g cap n:Nat} {xs:List α}
theorem SL_open (h:St w0 (SL E sz cf (.slice (some ⟨g,0,none⟩) n cap) xs::L) w):n=xs.length∧n≤cap∧cap≤maxLen∧∃cur:Array Value,cur.size=cap *sz∧cur.toList.take (xs.length *sz)=xs.flatMap cf∧St w0 (blk g (.cells cur E (0,0))::L) w:=by
 rcases h.osl_cases with⟨h1,_⟩|⟨g',cap',cur,hv,h1,h2,h3,h4,_,h5⟩
 ·simp at h1
 ·simp only[Value.slice.injEq,Option.some.injEq,Addr.mk.injEq,and_true,true_and]at hv
  obtain⟨rfl,rfl,rfl⟩:=hv
  exact⟨rfl,h1,h2,cur,h3,h4,h5⟩
theorem SL_mk {cur:Array Value} (h:St w0 (blk g (.cells cur E (0,0))::L) w) (hn:xs.length≤cap) (hc:cap≤maxLen) (hs:cur.size=cap *sz) (ht:cur.toList.take (xs.length *sz)=xs.flatMap cf):
 St w0 (SL E sz cf (.slice (some ⟨g,0,none⟩) xs.length cap) xs::L) w:=h.osl_mk hn hc hs ht
theorem SL_move (hsz:∀e,(cf e).length=sz) (h1:∀e,∀u∈cf e,u.oneCell'=true) {i:TypeInfo} (hT:P.underlying T=some (.slice E)) (hi:P.info? E=some i) (hisz:i.size=sz)
 {n j k c o:Nat} (h:St w0 (SL E sz cf (.slice (some ⟨g,0,none⟩) n cap) xs::L) w) (hk:k≤j) (hj:j≤xs.length) (ho:xs.length-j=0∨o=j *sz):
 ∃w',(Builtin.append_ #[T,T] ty #[.slice (some ⟨g,0,none⟩) k cap,.slice (some ⟨g,o,none⟩) (xs.length-j) c]).run P w=.ok (.slice (some ⟨g,0,none⟩) (k+(xs.length-j)) cap) w'∧
  St w0 (SL E sz cf (.slice (some ⟨g,0,none⟩) xs.length cap) (xs.take k++xs.drop j++xs.drop (k+(xs.length-j)))::L) w':=by
 obtain⟨rfl,hnc,hcm,cur,hcs,htake,hb⟩:=SL_open h
 subst hisz
 have hfl:∀l:List α,(l.flatMap cf).length=l.length *i.size:=flat_len cf i.size hsz
 have hcl:cur.toList.length=cap *i.size:=by simpa using hcs
 have hcell:∀(q:Nat) (u:Value),(xs.flatMap cf)[q]? =some u→cur[q]? =some u:=fun q u hq=>by
  rw[←htake,List.getElem?_take]at hq
  split at hq
  ·simpa using hq
  ·simp at hq
 have hnews:∀(q:Nat) (u:Value),((xs.drop j).flatMap cf)[q]? =some u→w.cell? ((⟨g,o,none⟩:Addr).add q)=some u:=fun q u hq=>by
  have hlt:=(List.getElem?_eq_some_iff.1 hq).1
  rw[hfl,List.length_drop]at hlt
  rcases ho with ho|ho
  ·rw[ho,Nat.zero_mul]at hlt;omega
  ·rw[←flat_drop cf i.size hsz xs j hj,List.getElem?_drop]at hq
   rw[Addr.add_lit,World.cell?,hb.look.2,ho]
   exact hcell _ u hq
 have hle:(k+(xs.length-j))*i.size≤cap *i.size:=Nat.mul_le_mul_right _ (by omega)
 have hr:=run_append_room (P:=P) w T ty E i hT hi g k cap cur hb.look.2 ⟨g,o,none⟩ (xs.length-j) c ((xs.drop j).flatMap cf) (by rw[hfl,List.length_drop]) hnews (flat_one h1 _) (by omega)
  (by rw[hfl,List.length_drop,←Nat.add_mul,hcs];exact hle)
 refine⟨_,hr,?_⟩
 have e1:(xs.take k++xs.drop j++xs.drop (k+(xs.length-j))).length=xs.length:=by simp;omega
 have hset:=hb.setRow (c':=(cur.toList.take (k *i.size)++(xs.drop j).flatMap cf++cur.toList.drop (k *i.size+((xs.drop j).flatMap cf).length)).toArray)
 have :=SL_mk (xs:=xs.take k++xs.drop j++xs.drop (k+(xs.length-j))) (cf:=cf) (sz:=i.size) (cap:=cap) hset (by omega) hcm ?_ ?_
 ·rw[e1]at this;exact this
 ·simp only[List.size_toArray,List.length_append,List.length_take,List.length_drop,hfl,hcl,Nat.min_def]
  have :=Nat.mul_le_mul_right i.size (show k≤cap by omega)
  rw[if_pos this,←Nat.add_mul];omega
 ·rw[e1]
  simp only[List.flatMap_append,hfl,List.length_drop]
  have hk1:cur.toList.take (k *i.size)=(xs.take k).flatMap cf:=by
   rw[←flat_take cf i.size hsz xs k (by omega),←htake,List.take_take,Nat.min_eq_left (Nat.mul_le_mul_right _ (by omega))]
  rw[hk1,←flat_drop cf i.size hsz xs (k+(xs.length-j)) (by omega),←htake]
  have hlA:((xs.take k).flatMap cf++(xs.drop j).flatMap cf).length=(k+(xs.length-j))*i.size:=by
   rw[List.length_append,hfl,hfl,List.length_take,List.length_drop,Nat.min_eq_left (by omega),Nat.add_mul]
  rw[List.take_append,hlA,List.take_of_length_le (by rw[hlA];exact Nat.mul_le_mul_right _ (by omega))]
  congr 1
  rw[←Nat.add_mul,List.take_drop,show(k+(xs.length-j))*i.size+(xs.length *i.size-(k+(xs.length-j))*i.size)=xs.length *i.size by
   have :=Nat.mul_le_mul_right i.size (show k+(xs.length-j)≤xs.length by omega);omega]
theorem SL_clear (hsz:∀e,(cf e).length=sz) {i:TypeInfo} {z:Value} (hT:P.underlying T=some (.slice E)) (hi:P.info? E=some i) (hz:i.zero=some z) (hz1:∀u∈z.cells.toList,u.oneCell'=true) (hzs:z.cells.size=sz)
 {n m c o q:Nat} (h:St w0 (SL E sz cf (.slice (some ⟨g,0,none⟩) n cap) xs::L) w) (hq:q+m≤xs.length) (ho:m=0∨o=q *sz):
 ∃w' u,(Builtin.clear_ #[T] ty #[.slice (some ⟨g,o,none⟩) m c]).run P w=.ok u w'∧St w0 (SL E sz cf (.slice (some ⟨g,0,none⟩) q cap) (xs.take q)::L) w':=by
 obtain⟨rfl,hnc,hcm,cur,hcs,htake,hb⟩:=SL_open h
 have hql:(xs.take q).length=q:=by simp;omega
 have hqt:cur.toList.take (q *sz)=(xs.take q).flatMap cf:=by
  rw[←flat_take cf sz hsz xs q (by omega),←htake,List.take_take,Nat.min_eq_left (Nat.mul_le_mul_right _ (by omega))]
 by_cases hm:m=0
 ·subst hm
  refine⟨w,.tuple #[],by simp[Builtin.clear_,run_underlying hT],?_⟩
  have :=SL_mk (xs:=xs.take q) (cf:=cf) (sz:=sz) (cap:=cap) hb (by omega) hcm hcs (by rw[hql];exact hqt)
  rw[hql]at this;exact this
 ·have ho:=ho.resolve_left hm
  subst ho
  have hzl:(Builtin.zeroCells z.cells m).toList.length=m *sz:=by simp[size_zeroCells,hzs]
  have hone:∀u∈(Builtin.zeroCells z.cells m).toList,u.oneCell'=true:=fun u hu=>by
   simp only[Builtin.zeroCells,Array.toList_map,List.mem_map]at hu
   obtain⟨j,hj,rfl⟩:=hu
   have hp:0<z.cells.size:=by
    rcases Nat.eq_zero_or_pos z.cells.size with h0|h0
    ·simp[h0]at hj
    ·exact h0
   have :j%z.cells.size<z.cells.size:=Nat.mod_lt _ hp
   rw[getElem!_pos z.cells _ this]
   exact hz1 _ (Array.mem_toList_iff.2 (Array.getElem_mem this))
  have hfit:q *sz+0+(Builtin.zeroCells z.cells m).toList.length≤cur.size:=by
   rw[hzl,hcs,Nat.add_zero,←Nat.add_mul];exact Nat.mul_le_mul_right _ (by omega)
  have hst:=run_storeCells_at P g (q *sz) E (Builtin.zeroCells z.cells m).toList 0 cur w hb.look.2 hfit hone
  simp only[Nat.add_zero]at hst
  have hmm:∃m',m=m'+1:=⟨m-1,by omega⟩
  obtain⟨m',rfl⟩:=hmm
  refine⟨w.setRow g (cur.toList.take (q *sz)++(Builtin.zeroCells z.cells (m'+1)).toList++cur.toList.drop (q *sz+(Builtin.zeroCells z.cells (m'+1)).toList.length)).toArray,.tuple #[],by simp[Builtin.clear_,run_underlying hT,zeroValue,typeInfo,hi,hz,hst],?_⟩
  have :=SL_mk (xs:=xs.take q) (cf:=cf) (sz:=sz) (cap:=cap) (hb.setRow (c':=(cur.toList.take (q *sz)++(Builtin.zeroCells z.cells (m'+1)).toList++cur.toList.drop (q *sz+(Builtin.zeroCells z.cells (m'+1)).toList.length)).toArray)) (by omega) hcm ?_ ?_
  ·rw[hql]at this;exact this
  ·have hcl:cur.toList.length=cap *sz:=by simpa using hcs
   simp only[List.size_toArray,List.length_append,List.length_take,List.length_drop,hcl,hzl,Nat.min_def]
   have :=Nat.mul_le_mul_right sz (show q≤cap by omega)
   have h3:=Nat.mul_le_mul_right sz (show q+(m'+1)≤cap by omega)
   rw[Nat.add_mul]at h3
   rw[if_pos this];omega
  ·rw[hql,List.append_assoc,List.take_append_of_le_length]
   ·rw[List.take_take,Nat.min_self];exact hqt
   ·have hcl:cur.toList.length=cap *sz:=by simpa using hcs
    rw[List.length_take,hcl,Nat.min_eq_left (Nat.mul_le_mul_right _ (by omega))];exact Nat.le_refl _
end
end WB
namespace WB
open Go Go.RowKit
theorem St.swapQ {w0 w:World} {A B:HP} {R R':List HP} (h:St w0 (A::R) w) (hq:Pick R B R'):St w0 (A::B::R') w:=by
 have :=h.pick (.tail hq)
 exact this.pick (.tail .head)
theorem St.drop2 {w0 w:World} {A B:HP} {R:List HP} (h:St w0 (A::B::R) w):St w0 (A::R) w:=(h.pick (.tail .head)).drop
end WB
/- the steps of the calculus: what grows, what is moved, elements written -/
namespace WB
open Go Go.RowKit
section
variable {P:Program} {ops:Array Oper} {d:Bool} {Q:Exit→Act→World→Prop} {n:Nat} {D:List Deferred} {w0:World} {G:Env} {L R R' N:List HP} {l:List (Kd×Oper)} {k:Kd}
 {t:Nat} {op:Op} {ty T T' E E':TypeId} {pos:String} {af:Array Edge} {x y:Operand} {v u z:Value} {i j:Nat} {a c r:Int} {α:Type} {cf:α→List Value} {sz by':Nat} {xs ys:List α} {e e':α}
theorem KO.bs (hk:(!d||(k== .keep||k== .write))=true) {len:Nat} {parts:Array (Nat×Operand)} (os:List Operand) {vs cs:List Value} (hp:parts.toList=(os.zipIdx 0).map fun x=>(x.2,x.1)) (hv:evs G os=some vs) (hT:P.underlying T=some (.slice E))
 (hi:(P.info? E).map (fun i=>(i.zero,i.size,i.bytes))=some (some z,sz,by')) (hsz:vs.all (fun v=>v.cells.size==sz)=true) (hlen:vs.length=len) (hs:¬len *sz>2^24) (hpos:¬len *sz=0) (hcs:(vs.flatMap fun v=>v.cells.toList)=cs) (ht:Nat.blt t n=true)
 (h:∀bb,KO P ops d Q n D w0 ((t,.slice (some ⟨bb,0,none⟩) len len)::G) (blk bb (.cells cs.toArray E (0,0))::L) l):KO P ops d Q n D w0 G L ((k,⟨some t,.buildSlice T len parts,ty,pos,af,none⟩)::l):=by
 obtain⟨i0,hi1,hz0,hz1,_⟩:=info_parts hi
 refine KO.keepRun hk (F:=fun bb=>.slice (some ⟨bb,0,none⟩) len len) (N:=fun bb=>blk bb (.cells cs.toArray E (0,0))::L) (fun a w ha hw=>⟨w.heap.size,w.alloc (.cells cs.toArray E),?_,Ext.alloc w _,hw.alloc _⟩) ht h
 have hparts:(parts.map fun(i,x)=>(i,a.eval x)).toList=(vs.zipIdx 0).map fun x=>(x.2,x.1):=by
  have key:∀(os:List Operand) (vs:List Value) (q:Nat),os.map (ev G)=vs.map some→((os.zipIdx q).map fun x=>(x.2,x.1)).map (fun(p:Nat×Operand)=>(p.1,a.eval p.2))=(vs.zipIdx q).map fun x=>(x.2,x.1):=by
   intro os
   induction os with
   |nil=>intro vs q h;cases vs with|nil=>rfl|cons _ _=>simp at h
   |cons o os ih=>intro vs q h;cases vs with
    |nil=>simp at h
    |cons v vs=>
     simp only[List.map_cons,List.cons.injEq]at h
     simp only[List.zipIdx_cons,List.map_cons,ha.eval h.1]
     rw[ih vs (q+1) h.2]
  rw[Array.toList_map,hp]
  exact key os vs 0 (evs_map hv)
 have hsp:0<sz:=Nat.pos_of_ne_zero fun e=>hpos (by rw[e,Nat.mul_zero])
 have hf:=Great.fill_whole hsp vs ((Array.range (len *sz)).map (z.cells[· %z.cells.size]!)) (fun v hv=>by simpa using List.all_eq_true.1 hsz v hv) (by simp[hlen])
 rw[←hz1]at hf hs hpos
 have hr:=run_buildSlice (P:=P) w T E len (parts.map fun(i,x)=>(i,a.eval x)) _ i0 z hT hi1 hz0 hs hpos (by rw[hparts];exact hf)
 simp only[hcs]at hr
 simp only[execOp,hr,Sem.run_bind,Sem.run_pure,Result.andThen_ok]
theorem KO.app (hk:(!d||k== .write)=true) {bv cp:Nat} {us:List Value} (hx:ev G x=some v) (hy:ev G y=some (.slice (some ⟨bv,0,none⟩) 1 cp)) (hp:Pick L (SL E sz cf v xs) R) (hq:Pick R (blk bv (.cells us.toArray E' (0,0))) R')
 (hT:P.underlying T=some (.slice E)) (hi:(P.info? E).map (fun i=>(i.zero,i.size,i.bytes))=some (some z,sz,by')) (hzs:z.cells.size=sz) (e:α) (he:cf e=us) (hus:us.length=sz) (h1:us.all Value.oneCell'=true) (hb:xs.length<1000000000) (hby:by'≤10000) (ht:Nat.blt t n=true)
 (h:∀v',KO P ops d Q n D w0 ((t,v')::G) (SL E sz cf v' (xs++[e])::R') l):KO P ops d Q n D w0 G L ((k,⟨some t,.call ⟨.builtin .append,#[x,y],#[T,T]⟩,ty,pos,af,none⟩)::l):=by
 obtain⟨i0,hi1,hz0,hz1,hz2⟩:=info_parts hi
 refine KO.wvE hk (F:=fun v'=>SL E sz cf v' (xs++[e])::R') (fun a w ha hw=>?_) ht h
 have hs:=hw.pick hp
 have hcells:HasCells w ⟨bv,0,none⟩ us:=by
  have :=hs.drop.pick hq
  exact this.hasCells fun j c hj=>by simpa using hj
 have hbb:(xs.length+1)*by'≤140737488355328:=by
  have :=Nat.mul_le_mul (show xs.length+1≤1000000000 by omega) hby;omega
 obtain⟨v',w',hr,hst⟩:=append_st (P:=P) T ty E i0 z sz by' hT hi1 hz0 hz1 hz2 hzs hs ⟨bv,0,none⟩ 1 cp us (by rw[hus,Nat.one_mul]) hcells (fun u hu=>List.all_eq_true.1 h1 u hu) Y35 hbb
 refine⟨v',w',exec_append2 x y T T rfl v _ (ha.eval hx) (ha.eval hy) hr,?_⟩
 have hfin:=(hst.swapQ hq).drop2
 show St w0 (osl E sz v' (xs++[e]).length ((xs++[e]).flatMap cf)::R') w'
 rw[show(xs++[e]).length=xs.length+1 by simp,show(xs++[e]).flatMap cf=xs.flatMap cf++us by simp[he]]
 exact hfin
theorem KO.move (hk:(!d||k== .write)=true) {g n' cap kk c:Nat} (hx:ev G x=some (.slice (some ⟨g,0,none⟩) kk cap)) (hy:ev G y=some (.slice (some (cutAt g j sz cap)) (n'-j) c)) (hp:Pick L (SL E sz cf (.slice (some ⟨g,0,none⟩) n' cap) xs) R) (hn:n'=xs.length) (hnc:n'≤cap)
 (hT:P.underlying T=some (.slice E)) (hi:(P.info? E).map (fun i=>(i.zero,i.size,i.bytes))=some (some z,sz,by')) (hsz:∀e,(cf e).length=sz) (h1:∀e,(cf e).all Value.oneCell'=true) (hkj:kk≤j) (hj:j≤xs.length) (ht:Nat.blt t n=true)
 (h:KO P ops d Q n D w0 ((t,.slice (some ⟨g,0,none⟩) (kk+(n'-j)) cap)::G) (SL E sz cf (.slice (some ⟨g,0,none⟩) n' cap) (xs.take kk++xs.drop j++xs.drop (kk+(n'-j)))::R) l):
 KO P ops d Q n D w0 G L ((k,⟨some t,.call ⟨.builtin .append,#[x,y],#[T,T]⟩,ty,pos,af,none⟩)::l):=by
 obtain⟨i0,hi1,hz0,hz1,_⟩:=info_parts hi
 subst hn
 refine KO.wv hk (fun a w ha hw=>?_) ht h
 obtain⟨w',hr,hs⟩:=SL_move (P:=P) (ty:=ty) hsz (fun e u hu=>List.all_eq_true.1 (h1 e) u hu) hT hi1 hz1 (c:=c) (o:=(cutAt g j sz cap).off) (hw.pick hp) hkj hj (by
  by_cases hc:cap=j
  ·left;omega
  ·right;simp[cutAt,hc])
 exact⟨w',exec_append2 x y T T rfl _ _ (ha.eval hx) (ha.eval hy) hr,hs⟩
theorem KO.clear (hk:(!d||k== .write)=true) {g n' cap q m c:Nat} (hx:ev G x=some (.slice (some (cutAt g q sz cap)) m c)) (hp:Pick L (SL E sz cf (.slice (some ⟨g,0,none⟩) n' cap) xs) R) (hnc:n'≤cap) (hn:n'=xs.length) (hq:q+m≤xs.length)
 (hT:P.underlying T=some (.slice E)) (hi:(P.info? E).map (fun i=>(i.zero,i.size,i.bytes))=some (some z,sz,by')) (hsz:∀e,(cf e).length=sz) (hz1:z.cells.toList.all Value.oneCell'=true) (hzs:z.cells.size=sz)
 (h:KO P ops d Q n D w0 G (SL E sz cf (.slice (some ⟨g,0,none⟩) q cap) (xs.take q)::R) l):
 KO P ops d Q n D w0 G L ((k,⟨none,.call ⟨.builtin .clear,#[x],#[T]⟩,ty,pos,af,none⟩)::l):=by
 obtain⟨i0,hi1,hz0,_,_⟩:=info_parts hi
 refine KO.wn hk (fun a w ha hw=>?_) h
 obtain⟨w',u,hr,hs⟩:=SL_clear (P:=P) (ty:=ty) hsz hT hi1 hz0 (fun u hu=>List.all_eq_true.1 hz1 u hu) hzs (m:=m) (c:=c) (o:=(cutAt g q sz cap).off) (hw.pick hp) hq (by
  by_cases hc:cap=q
  ·left;omega
  ·right;simp[cutAt,hc])
 refine⟨w',u,?_,hs⟩
 have e:a.eval x=.slice (some ⟨g,(cutAt g q sz cap).off,none⟩) m c:=ha.eval hx
 simp[execOp,resolve,invoke,builtin,e,hr]
theorem SL_set {w:World} {g cap n':Nat} {us:List Value} {o:Nat} (hsz:∀e,(cf e).length=sz) (hw:St w0 (SL E sz cf (.slice (some ⟨g,0,none⟩) n' cap) xs::R) w) (he:xs[i]? =some e) (hfit:j+us.length≤sz) (hu:putL j us (cf e)=cf e') (ho:o=i *sz+j)
 (hn:(Go.sizeOf T).run P w=.ok us.length w) (h1:∀u∈us,u.oneCell'=true) (hv:v.cells=us.toArray):
 ∃w',(storeVar T ⟨g,o,none⟩ v).run P w=.ok () w'∧St w0 (SL E sz cf (.slice (some ⟨g,0,none⟩) n' cap) (xs.set i e')::R) w':=by
 obtain⟨rfl,hnc,hcm,cur,hcs,htake,hb⟩:=SL_open hw
 have hi:=(List.getElem?_eq_some_iff.1 he).1
 have hei:=(List.getElem?_eq_some_iff.1 he).2
 have hile:(i+1)*sz≤xs.length *sz:=Nat.mul_le_mul_right _ hi
 have hile2:xs.length *sz≤cap *sz:=Nat.mul_le_mul_right _ hnc
 rw[Nat.succ_mul]at hile
 have hcl:cur.toList.length=cap *sz:=by simpa using hcs
 have hst:=run_store_row (P:=P) (T:=T) (off:=o) (v:=v) hb (by simpa[hv]using hn) (by simp[hv,hcs];omega) (by simpa[hv]using h1)
 simp only[hv]at hst
 refine⟨_,hst,?_⟩
 have hlen:(xs.set i e').length=xs.length:=by simp
 have :=SL_mk (xs:=xs.set i e') (cf:=cf) (sz:=sz) (cap:=cap) (hb.setRow (c':=(cur.toList.take o++us++cur.toList.drop (o+us.length)).toArray)) (by omega) hcm ?_ ?_
 ·rw[hlen]at this;exact this
 ·simp only[List.size_toArray,List.length_append,List.length_take,List.length_drop,hcl,Nat.min_def]
  rw[if_pos (by omega)];omega
 ·rw[hlen]
  have hset:(xs.set i e').flatMap cf=(xs.take i).flatMap cf++cf e'++(xs.drop (i+1)).flatMap cf:=by
   rw[List.set_eq_take_append_cons_drop,if_pos hi];simp
  have hold:xs.flatMap cf=(xs.take i).flatMap cf++cf e++(xs.drop (i+1)).flatMap cf:=by
   have hsplit:xs=xs.take i++e::xs.drop (i+1):=by
    rw[←hei,List.getElem_cons_drop,List.take_append_drop]
   conv=>lhs;rw[hsplit]
   simp
  have hti:((xs.take i).flatMap cf).length=i *sz:=by rw[flat_len cf sz hsz,List.length_take,Nat.min_eq_left (by omega)]
  rw[hset,←hu,←putL_eq j us (cf e) (by rw[hsz];exact hfit)]
  obtain⟨tl,htl⟩:∃tl,cur.toList=xs.flatMap cf++tl:=⟨cur.toList.drop (xs.length *sz),by rw[←htake,List.take_append_drop]⟩
  rw[htl,hold,ho]
  have hcfe:=hsz e
  generalize (xs.take i).flatMap cf=A at hti
  generalize hC:(xs.drop (i+1)).flatMap cf=C
  have hCl:C.length=(xs.length-(i+1))*sz:=by rw[←hC,flat_len cf sz hsz,List.length_drop]
  have hsum:i *sz+sz+(xs.length-(i+1))*sz=xs.length *sz:=by
   have :(i+1)*sz+(xs.length-(i+1))*sz=xs.length *sz:=by rw[←Nat.add_mul];congr 1;omega
   rw[Nat.succ_mul]at this;omega
  generalize cf e=B at hcfe
  clear hst hset hold htl hu hsz htake
  have h1:(A++B++C++tl).take (i *sz+j)=A++B.take j:=by
   rw[List.append_assoc,List.append_assoc,←hti,List.take_length_add_append,List.take_append_of_le_length (by omega)]
  have h2:(A++B++C++tl).drop (i *sz+j+us.length)=B.drop (j+us.length)++C++tl:=by
   rw[List.append_assoc,List.append_assoc,←hti,Nat.add_assoc,List.drop_length_add_append,List.drop_append_of_le_length (by omega),List.append_assoc]
  rw[h1,h2]
  have e1:A++List.take j B++us++(List.drop (j+us.length) B++C++tl)=(A++(List.take j B++us++List.drop (j+us.length) B)++C)++tl:=by simp
  rw[e1,List.take_append_of_le_length Y61,List.take_of_length_le Y61]
theorem KO.stE (hk:(!d||k== .write)=true) {g n' cap:Nat} {us:List Value} (hx:ev G x=some (.pointer (some ⟨g,i *sz+j,none⟩))) (hy:ev G y=some v) (hv:v.cells=us.toArray) (hn:∀w,(Go.sizeOf T).run P w=.ok us.length w) (h1:us.all Value.oneCell'=true)
 (hp:Pick L (SL E sz cf (.slice (some ⟨g,0,none⟩) n' cap) xs) R) (hsz:∀e,(cf e).length=sz) (he:xs[i]? =some e) (hfit:Nat.ble (j+us.length) sz=true) (e':α) (hu:putL j us (cf e)=cf e')
 (h:KO P ops d Q n D w0 G (SL E sz cf (.slice (some ⟨g,0,none⟩) n' cap) (xs.set i e')::R) l):KO P ops d Q n D w0 G L ((k,⟨none,.store T x y,ty,pos,af,none⟩)::l):=
 KO.wrRun hk (fun a w ha hw=>by
  obtain⟨w',hr,hs⟩:=SL_set (P:=P) (T:=T) (v:=v) hsz (hw.pick hp) he (by simpa[Nat.ble_eq]using hfit) hu rfl (hn w) (fun u hu=>List.all_eq_true.1 h1 u hu) hv
  exact⟨w',by simp[execOp,ha.eval hx,ha.eval hy,Instr.storeAt,Instr.sureAddr,hr],hs⟩) h
theorem KO.stEN (hk:(!d||k== .write)=true) {g n' cap:Nat} (hx:ev G x=some (.pointer (some ⟨g,i *sz,none⟩))) (e':α) (hy:ev G y=some (.agg (cf e').toArray)) (hn:∀w,(Go.sizeOf T).run P w=.ok sz w) (h1:∀e,(cf e).all Value.oneCell'=true)
 (hp:Pick L (SL E sz cf (.slice (some ⟨g,0,none⟩) n' cap) xs) R) (hsz:∀e,(cf e).length=sz) (he:xs[i]? =some e)
 (h:KO P ops d Q n D w0 G (SL E sz cf (.slice (some ⟨g,0,none⟩) n' cap) (xs.set i e')::R) l):KO P ops d Q n D w0 G L ((k,⟨none,.store T x y,ty,pos,af,none⟩)::l):=
 KO.wrRun hk (fun a w ha hw=>by
  obtain⟨w',hr,hs⟩:=SL_set (P:=P) (T:=T) (v:=.agg (cf e').toArray) (us:=cf e') (o:=i *sz) (j:=0) (e':=e') hsz (hw.pick hp) he (by rw[hsz];omega) (by simp[putL,hsz,List.drop_of_length_le]) rfl (by rw[hsz];exact hn w) (fun u hu=>List.all_eq_true.1 (h1 e') u hu) rfl
  exact⟨w',by simp[execOp,ha.eval hx,ha.eval hy,Instr.storeAt,Instr.sureAddr,hr],hs⟩) h
end
end WB
namespace WB
open Go Go.RowKit
section
variable {P:Program} {f:FuncId} {args:Array Value} {w0:World} {L R1 R2 R3:List HP} {A B C:HP} {R:Value→List HP→Prop}
theorem KC.pk1 (p1:Pick L A R1) (h:KC P f args w0 (A::R1) R):KC P f args w0 L R:=fun w hw=>h w (hw.pick p1)
theorem St.pick2 {w:World} (hw:St w0 L w) (p1:Pick L A R1) (p2:Pick R1 B R2):St w0 (A::B::R2) w:=(hw.pick p1).swapQ p2
theorem St.pick3 {w:World} (hw:St w0 L w) (p1:Pick L A R1) (p2:Pick R1 B R2) (p3:Pick R2 C R3):St w0 (A::B::C::R3) w:=by
 have h1:=hw.pick2 p1 p2
 have h2:=h1.pick (.tail (.tail p3))
 exact(h2.pick (.tail .head)).pick (.tail (.tail .head)) |>.pick (.tail .head)
theorem KC.pk2 (p1:Pick L A R1) (p2:Pick R1 B R2) (h:KC P f args w0 (A::B::R2) R):KC P f args w0 L R:=fun w hw=>h w (hw.pick2 p1 p2)
end
section
variable {P:Program} {ops:Array Oper} {d:Bool} {Q:Exit→Act→World→Prop} {n:Nat} {D:List Deferred} {w0:World} {G:Env} {L R:List HP} {A:HP} {l:List (Kd×Oper)} {k:Kd}
 {t:Nat} {ty T:TypeId} {pos:String} {af:Array Edge} {v:Value} {c:Code} {e:Exit}
theorem K.pk (hp:Pick L A R) (h:K P c Q n D w0 G (A::R)):K P c Q n D w0 G L:=K.conv (fun _ hw=>hw.pick hp) h
theorem KO.bld {parts:Array (Nat×Operand)} {vs:List Value} (hv:evs G (parts.toList.map (·.2))=some vs) (hr:∀w,(Instr.build T ((parts.toList.map (·.1)).zip vs).toArray).run P w=.ok v w) (ht:Nat.blt t n=true)
 (h:KO P ops d Q n D w0 ((t,v)::G) L l):KO P ops d Q n D w0 G L ((k,⟨some t,.build T parts,ty,pos,af,none⟩)::l):=
 KO.val (fun a w ha=>by
  have key:∀(ps:List (Nat×Operand)) (vs:List Value),(ps.map (·.2)).map (ev G)=vs.map some→ps.map (fun(p:Nat×Operand)=>(p.1,a.eval p.2))=(ps.map (·.1)).zip vs:=by
   intro ps
   induction ps with
   |nil=>intro vs h;cases vs with|nil=>rfl|cons _ _=>simp at h
   |cons p ps ih=>intro vs h;cases vs with
    |nil=>simp at h
    |cons v vs=>
     simp only[List.map_cons,List.cons.injEq]at h
     simp only[List.map_cons,List.zip_cons_cons,ha.eval h.1,ih vs h.2]
  have e:parts.map (fun(i,x)=>(i,a.eval x))=((parts.toList.map (·.1)).zip vs).toArray:=by
   apply Array.ext'
   rw[Array.toList_map]
   exact key _ _ (evs_map hv)
  simp only[execOp,e,hr w,Sem.run_bind,Sem.run_pure,Result.andThen_ok]) ht h
end
end WB
namespace WB
open Go Go.RowKit
def bldL (pl:List (Nat×Nat)):List Value→List (Nat×Value)→Option (List Value)
 |cs,[]=>some cs
 |cs,(i,v)::rest=>match pl[i]? with
  |some (off,size)=>match (Nat.beq v.cells.toList.length size&&Nat.ble (off+v.cells.toList.length) cs.length)with|true=>bldL pl (putL off v.cells.toList cs) rest|false=>none
  |none=>none
theorem fill_bldL (pl:List (Nat×Nat)) (place:Nat→Option (Nat×Nat)) (hpl:∀i,place i=pl[i]?):∀(parts:List (Nat×Value)) (cs cs':List Value),bldL pl cs parts=some cs'→Instr.fill place cs.toArray parts=some cs'.toArray
 |[],cs,cs',h=>by simp only[bldL,Option.some.injEq]at h;subst h;rfl
 |(i,v)::rest,cs,cs',h=>by
  unfold bldL at h
  cases hp:pl[i]? with
  |none=>rw[hp]at h;simp at h
  |some os=>
   obtain⟨off,size⟩:=os
   rw[hp]at h
   simp only at h
   cases hb:(Nat.beq v.cells.toList.length size&&Nat.ble (off+v.cells.toList.length) cs.length)with
   |false=>rw[hb]at h;simp at h
   |true=>
    rw[hb]at h
    simp only at h
    simp only[Bool.and_eq_true]at hb
    have h1:v.cells.toList.length=size:=Nat.eq_of_beq_eq_true hb.1
    have h2:off+v.cells.toList.length≤cs.length:=Nat.le_of_ble_eq_true hb.2
    unfold Instr.fill
    rw[hpl i,hp]
    simp only
    rw[if_neg (by simp only[Array.length_toList]at h1 h2;simp;omega)]
    have hset:(v.cells.zipIdx.foldl (fun cs (x:Value×Nat)=>cs.setIfInBounds (off+x.2) x.1) cs.toArray)=(putL off v.cells.toList cs).toArray:=by
     have e0:v.cells.zipIdx.foldl (fun cs (x:Value×Nat)=>cs.setIfInBounds (off+x.2) x.1) cs.toArray=(v.cells.toList.zipIdx 0).foldl (fun cs (x:Value×Nat)=>cs.setIfInBounds (off+x.2) x.1) cs.toArray:=by
      rw[←Array.foldl_toList];simp
     obtain⟨g1,g2⟩:=Great.foldl_set off v.cells.toList 0 cs.toArray
     rw[e0]
     apply Array.ext_getElem?
     intro q
     rw[g2 q]
     simp only[List.getElem?_toArray,List.size_toArray,Nat.add_zero]
     rw[←putL_eq off _ cs h2]
     by_cases hq:off≤q∧q<off+v.cells.toList.length∧q<cs.length
     ·rw[if_pos hq,List.append_assoc,List.getElem?_append_right Y28,List.length_take,Nat.min_eq_left (by omega),List.getElem?_append_left (by omega)]
     ·rw[if_neg hq,List.append_assoc]
      by_cases hq1:q<off
      ·rw[List.getElem?_append_left Y28,List.getElem?_take,if_pos hq1]
      ·rw[List.getElem?_append_right Y28,List.length_take,Nat.min_eq_left (by omega)]
       by_cases hq2:q<cs.length
       ·have h3:off+v.cells.toList.length≤q:=Nat.not_lt.1 fun h4=>hq ⟨by omega,h4,hq2⟩
        rw[List.getElem?_append_right (by omega),List.getElem?_drop]
        congr 1;omega
       ·rw[List.getElem?_eq_none (by omega),List.getElem?_append_right (by omega),List.getElem?_eq_none (by rw[List.length_drop];omega)]
    show Instr.fill place (v.cells.zipIdx.foldl (fun cs (x:Value×Nat)=>cs.setIfInBounds (off+x.2) x.1) cs.toArray) rest=_
    rw[hset]
    exact fill_bldL pl place hpl rest _ _ h
section
variable {P:Program} {ops:Array Oper} {d:Bool} {Q:Exit→Act→World→Prop} {n:Nat} {D:List Deferred} {w0:World} {G:Env} {L R:List HP} {l:List (Kd×Oper)} {k:Kd} {t:Nat} {ty T:TypeId} {pos:String} {af:Array Edge} {v z:Value}
theorem KO.bldS {parts:Array (Nat×Operand)} {vs:List Value} {fs:Array Field} {pl:List (Nat×Nat)} (cs:List Value) (hv:evs G (parts.toList.map (·.2))=some vs) (hz:∀w,(zeroValue T).run P w=.ok z w) (hu:∀w,(underlying T).run P w=.ok (.struct fs) w)
 (hpl:∀w,(fs.mapM fun(f:Field)=>(do pure (f.offset,←Go.sizeOf f.type):Sem (Nat×Nat))).run P w=.ok pl.toArray w) (hb:bldL pl z.cells.toList ((parts.toList.map (·.1)).zip vs)=some cs) (ht:Nat.blt t n=true)
 (h:KO P ops d Q n D w0 ((t,.agg cs.toArray)::G) L l):KO P ops d Q n D w0 G L ((k,⟨some t,.build T parts,ty,pos,af,none⟩)::l):=
 KO.bld hv (fun w=>by
  have :=fill_bldL pl (fun x=>pl[x]?) (fun i=>rfl) _ _ _ hb
  simp only[Array.toArray_toList]at this
  simp only[Instr.build,hz w,hu w,Sem.run_bind,Result.andThen_ok]
  rw[hpl w]
  simp[this]) ht h
end
end WB
namespace WB
open Go Go.RowKit
section
variable {P:Program} {ops:Array Oper} {d:Bool} {Q:Exit→Act→World→Prop} {n:Nat} {D:List Deferred} {w0:World} {G:Env} {L R:List HP} {l:List (Kd×Oper)} {k:Kd} {t:Nat} {ty T:TypeId} {pos:String} {af:Array Edge} {v z:Value}
theorem KO.bldN {parts:Array (Nat×Operand)} {vs:List Value} {fs:Array Field} {pl:List (Nat×Nat)} {cs:List Value} (hv:evs G (parts.toList.map (·.2))=some vs) (hz:∀w,(zeroValue T).run P w=.ok z w) (hu:∀w,(underlying T).run P w=.ok (.struct fs) w)
 (hpl:∀w,(fs.mapM fun(f:Field)=>(do pure (f.offset,←Go.sizeOf f.type):Sem (Nat×Nat))).run P w=.ok pl.toArray w) (hb:bldL pl z.cells.toList ((parts.toList.map (·.1)).zip vs)=some cs) (ht:Nat.blt t n=true)
 (h:KO P ops d Q n D w0 ((t,.agg cs.toArray)::G) L l):KO P ops d Q n D w0 G L ((k,⟨some t,.build T parts,ty,pos,af,none⟩)::l):=KO.bldS cs hv hz hu hpl hb ht h
end
end WB
namespace WB
open Go Go.RowKit
section
variable {P:Program} {ops:Array Oper} {d:Bool} {Q:Exit→Act→World→Prop} {n:Nat} {D:List Deferred} {w0:World} {G:Env} {L R:List HP} {l:List (Kd×Oper)} {k:Kd} {t:Nat} {ty T E:TypeId} {pos:String} {af:Array Edge} {v:Value} {x y:Operand}
theorem KO.sto0 {b:Nat} {cs us:List Value} (hk:(!d||k== .write)=true) (hx:ev G x=some (.pointer (some ⟨b,0,none⟩))) (hy:ev G y=some v) (hv:v.cells=us.toArray) (hn:∀w,(Go.sizeOf T).run P w=.ok us.length w) (h1:us.all Value.oneCell'=true)
 (hp:Pick L (blk b (.cells cs.toArray E (0,0))) R) (hfit:Nat.beq us.length cs.length=true) (h:KO P ops d Q n D w0 G (blk b (.cells us.toArray E (0,0))::R) l):
 KO P ops d Q n D w0 G L ((k,⟨none,.store T x y,ty,pos,af,none⟩)::l):=
 have e:us.length=cs.length:=Nat.eq_of_beq_eq_true hfit
 KO.sto hk hx hy hv hn h1 hp (Nat.ble_eq_true_of_le (by omega)) (by rw[putL,e,List.drop_length,List.append_nil]) h
end
end WB
namespace WB
open Go Go.RowKit
section
variable {P:Program} {ops:Array Oper} {d:Bool} {Q:Exit→Act→World→Prop} {n:Nat} {D:List Deferred} {w0:World} {G:Env} {L R:List HP} {l:List (Kd×Oper)} {k:Kd} {t:Nat} {ty T E:TypeId} {pos:String} {af:Array Edge} {v z:Value} {x y:Operand} {sz by':Nat}
theorem KO.bs1 (hk:(!d||(k== .keep||k== .write))=true) {cs:List Value} (hv:ev G x=some v) (hT:P.underlying T=some (.slice E))
 (hi:(P.info? E).map (fun i=>(i.zero,i.size,i.bytes))=some (some z,sz,by')) (hc:v.cells=cs.toArray) (hsz:cs.length=sz) (hs:¬1*sz>2^24) (hpos:¬1*sz=0) (ht:Nat.blt t n=true)
 (h:∀bb,KO P ops d Q n D w0 ((t,.slice (some ⟨bb,0,none⟩) 1 1)::G) (blk bb (.cells cs.toArray E (0,0))::L) l):KO P ops d Q n D w0 G L ((k,⟨some t,.buildSlice T 1 #[(0,x)],ty,pos,af,none⟩)::l):=
 KO.bs hk [x] rfl (vs:=[v]) (by simp[evs,hv]) hT hi (by simp[hc,hsz]) rfl hs hpos (by simp[hc]) ht h
theorem KO.bsF (hk:(!d||(k== .keep||k== .write))=true) {len:Nat} {parts:Array (Nat×Operand)} (os:List Operand) {vs:List Value} (hp:parts.toList=(os.zipIdx 0).map fun x=>(x.2,x.1)) (hv:evs G os=some vs) (hT:P.underlying T=some (.slice E))
 (hi:(P.info? E).map (fun i=>(i.zero,i.size,i.bytes))=some (some z,1,by')) (hsz:vs.all (fun v=>v.cells.size==1)=true) (hlen:vs.length=len) (hs:¬len *1>2^24) (hpos:¬len *1=0) (hcs:(vs.flatMap fun v=>v.cells.toList)=vs) (ht:Nat.blt t n=true)
 (h:∀bb,KO P ops d Q n D w0 ((t,.slice (some ⟨bb,0,none⟩) len len)::G) (blk bb (.cells vs.toArray E (0,0))::L) l):KO P ops d Q n D w0 G L ((k,⟨some t,.buildSlice T len parts,ty,pos,af,none⟩)::l):=
 KO.bs hk os hp hv hT hi hsz hlen hs hpos hcs ht h
end
end WB
namespace WB
open Go
inductive LSub:List HP→List HP→Prop
 |refl {L:List HP}:LSub L L
 |drop {A:HP} {L M:List HP}:LSub L M→LSub L (A::M)
theorem St.mapTail {w0 w:World} {A:HP} {L M:List HP} (f:∀h,seps M h→∃h1 h2,Disj h1 h2∧h=uni h1 h2∧seps L h2) (h:St w0 (A::M) w):St w0 (A::L) w:=by
 obtain⟨x,hx,h1,h2,d,rfl,a,b⟩:=h.own
 obtain⟨g1,g2,d2,rfl,c⟩:=f h2 b
 rw[disj_uni']at d
 refine {h with own:=⟨uni h1 g2,fun k o hk=>hx k o ?_,h1,g2,d.2,rfl,a,c⟩}
 simp only[uni]at hk ⊢
 cases e1:h1 k with
 |some v=>rw[e1]at hk;simpa using hk
 |none=>
  rw[e1]at hk
  simp only[Option.none_or]at hk ⊢
  rcases d2 k with e|e
  ·rw[e];simpa using hk
  ·rw[e]at hk;simp at hk
theorem LSub.seps {L M:List HP} (hs:LSub L M):∀h,WB.seps M h→∃h1 h2,Disj h1 h2∧h=uni h1 h2∧WB.seps L h2:=by
 induction hs with
 |refl=>exact fun h hh=>⟨fun _=>none,h,fun _=>.inl rfl,(uni_emp fun _=>rfl).symm,hh⟩
 |drop _ ih=>
  rintro h ⟨h1,h2,d,rfl,_,b⟩
  obtain⟨g1,g2,d2,rfl,c⟩:=ih h2 b
  rw[disj_uni']at d
  refine⟨uni h1 g1,g2,disj_uni.2 ⟨d.2,d2⟩,(uni_assoc _ _ _).symm,c⟩
theorem St.gc1 {w0 w:World} {A:HP} {L M:List HP} (h:St w0 (A::M) w) (hs:LSub L M):St w0 (A::L) w:=h.mapTail hs.seps
theorem St.gc2 {w0 w:World} {A B:HP} {L M:List HP} (h:St w0 (A::B::M) w) (hs:LSub L M):St w0 (A::B::L) w:=((h.join).gc1 hs).split
theorem St.gc3 {w0 w:World} {A B C:HP} {L M:List HP} (h:St w0 (A::B::C::M) w) (hs:LSub L M):St w0 (A::B::C::L) w:=((h.join).gc2 hs).split
end WB
/- queue: a message put into its place; one taken out. -/
namespace Go.Proofs.YtjhogocabcdjbabGreatDoor
open Go Go.RowKit WB
theorem it_info:(Tryz.prog.info? 243).map (fun i=>(i.zero,i.size,i.bytes))=some (some (Value.agg #[.int .i64 0,.int .i64 0,.string ⟨#[]⟩,.string ⟨#[]⟩,.int .i64 0,.int .i64 0,.int .i64 0,.int .i64 0]),8,80):=by kernel_rfl
theorem itC_one (x:It):(itC x).all Value.oneCell'=true:=rfl
theorem itC_ones (xs:List It):∀u∈xs.flatMap itC,u.oneCell'=true:=flat_one (fun e u hu=>List.all_eq_true.1 (itC_one e) u hu) xs
theorem itIns_c (w0:World) (L:List HP) (v:Value) (xs:List It) (x:It) (k bv:Nat) (hk:k≤xs.length) (hn:xs.length<1000000):
 KC Tryz.prog 246 #[v,.int .i64 (k:Nat),.slice (some ⟨bv,0,none⟩) 1 1] w0 (itS v xs::blk bv (.cells (itC x).toArray 243 (0,0))::L) (fun v' L'=>L'=itS v' (xs.take k++x::xs.drop k)::L):=fun w h=>by
 have fin:∀{w':World} {v':Value},St w0 (osl 243 8 v' (xs.length+1) (xs.flatMap itC |>.take (k *8))::L) w'→True:=fun _=>trivial
 have e1:(xs.take k++x::xs.drop k).length=xs.length+1:=by simp;omega
 have e2:(xs.flatMap itC).take (k *8)++itC x++(xs.flatMap itC).drop (k *8)=(xs.take k++x::xs.drop k).flatMap itC:=by
  rw[flat_take itC 8 (fun _=>rfl) xs k hk,flat_drop itC 8 (fun _=>rfl) xs k hk];simp
 by_cases hkn:k=xs.length
 ·subst hkn
  refine(it_ins_end w w0 L v xs.length (xs.flatMap itC) (itC x) bv h rfl (fun u hu=>List.all_eq_true.1 (itC_one x) u hu) hn).mono ?_
  rintro e w' ⟨v',he,hs⟩
  refine⟨v',_,he,rfl,?_⟩
  show St w0 (osl 243 8 v' _ _::L) w'
  rw[e1,show(xs.take xs.length++x::xs.drop xs.length).flatMap itC=xs.flatMap itC++itC x by simp]
  exact hs
 ·have hlt:k<xs.length:=by omega
  have key:Calls Tryz.prog 246 #[v,.int .i64 (k:Nat),.slice (some ⟨bv,0,none⟩) 1 1] w fun e w'=> ∃v',e=.returned v'∧St w0 (osl 243 8 v' (xs.length+1) ((xs.flatMap itC).take (k *8)++itC x++(xs.flatMap itC).drop (k *8))::L) w':=by
   obtain⟨g,cap,rfl⟩:=SL_some h hlt
   by_cases hr:xs.length+1≤cap
   ·exact it_ins_room w w0 L g xs.length cap k _ (itC x) bv h rfl (fun u hu=>List.all_eq_true.1 (itC_one x) u hu) (itC_ones xs) hn hlt hr
   ·exact it_ins_grow w w0 L g xs.length k cap _ (itC x) bv h rfl (fun u hu=>List.all_eq_true.1 (itC_one x) u hu) (itC_ones xs) hn hlt (by omega)
  refine key.mono ?_
  rintro e w' ⟨v',he,hs⟩
  refine⟨v',_,he,rfl,?_⟩
  show St w0 (osl 243 8 v' _ _::L) w'
  rw[e1,←e2];exact hs
theorem del_c (w0:World) (L:List HP) (v:Value) (xs:List It) (k:Nat) (hk:k<xs.length) (hn:xs.length<1000000):
 KC Tryz.prog 151 #[v,.int .i64 (k:Nat),.int .i64 ((k:Int)+1)] w0 (itS v xs::L) (fun v' L'=>L'=itS v' (xs.eraseIdx k)::L):=by
 refine KC.pre (fun w hw=>SL_some hw hk) ?_
 rintro⟨g,cap,rfl⟩
 refine KC.pre (fun w hw=>(SL_open hw).2.1) fun hnc=>?_
 refine KC.mk (n:=33) Tryz.func151 rfl Tryz.ntmps151 (by simp) ?_
 refine Z150 ?_
 refine Z125 ?_
 refine Z158 ?_
 refine KO.cutAny (lo:=k) (hi:=k+1) (mx:=xs.length) rfl rfl rfl rfl Tryz.underlying120 Tryz.sizeOf243 rfl (by omega) rfl (by omega) (by omega) (by omega) rfl (fun q13=>?_)
 refine Z0 ?_
 refine Z72 ?_
 refine Z246 ?_
 refine K.condF rfl Y61 ?_
 refine Z273 ?_
 refine Z158 ?_
 refine Z196 ?_
 refine Z34 ?_
 refine KO.cutTo rfl rfl Tryz.underlying120 Tryz.sizeOf243 Y68 (by omega) rfl ?_
 refine Z34 ?_
 refine KO.cutFrom (lo:=k+1) rfl rfl Tryz.underlying120 Tryz.sizeOf243 (by omega) (by omega) (by omega) rfl ?_
 refine KO.move (j:=k+1) rfl rfl rfl Pick.head rfl hnc Tryz.underlying120 it_info (fun _=>rfl) itC_one (by omega) (by omega) rfl ?_
 refine Z28 ?_
 refine Z1 ?_
 refine Z158 ?_
 refine Z1 ?_
 refine KO.cutMid (lo:=k+(xs.length-(k+1))) (hi:=xs.length) rfl rfl rfl Tryz.underlying120 Tryz.sizeOf243 rfl rfl (by omega) (by omega) rfl ?_
 refine KO.clear rfl rfl Pick.head hnc Y61 Y61 Tryz.underlying120 it_info (fun _=>rfl) rfl rfl ?_
 refine Z348 ?_
 refine Z33 ?_
 refine KQ.ret1 rfl rfl (fun w' hs=>⟨_,_,rfl,rfl,?_⟩)
 have e:(List.take (k+(xs.length-(k+1))) (List.take k xs++List.drop (k+1) xs++List.drop (k+(xs.length-(k+1))) xs))=xs.eraseIdx k:=by
  rw[List.take_append_of_le_length Y61,List.take_of_length_le Y61,List.eraseIdx_eq_take_drop_succ]
 rw[e]at hs
 exact hs
theorem delf_c (w0:World) (L:List HP) (v:Value) (xs:List It) (f:FuncId) (cp:List Value) (pf:It→Bool) (hn:xs.length<1000000) (hcall:∀args w,(callFunc f args).run Tryz.prog w=.ok (.enter f args) w)
 (hcl:∀e v ys,e∈xs→KE Tryz.prog f ([]++([Value.agg (itC e).toArray]++cp)).toArray w0 (itS v ys::L) (fun u L'=>u=.bool (pf e)∧L'=itS v ys::L)):
 KC Tryz.prog 158 #[v,.func (.func f) [].toArray cp.toArray] w0 (itS v xs::L) (fun v' L'=>L'=itS v' (xs.filter fun e=> !pf e)::L):=by
 refine KC.pre (fun w hw=>SL_form hw) ?_
 rintro⟨sa,cap,rfl,hsa⟩
 refine KC.mk (n:=42) Tryz.func158 rfl Tryz.ntmps158 (by simp) ?_
 refine Z352 ?_
 refine KO.ce rfl rfl rfl Tryz.call149 rfl (idxf_e w0 _ _ xs f cp pf (RdS.of (fun _=>rfl) Pick.head) hn hcall (fun e he=>hcl e _ xs he)) ?_;rintro v L' ⟨rfl,rfl⟩
 refine Z28 ?_
 refine Z246 ?_
 refine K.condD rfl (fun h=>?_) (fun h=>?_)
 ·refine Z312 ?_
  refine KQ.ret1 rfl rfl (fun w' hs=>⟨_,_,rfl,rfl,?_⟩)
  rw[List.filter_eq_self.2 (fun a ha=>by
   have :=List.findIdx?_eq_none_iff.1 (fidx_neg (by omega :fidx pf xs<0)) a ha
   simp[this])]
  exact hs
 ·obtain⟨i0,e0,hi0,he0,hp0,hlt0,hfi⟩:=fidx_nonneg (p:=pf) (l:=xs) (by unfold fidx at h ⊢;split at h<;>simp_all)
  obtain⟨g,rfl⟩:=hsa (by omega)
  refine K.fact (fun w hw=>(SL_open hw).2.1) fun hnc=>?_
  refine Z273 ?_
  rw[hi0];refine KO.add rfl rfl rfl (by omega) rfl ?_
  refine Z7 ?_
  refine Z15 ?_
  refine K.loop (fun k:Nat×Nat×List It=>[(0,.slice (some ⟨g,0,none⟩) xs.length cap),(1,.func (.func f) [].toArray cp.toArray),(5,.int .i64 (k.1:Nat)),(6,.int .i64 (k.2.1:Nat))]) (fun k=>itS (.slice (some ⟨g,0,none⟩) xs.length cap) k.2.2::L)
   (fun k=>k.2.2.length=xs.length∧k.1<k.2.1∧k.2.1≤xs.length∧k.2.2.take k.1=(xs.take k.2.1).filter (fun e=> !pf e)∧k.2.2.drop k.2.1=xs.drop k.2.1) (fun k=>xs.length-k.2.1) (i0,i0+1,xs) ⟨rfl,by dsimp only;omega,by dsimp only;omega,(take_filter_of_findIdx hfi).symm,rfl⟩ ⟨rfl,rfl,rfl,rfl,trivial⟩ (fun _ h=>h) ?_
  rintro⟨i,j,ys⟩ ⟨hyl,hij,hjl,hys,hyd⟩
  dsimp only at hyl hij hjl hys hyd ⊢
  refine Z214 ?_
  refine Z158 ?_
  refine Z215 ?_
  refine K.condD rfl (fun h1=>?_) (fun h1=>?_)
  ·obtain⟨e,he⟩:∃e,xs[j]? =some e:=⟨xs[j],List.getElem?_eq_getElem (by omega)⟩
   have hye:ys[j]? =some e:=by rw[←he];have :=congrArg (fun l=>l[0]?) hyd;simpa using this
   refine Z10 ?_
   refine Z72 ?_
   refine Z89 ?_
   refine KO.ldEN rfl rfl Tryz.isAgg243 Tryz.sizeOf243 Y21 (fun _=>rfl) Y63 rfl ?_
   refine KO.alloc rfl Tryz.zeroValue243 Y68 rfl ?_;intro b7
   refine Z262 ?_
   refine Z8 ?_
   refine Z257 ?_
   refine KO.ce rfl rfl rfl hcall rfl ((hcl e _ ys (List.mem_of_getElem? he)).only (fun w h=>h.drop)) ?_;rintro v L' ⟨rfl,rfl⟩
   refine Z70 ?_
   refine Z2 ?_
   refine K.cond rfl (fun h2=>?_) (fun h2=>?_)
   ·obtain⟨u,hu⟩:∃u,ys[i]? =some u:=⟨ys[i],List.getElem?_eq_getElem (by omega)⟩
    refine Z214 ?_
    refine Z257 ?_
    refine KO.idx0 rfl rfl Tryz.runUnderlying120 Tryz.sizeOf243 rfl (by omega) rfl ?_
    refine KO.stEN rfl rfl e rfl Tryz.sizeOf243 itC_one Y11 (fun _=>rfl) hu ?_
    refine Z2 ?_
    refine Z277 ?_
    refine Z7 ?_
    refine Z13 ?_
    refine Z284 ?_
    refine KQ.round (i+1,j+1,ys.set i e) ⟨by simp;omega,by dsimp only;omega,by dsimp only;omega,?_,?_⟩ Y47 ⟨rfl,rfl,rfl,rfl,trivial⟩ (fun _ h=>h.drop2)
    ·dsimp only
     rw[take_succ_some he,List.filter_append,←hys,take_succ_some (e:=e) (by rw[List.getElem?_set_self (by omega)])]
     rw[List.take_set_of_le (Nat.le_refl _)]
     simp only[List.filter_cons,h2,if_true,List.filter_nil]
    ·dsimp only
     rw[List.drop_set_of_lt (by omega)]
     have :=congrArg (List.drop 1) hyd
     simpa[List.drop_drop,Nat.add_comm]using this
   ·refine Z22 ?_
    refine Z284 ?_
    refine KQ.round (i,j+1,ys) ⟨hyl,by dsimp only;omega,by dsimp only;omega,?_,?_⟩ Y47 ⟨rfl,rfl,rfl,rfl,trivial⟩ (fun _ h=>h.drop)
    ·dsimp only
     rw[take_succ_some he,List.filter_append,←hys]
     simp only[List.filter_cons,h2,List.filter_nil,List.append_nil,Bool.false_eq_true,if_false]
    ·dsimp only
     have :=congrArg (List.drop 1) hyd
     simpa[List.drop_drop,Nat.add_comm]using this
  ·have hjx:j=xs.length:=by omega
   subst hjx
   have hys:ys.take i=xs.filter (fun e=> !pf e):=by rw[hys,List.take_length]
   refine Z9 ?_
   refine Z72 ?_
   refine KO.cutFrom (lo:=i) rfl rfl Tryz.underlying120 Tryz.sizeOf243 rfl (by omega) (by omega) rfl ?_
   refine KO.clear rfl rfl Pick.head hnc hyl.symm (by omega) Tryz.underlying120 it_info (fun _=>rfl) rfl rfl ?_
   refine Z0 ?_
   refine Z72 ?_
   refine KO.cutTo (hi:=i) rfl rfl Tryz.underlying120 Tryz.sizeOf243 rfl (by omega) rfl ?_
   refine Z33 ?_
   refine KQ.ret1 rfl rfl (fun w' hs=>⟨_,_,rfl,rfl,?_⟩)
   rw[←hys];exact hs
end Go.Proofs.YtjhogocabcdjbabGreatDoor
/- queue: where a message goes. -/
namespace Go.Proofs.YtjhogocabcdjbabGreatDoor
open Go Go.RowKit WB
theorem push1_e (w0:World) (L:List HP) (a b:It) (ha:smallIt a) (hb:smallIt b):
 KE Tryz.prog 244 #[.agg (itC a).toArray,.agg (itC b).toArray] w0 L (fun v L'=>v=.int .i64 (cmpIt a b)∧L'=L):=by
 refine KE.mk (n:=14) Tryz.func244 rfl Tryz.ntmps244 (by simp) ?_
 intro w hw
 refine Z3 ?_
 refine KO.box rfl rfl Y68 rfl ?_;intro b2
 refine KO.box rfl rfl Y68 rfl ?_;intro b3
 refine Z135 ?_
 refine Z148 ?_
 (refine KO.ldB rfl rfl Tryz.isAgg44 Tryz.sizeOf44 Y11 Y8 Y68 rfl ?_)
 refine Z148 ?_
 (refine KO.ldB rfl rfl Tryz.isAgg44 Tryz.sizeOf44 Y21 Y8 Y68 rfl ?_)
 refine KO.fo0 (off:=5) rfl Tryz.runUnderlying243 rfl rfl Tryz.sizeOf3 rfl ?_
 refine Z38 ?_
 refine KO.fo0 (off:=5) rfl Tryz.runUnderlying243 rfl rfl Tryz.sizeOf3 rfl ?_
 refine Z17 ?_
 refine KO.ce rfl rfl rfl Tryz.call245 rfl (cmp_e w _ a.m b.m a.line b.line ha.1 hb.1 ha.2 hb.2) ?_;rintro v L' ⟨rfl,rfl⟩
 refine Z33 ?_
 refine KQ.ret1 rfl rfl (fun w' hs=>⟨_,_,rfl,⟨rfl,rfl⟩,hw.below_step hs.below,hs.below⟩)
theorem bsf_it (w0:World) (L:List HP) (v:Value) (xs:List It) (x:It) (hr:∀w,St w0 L w→RdS w 8 itC v xs) (hlen:xs.length<1000000) (hm:MonoIt xs x) (hx:smallIt x) (hxs:∀e∈xs,smallIt e):
 KE Tryz.prog 243 #[v,.agg (itC x).toArray,.func (.func 244) #[] #[]] w0 L (fun v L'=> ∃k,SrchIt xs x k∧v=.tuple #[.int .i64 (k:Nat),.bool (hitIt xs x k)]∧L'=L):=by
 refine KE.mk (n:=49) Tryz.func243 rfl Tryz.ntmps243 (by simp) ?_
 intro w hw
 obtain⟨sa,cap,rfl,hsa,hc⟩:=hr w hw
 refine Z3 ?_
 refine KO.box rfl rfl Y68 rfl ?_;intro b4
 refine Z7 ?_
 refine Z28 ?_
 refine Z158 ?_
 refine Z28 ?_
 refine Z166 ?_
 refine Z39 ?_
 refine K.loop (fun k:Nat×Nat=>[(0,.slice sa xs.length cap),(2,.func (.func 244) #[] #[]),(4,.pointer (some ⟨b4,0,none⟩)),(8,.int .i64 (xs.length:Nat)),(9,.int .i64 (k.1:Nat)),(10,.int .i64 (k.2:Nat))]) (fun _=>[blk b4 (.cells (itC x).toArray 243 (0,0))])
  (fun k=>k.1≤k.2∧k.2≤xs.length∧(∀(p:Nat) (a:It),p<k.1→xs[p]? =some a→cmpIt a x<0)∧(∀(p:Nat) (a:It),k.2≤p→xs[p]? =some a→0≤cmpIt a x)) (fun k=>k.2-k.1) (0,xs.length)
  ⟨Nat.zero_le _,Nat.le_refl _,fun p a h=>absurd h (Nat.not_lt_zero _),fun p a h ha=>by have :=(List.getElem?_eq_some_iff.1 ha).1;omega⟩ ⟨rfl,rfl,rfl,rfl,rfl,rfl,trivial⟩ (fun _ h=>h) ?_
 rintro⟨p,q⟩ ⟨hpq,hq,h1,h2⟩
 dsimp only at hpq hq h1 h2 ⊢
 refine Z214 ?_
 refine Z215 ?_
 refine K.condD rfl (fun h=>?_) (fun h=>?_)
 ·obtain⟨g,rfl⟩:=hsa (by omega)
  have hmid:((p:Int)+(q:Int))/2=(((p+q)/2:Nat):Int):=by omega
  obtain⟨e,he⟩:∃e,xs[(p+q)/2]? =some e:=⟨xs[(p+q)/2],List.getElem?_eq_getElem (by omega)⟩
  refine Z10 ?_
  refine Z72 ?_
  refine Z23 ?_
  refine KO.i2u rfl (by rw[Tryz.underlying3];rfl) Tryz.underlying73 (by omega) rfl ?_
  refine KO.shr1 rfl rfl rfl rfl ?_
  refine KO.u2i rfl (by rw[Tryz.underlying73];rfl) Tryz.underlying3 (by omega) rfl ?_
  refine Z21 ?_
  rw[hmid]
  refine K.draw [.pure,.pure,.pure,.pure,.read,.read,.write,.pure] [0,1,2,3,4,5,6,7] Y62 Y62 ?_
  refine Z125 ?_
  refine Z89 ?_
  refine KO.ldN0 (cs:=(itC e).toArray) rfl rfl Tryz.isAgg243 Tryz.sizeOf243 rfl (hc g rfl _ e he) rfl ?_
  refine Z257 ?_
  refine KO.ce rfl rfl rfl Tryz.call244 rfl (push1_e w _ e x (hxs e (List.mem_of_getElem? he)) hx) ?_;rintro v L' ⟨rfl,rfl⟩
  refine Z215 ?_
  refine K.condD rfl (fun h3=>?_) (fun h3=>?_)
  ·(skip)
   refine Z277 ?_
   refine Z7 ?_
   refine Z44 ?_
   refine KQ.round ((p+q)/2+1,q) ⟨by dsimp only;omega,hq,fun r a hr ha=>hm r _ a e (by omega) ha he h3,h2⟩ Y47 ⟨rfl,rfl,rfl,rfl,rfl,rfl,trivial⟩ (fun _ h=>h)
  ·(skip)
   refine Z8 ?_
   refine Z7 ?_
   refine Z44 ?_
   refine KQ.round (p,(p+q)/2) ⟨by dsimp only;omega,by dsimp only;omega,h1,fun r a hr ha=>Int.not_lt.1 fun hl=>h3 (hm _ r e a hr he ha hl)⟩ Y47 ⟨rfl,rfl,rfl,rfl,rfl,rfl,trivial⟩ (fun _ h=>h)
 ·obtain rfl:p=q:=by omega
  by_cases hlt:p<xs.length
  ·obtain⟨g,rfl⟩:=hsa (by omega)
   obtain⟨e,he⟩:∃e,xs[p]? =some e:=⟨xs[p],List.getElem?_eq_getElem (by omega)⟩
   refine Z9 ?_
   refine Z216 ?_
   refine Z31 ?_
   refine Z127 ?_
   refine Z127 ?_
   refine Z89 ?_
   refine KO.on rfl rfl Y61 ?_;refine KO.ldN0 (cs:=(itC e).toArray) rfl rfl Tryz.isAgg243 Tryz.sizeOf243 rfl (hc g rfl _ e he) rfl ?_
   refine Z20 ?_
   refine Z257 ?_
   refine KO.on rfl rfl Y61 ?_;refine KO.ce rfl rfl rfl Tryz.call244 rfl (push1_e w _ e x (hxs e (List.mem_of_getElem? he)) hx) ?_;rintro v L' ⟨rfl,rfl⟩
   refine Z20 ?_
   refine Z68 ?_
   refine Z43 ?_
   refine Z192 ?_
   refine KQ.ret2 rfl rfl rfl (fun w' hs=>⟨_,_,rfl,⟨p,⟨hq,h1,h2⟩,?_,rfl⟩,hw.below_step hs.below,hs.below⟩)
   simp[hitIt,he]
  ·refine Z9 ?_
   refine Z216 ?_
   refine Z31 ?_
   refine Z313 ?_
   refine Z18 ?_
   refine Z48 ?_
   refine Z192 ?_
   refine KQ.ret2 rfl rfl rfl (fun w' hs=>⟨_,_,rfl,⟨p,⟨hq,h1,h2⟩,?_,rfl⟩,hw.below_step hs.below,hs.below⟩)
   have :xs[p]? =none:=List.getElem?_eq_none (by omega)
   simp[hitIt,this,hlt]
end Go.Proofs.YtjhogocabcdjbabGreatDoor
/- queue: Push. -/
namespace Go.Proofs.YtjhogocabcdjbabGreatDoor
open Go Go.RowKit WB
abbrev quB (b:Nat) (v:Value) (next:Int):HP:=blk b (.cells [v,.int .i64 next].toArray 122 (0,0))
def quP (b:Nat) (q:Qu):HP:=ex fun v=>sep (quB b v q.next) (itS v q.l)
theorem quP_open {w0 w:World} {b:Nat} {q:Qu} {L:List HP} (h:St w0 (quP b q::L) w):∃v,St w0 (quB b v q.next::itS v q.l::L) w:=by
 obtain⟨v,h⟩:=h.exs
 exact⟨v,h.split⟩
theorem quP_mk {w0 w:World} {b:Nat} {l:List It} {next:Int} {v:Value} {L:List HP} (h:St w0 (quB b v next::itS v l::L) w):St w0 (quP b ⟨l,next⟩::L) w:=St.exi (F:=fun v=>sep (quB b v next) (itS v l)) v h.join
set_option maxRecDepth 100000 in
theorem push_c (w0:World) (L:List HP) (b:Nat) (q:Qu) (m:Ms) (u:Int) (hq:QuOk q) (hm:small m.pri):
 KC Tryz.prog 147 #[.pointer (some ⟨b,0,none⟩),.agg (msC m).toArray,.int .i64 u] w0 (quP b q::L) (fun v L'=>v=.tuple #[]∧L'=quP b (qpush q m u)::L):=by
 have hx:smallIt (qitem q m u):=⟨hm,by have :=hq.next;unfold qitem small;dsimp only;omega⟩
 have hk:=srchIt_le q.l (qitem q m u)
 have h1:=hq.next
 have h2:=hq.len
 refine KC.mk (n:=44) Tryz.func147 rfl Tryz.ntmps147 (by simp) ?_
 refine Z53 ?_
 refine K.open' (fun _ h=>quP_open h) fun v=>?_
 refine Z231 ?_
 refine KO.box rfl rfl Y68 rfl ?_;intro b4
 refine Z0 ?_
 refine K.draw [.read,.pure,.pure,.pure,.read,.pure,.pure,.pure,.keep,.write] [0,1,2,3,4,5,6,7,8,9] Y62 Y62 ?_
 refine Z124 ?_
 refine Z26 ?_
 refine Z296 ?_
 refine Z38 ?_
 refine Z1 ?_
 refine KO.max2 rfl rfl rfl rfl ?_
 refine KO.bldS (pl:=[(0,5),(5,1),(6,1),(7,1)]) (itC (qitem q m u)) rfl Tryz.zeroValue243 Tryz.runUnderlying243 (by intro w;simp[Tryz.sizeOf3,Tryz.sizeOf44]) rfl rfl ?_
 refine KO.alloc rfl Tryz.zeroValue243 Y68 rfl ?_;intro b6
 refine Z262 ?_
 refine Z120 ?_
 refine Z296 ?_
 refine Z38 ?_
 refine Z353 ?_
 refine Z296 ?_
 (refine KO.sto rfl rfl rfl Y68 Y45 Y68 Y11 Y68 Y0 ?_)
 refine Z0 ?_
 refine K.draw [.pure,.pure,.pure,.read,.read,.write,.pure,.pure,.pure,.pure,.pure] [0,1,2,3,4,5,6,7,8,9,10] Y62 Y62 ?_
 refine Z26 ?_
 refine Z259 ?_
 refine KO.ldB0 rfl rfl Tryz.isAgg243 Tryz.sizeOf243 Y11 Y68 rfl ?_
 refine KO.ce rfl rfl rfl Tryz.call243 rfl (bsf_it w0 _ v q.l (qitem q m u) (RdS.of (fun _=>rfl) Y11) (by omega) (hq.mono m u) hx hq.small) ?_;rintro v30 L' ⟨k,hsr,rfl,rfl⟩;obtain rfl:=srchIt_eq hsr
 refine Z64 ?_
 refine Z83 ?_
 refine K.draw [.pure,.pure,.pure,.pure,.read,.pure,.read,.keep,.write,.pure,.pure,.write] [0,1,2,3,4,5,6,7,8,9,10,11] Y62 Y62 ?_
 refine Z217 ?_
 refine Z259 ?_
 refine Z1 ?_
 refine KO.ldB0 rfl rfl Tryz.isAgg243 Tryz.sizeOf243 Y11 Y68 rfl ?_
 refine KO.bs1 (z:=(Value.agg #[.int .i64 0,.int .i64 0,.string ⟨#[]⟩,.string ⟨#[]⟩,.int .i64 0,.int .i64 0,.int .i64 0,.int .i64 0])) (sz:=8) (by':=80) rfl rfl Tryz.underlying120 Y62 Y68 Y68 (by decide) (by decide) rfl ?_;intro b40
 refine KO.cl rfl rfl rfl Tryz.call246 rfl (KC.pk2 Y11 Y21 (itIns_c w0 _ v q.l (qitem q m u) _ _ hk (by omega))) ?_;rintro v' L' rfl;refine KO.fact (fun _ hs=>SL_form hs) ?_;rintro⟨a',c',rfl,-⟩
 refine Z49 ?_
 refine Z36 ?_
 (refine KO.sto rfl rfl rfl Y68 Y37 Y68 Y11 Y68 Y0 ?_)
 refine KO.nil ?_
 refine KQ.end0 rfl (fun w' hs=>⟨_,_,rfl,⟨rfl,rfl⟩,?_⟩)
 exact quP_mk ((hs.pick2 Y21 Y21).gc2 Y12)
end Go.Proofs.YtjhogocabcdjbabGreatDoor
/- queue: what is asked of it; Get, Take. -/
namespace Go.Proofs.YtjhogocabcdjbabGreatDoor
open Go Go.RowKit WB
theorem many_e (w0:World) (L R:List HP) (b:Nat) (q:Qu) (hp:Pick L (quP b q) R):
 KE Tryz.prog 192 #[.pointer (some ⟨b,0,none⟩)] w0 L (fun v L'=>v=.int .i64 (q.l.length:Nat)∧L'=L):=by
 refine KE.mk (n:=8) Tryz.func192 rfl Tryz.ntmps192 (by simp) ?_
 intro w hw0
 obtain⟨v,hw⟩:=quP_open (hw0.pick hp)
 obtain⟨sa,cap,rfl,hsa⟩:=SL_form hw.drop
 refine Z150 ?_
 refine Z49 ?_
 refine Z247 ?_
 refine Z158 ?_
 refine Z33 ?_
 refine KQ.ret1 rfl rfl (fun w' hs=>⟨_,_,rfl,⟨rfl,rfl⟩,hw0.below_step hs.below,hs.below⟩)
theorem has1_e (w0:World) (L R:List HP) (e:It) (b:Nat) (id:Int) (E:TypeId) (hp:Pick L (blk b (.cells [Value.int .i64 id].toArray E (0,0))) R):
 KE Tryz.prog 242 #[.agg (itC e).toArray,.pointer (some ⟨b,0,none⟩)] w0 L (fun v L'=>v=.bool (idB id e)∧L'=L):=by
 refine KE.mk (n:=9) Tryz.func242 rfl Tryz.ntmps242 (by simp) ?_
 intro w hw
 have hw:=hw.pick hp
 refine Z3 ?_
 refine KO.box rfl rfl Y68 rfl ?_;intro b2
 refine Z135 ?_
 refine Z148 ?_
 refine Z220 ?_
 refine Z323 ?_
 refine Z33 ?_
 refine KQ.ret1 rfl rfl (fun w' hs=>⟨_,_,rfl,⟨rfl,rfl⟩,(hw.unpick hp).below_step hs.below,hs.below⟩)
theorem has_e (w0:World) (L R:List HP) (b:Nat) (q:Qu) (id:Int) (hp:Pick L (quP b q) R) (hq:q.l.length<900000):
 KE Tryz.prog 146 #[.pointer (some ⟨b,0,none⟩),.int .i64 id] w0 L (fun v L'=>v=.bool (qhas q id)∧L'=L):=by
 refine KE.mk (n:=11) Tryz.func146 rfl Tryz.ntmps146 (by simp) ?_
 intro w hw0
 obtain⟨v,hw⟩:=quP_open (hw0.pick hp)
 refine Z3 ?_
 refine KO.box rfl rfl Y68 rfl ?_;intro b3
 refine Z232 ?_
 refine Z247 ?_
 refine KO.mkc rfl rfl rfl ?_
 refine KO.ce rfl rfl rfl Tryz.call241 rfl (conf_e w _ v q.l 242 [.pointer (some ⟨b3,0,none⟩)] (idB id) (RdS.of (E:=243) (sz:=8) (cf:=itC) (fun _=>rfl) Pick.head w hw.drop).base (by omega) Tryz.call242 (fun e _=>has1_e _ _ _ e b3 id _ Y21)) ?_;rintro v L' ⟨rfl,rfl⟩
 refine Z33 ?_
 refine KQ.ret1 rfl rfl (fun w' hs=>⟨_,_,rfl,⟨rfl,rfl⟩,hw0.below_step hs.below,hs.below⟩)
end Go.Proofs.YtjhogocabcdjbabGreatDoor
/- the steps of the calculus: results that lie in memory -/
namespace WB
open Go Go.RowKit
section
variable {P:Program} {fn:Func} {R:Ending→World→Prop} {n:Nat} {w0:World} {G:Env} {L M:List HP} {v v1 v2 v3:Value} {t t1 t2 t3:Nat} {T E:TypeId} {b:Nat} {cs:List Value} {fz:Nat×Nat}
theorem resC (h1:envAt G t1=some (.pointer (some ⟨b,0,none⟩))) (hT:∀w,(isAgg T).run P w=.ok true w) (hn:∀w,(Go.sizeOf T).run P w=.ok cs.length w) (hp:Pick L (blk b (.cells cs.toArray E fz)) M) (a:Act) (w:World) (ha:Knows n [] G a) (hw:St w0 L w):
 (loadVar T ⟨b,0,none⟩).run P w=.ok (.agg cs.toArray) w:=by
 refine run_load_agg (hT w) (hn w) fun j c hj=>?_
 rw[Addr.add_lit,World.cell?,(hw.lookP hp).2]
 simpa using hj
theorem KQ.retCT (hr:fn.results=#[.cell t1 T,.tmp t2]) (h1:envAt G t1=some (.pointer (some ⟨b,0,none⟩))) (hT:∀w,(isAgg T).run P w=.ok true w) (hp:Pick L (blk b (.cells cs.toArray E fz)) M) (hn:∀w,(Go.sizeOf T).run P w=.ok cs.length w)
 (h2:envAt G t2=some v2) (h:∀w,St w0 L w→R (.returned (.tuple #[.agg cs.toArray,v2])) w):KQ (bodyPost P fn R) .ret n [] w0 G L:=
 KQ.fin (fun a w ha hw=>by
  have hl:=resC (P:=P) h1 hT hn hp a w ha hw
  simp[results,hr,Array.getD_eq_getD_getElem?,ha.get _ _ h1,ha.get _ _ h2,asAddr,hl]) h
end
end WB
namespace WB
open Go Go.RowKit
theorem St.stack {w0 w w':World} {L M:List HP} (hw:St w0 L w) (hs:St w M w'):St w0 (M++L) w':=by
 refine⟨hs.os.trans hw.os,hs.tape.trans hw.tape,hs.output.trans hw.output,Nat.le_trans hw.size hs.size,fun k hk=>?_,?_⟩
 ·rw[hs.block k (Nat.lt_of_lt_of_le hk hw.size)];exact hw.block k hk
 ·obtain⟨h1,hh1,s1⟩:=hw.own
  obtain⟨h2,hh2,s2⟩:=hs.own
  have hlt:∀k o,h1 k=some o→k<w.heap.size:=fun k o hk=>(Array.getElem?_eq_some_iff.1 (hh1 k o hk).2).1
  refine⟨uni h2 h1,fun k o hk=>?_,seps_append.2 ⟨h2,h1,fun k=>?_,rfl,s2,s1⟩⟩
  ·simp only[uni]at hk
   cases e2:h2 k with
   |some v=>
    rw[e2]at hk;simp only[Option.some_or,Option.some.injEq]at hk;subst hk
    exact⟨Nat.le_trans hw.size (hh2 k v e2).1,(hh2 k v e2).2⟩
   |none=>
    rw[e2]at hk;simp only[Option.none_or]at hk
    exact⟨(hh1 k o hk).1,by rw[hs.block k (hlt k o hk)];exact(hh1 k o hk).2⟩
  ·cases e1:h1 k with
   |none=>exact .inr rfl
   |some o=>
    left
    cases e2:h2 k with
    |none=>rfl
    |some v=>have h3:=(hh2 k v e2).1;have h4:=hlt k o e1;omega
theorem SL_nil {w0 w:World} {L:List HP} {α:Type} {E:TypeId} {sz:Nat} {cf:α→List Value} (h:St w0 L w):St w0 (SL E sz cf (.slice none 0 0) ([]:List α)::L) w:=h.osl_nil
end WB
/- queue: Get, Take. -/
namespace Go.Proofs.YtjhogocabcdjbabGreatDoor
open Go Go.RowKit WB
theorem take_c (w0:World) (L:List HP) (b:Nat) (q:Qu) (id:Int) (hq:q.l.length<900000):
 KC Tryz.prog 161 #[.pointer (some ⟨b,0,none⟩),.int .i64 id] w0 (quP b q::L) (fun v L'=>v=.tuple #[.agg (msC (qtakeM q id)).toArray,errV 70 (qtakeE q id)]∧L'=quP b (qtake q id)::L):=by
 refine KC.mk (n:=38) Tryz.func161 rfl Tryz.ntmps161 (by simp) ?_
 refine Z53 ?_
 refine K.open' (fun _ h=>quP_open h) fun v=>?_
 refine Z231 ?_
 refine KO.box rfl rfl Y68 rfl ?_;intro b3
 refine KO.alloc rfl Tryz.zeroValue44 Y68 rfl ?_;intro b4
 refine Z232 ?_
 refine Z123 ?_
 refine KO.mkc rfl rfl rfl ?_
 refine KO.ce rfl rfl rfl Tryz.call149 rfl (idxf_e w0 _ v q.l 252 [.pointer (some ⟨b3,0,none⟩)] (idB id) (RdS.of (fun _=>rfl) Y11) (by omega) Tryz.call252 (fun e _=>take1_e w0 _ _ e b3 id _ Y11)) ?_;rintro v12 L' ⟨rfl,rfl⟩
 refine Z28 ?_
 refine Z215 ?_
 refine K.condD rfl (fun h=>?_) (fun h=>?_)
 ·have hn:qtakeI q id=none:=fidx_neg h
  refine Z354 ?_
  refine Z67 ?_
  refine Z59 ?_
  refine KQ.retCT rfl rfl Tryz.isAgg44 Y21 Y41 rfl (fun w' hs=>⟨_,_,rfl,⟨?_,rfl⟩,?_⟩)
  ·simp only[qtakeM,qtakeE,hn];rfl
  ·rw[show qtake q id=q by simp only[qtake,hn]]
   exact quP_mk ((hs.pick2 Y11 Y11).gc2 Y12)
 ·obtain⟨i0,e0,hi0,he0,hp0,hlt0,hfi⟩:=fidx_nonneg (Int.not_lt.1 h)
  have hn:qtakeI q id=some i0:=hfi
  refine K.fact (fun w hw=>SL_some (hw.pick Y11) hlt0) ?_
  rintro⟨g,cap,rfl⟩
  rw[hi0]
  refine Z6 ?_
  refine Z120 ?_
  refine Z123 ?_
  refine Z1 ?_
  refine Z89 ?_
  refine KO.fo (off:=0) rfl Tryz.runUnderlying243 rfl rfl Tryz.sizeOf44 rfl ?_
  (refine KO.ldEP rfl rfl Tryz.isAgg44 Tryz.sizeOf44 Y11 (fun _=>rfl) Y63 Y8 Y68 rfl ?_)
  refine KO.alloc rfl Tryz.zeroValue44 Y68 rfl ?_;intro b7
  refine Z278 ?_
  refine Z171 ?_
  refine Z123 ?_
  refine Z34 ?_
  refine Z23 ?_
  refine KO.cl rfl rfl rfl Tryz.call151 rfl (KC.pk1 Y11 (del_c w0 _ _ q.l i0 hlt0 (by omega))) ?_;rintro v' L' rfl;refine KO.fact (fun _ hs=>SL_form hs) ?_;rintro⟨a',c',rfl,-⟩
  refine Z49 ?_
  refine Z36 ?_
  (refine KO.sto rfl rfl rfl Y68 Y37 Y68 Y11 Y68 Y0 ?_)
  refine Z248 ?_
  refine Z113 ?_
  refine Z237 ?_
  refine Z33 ?_
  refine KQ.retCT rfl rfl Tryz.isAgg44 Y21 Y41 rfl (fun w' hs=>⟨_,_,rfl,⟨?_,rfl⟩,?_⟩)
  ·simp only[qtakeM,qtakeE,hn,itAt_of he0];rfl
  ·rw[show qtake q id=⟨q.l.eraseIdx i0,q.next⟩by simp only[qtake,hn]]
   exact quP_mk ((hs.pick2 Y11 Y11).gc2 Y12)
theorem get_c (w0:World) (L:List HP) (b:Nat) (q:Qu) (u:Int) (hq:q.l.length<900000):
 KC Tryz.prog 58 #[.pointer (some ⟨b,0,none⟩),.int .i64 u] w0 (quP b q::L) (fun v L'=>v=.tuple #[.agg (msC (qgetM q)).toArray,errV 70 (qgetE q)]∧L'=quP b (qget q u)::L):=by
 refine KC.mk (n:=47) Tryz.func58 rfl Tryz.ntmps58 (by simp) ?_
 refine Z53 ?_
 refine K.open' (fun _ h=>quP_open h) fun v=>?_
 refine Z231 ?_
 refine KO.alloc rfl Tryz.zeroValue44 Y68 rfl ?_;intro b4
 refine Z232 ?_
 refine Z123 ?_
 refine KO.ce (cp:=[]) rfl rfl rfl Tryz.call149 rfl (idxf_e w0 _ v q.l 150 [] availB (RdS.of (fun _=>rfl) Y11) (by omega) Tryz.call150 (fun e _=>get1_e w0 _ e)) ?_;rintro v12 L' ⟨rfl,rfl⟩
 refine Z28 ?_
 refine Z215 ?_
 refine K.condD rfl (fun h=>?_) (fun h=>?_)
 ·have hn:qgetI q=none:=fidx_neg h
  refine Z354 ?_
  refine Z67 ?_
  refine Z59 ?_
  refine KQ.retCT rfl rfl Tryz.isAgg44 Y21 Y41 rfl (fun w' hs=>⟨_,_,rfl,⟨?_,rfl⟩,?_⟩)
  ·simp only[qgetM,qgetE,hn];rfl
  ·rw[show qget q u=q by simp only[qget,hn]]
   exact quP_mk ((hs.pick2 Y11 Y11).gc2 Y12)
 ·obtain⟨i0,e0,hi0,he0,hp0,hlt0,hfi⟩:=fidx_nonneg (Int.not_lt.1 h)
  have hn:qgetI q=some i0:=hfi
  refine K.fact (fun w hw=>SL_some (hw.pick Y11) hlt0) ?_
  rintro⟨g,cap,rfl⟩
  rw[hi0]
  refine Z6 ?_
  refine Z120 ?_
  refine Z123 ?_
  refine Z1 ?_
  refine Z89 ?_
  refine KO.fo (off:=0) rfl Tryz.runUnderlying243 rfl rfl Tryz.sizeOf44 rfl ?_
  (refine KO.ldEP rfl rfl Tryz.isAgg44 Tryz.sizeOf44 Y11 (fun _=>rfl) Y63 Y8 Y68 rfl ?_)
  refine KO.alloc rfl Tryz.zeroValue44 Y68 rfl ?_;intro b7
  refine Z278 ?_
  refine Z140 ?_
  refine Z2 ?_
  refine K.condD rfl (fun h2=>?_) (fun h2=>?_)
  ·(skip)
   refine Z171 ?_
   refine Z123 ?_
   refine Z34 ?_
   refine Z23 ?_
   refine KO.cl rfl rfl rfl Tryz.call151 rfl (KC.pk1 Y11 (del_c w0 _ _ q.l i0 hlt0 (by omega))) ?_;rintro v' L' rfl;refine KO.fact (fun _ hs=>SL_form hs) ?_;rintro⟨a',c',rfl,-⟩
   refine Z49 ?_
   refine Z36 ?_
   (refine KO.sto rfl rfl rfl Y68 Y37 Y68 Y11 Y68 Y0 ?_)
   refine Z248 ?_
   refine Z113 ?_
   refine Z237 ?_
   refine Z33 ?_
   refine KQ.retCT rfl rfl Tryz.isAgg44 Y21 Y41 rfl (fun w' hs=>⟨_,_,rfl,⟨?_,rfl⟩,?_⟩)
   ·simp only[qgetM,qgetE,hn,itAt_of he0];rfl
   ·rw[show qget q u=⟨q.l.eraseIdx i0,q.next⟩by simp only[qget,hn,h2,if_true]]
    exact quP_mk ((hs.pick2 Y11 Y11).gc2 Y12)
  ·(skip)
   refine Z120 ?_
   refine Z123 ?_
   refine Z34 ?_
   refine Z89 ?_
   refine Z176 ?_
   refine KO.stE rfl rfl rfl Y68 Y45 Y68 Y11 (fun _=>rfl) he0 rfl {e0 with got:=u} rfl ?_
   refine Z248 ?_
   refine Z113 ?_
   refine Z237 ?_
   refine Z33 ?_
   refine KQ.retCT rfl rfl Tryz.isAgg44 Y21 Y41 rfl (fun w' hs=>⟨_,_,rfl,⟨?_,rfl⟩,?_⟩)
   ·simp only[qgetM,qgetE,hn,itAt_of he0];rfl
   ·rw[show qget q u=⟨q.l.set i0 {e0 with got:=u},q.next⟩by simp only[qget,hn,h2,if_false,itAt_of he0]]
    exact quP_mk ((hs.pick2 Y11 Y11).gc2 Y12)
end Go.Proofs.YtjhogocabcdjbabGreatDoor
/- queue: There, Kept. -/
namespace Go.Proofs.YtjhogocabcdjbabGreatDoor
open Go Go.RowKit WB
abbrev msS (v:Value) (xs:List Ms):HP:=SL 44 5 msC v xs
theorem ms_info:(Tryz.prog.info? 44).map (fun i=>(i.zero,i.size,i.bytes))=some (some (Value.agg #[.int .i64 0,.int .i64 0,.string ⟨#[]⟩,.string ⟨#[]⟩,.int .i64 0]),5,56):=by kernel_rfl
theorem there_e (w0:World) (L R:List HP) (b:Nat) (q:Qu) (hp:Pick L (quP b q) R) (hq:q.l.length<900000):
 KE Tryz.prog 80 #[.pointer (some ⟨b,0,none⟩)] w0 L (fun v L'=>L'=msS v (qthere q)::L):=by
 refine KE.mk (n:=30) Tryz.func80 rfl Tryz.ntmps80 (by simp) ?_
 intro w hw0
 obtain⟨v,hw⟩:=quP_open (hw0.pick hp)
 obtain⟨sa,cap,rfl,hsa,hc⟩:=RdS.of (E:=243) (sz:=8) (cf:=itC) (fun _=>rfl) Pick.head w hw.drop
 refine Z3 ?_
 refine Z135 ?_
 refine Z232 ?_
 refine Z247 ?_
 refine Z158 ?_
 refine Z119 ?_
 refine K.loop (fun k:Nat×Value=>[(3,k.2),(9,.slice sa q.l.length cap),(10,.int .i64 (q.l.length:Nat)),(11,.int .i64 (k.1:Nat))]) (fun k=>[msS k.2 (((q.l.take k.1).filter availB).map (·.m))]) (fun k=>k.1≤q.l.length) (fun k=>q.l.length-k.1) (0,.slice none 0 0)
  (Nat.zero_le _) ⟨rfl,rfl,rfl,rfl,trivial⟩ (fun _ h=>SL_nil h) ?_
 rintro⟨k,vo⟩ hk
 dsimp only at hk ⊢
 refine Z111 ?_
 refine K.condD rfl (fun h=>?_) (fun h=>?_)
 ·obtain⟨g,rfl⟩:=hsa (by omega)
  obtain⟨e,he⟩:∃e,q.l[k]? =some e:=⟨q.l[k],List.getElem?_eq_getElem (by omega)⟩
  have hlen:(((q.l.take k).filter availB).map (·.m)).length<900000:=by
   have :=List.length_filter_le availB (q.l.take k);simp at this ⊢;omega
  have hstep:((q.l.take (k+1)).filter availB).map (·.m)=((q.l.take k).filter availB).map (·.m)++(if availB e=true then[e.m]else[]):=by
   rw[take_succ_some he,List.filter_append]
   by_cases ha:availB e=true<;>simp[ha]
  refine Z145 ?_
  refine Z198 ?_
  refine KO.alloc rfl Tryz.zeroValue243 Y68 rfl ?_;intro b5
  refine Z262 ?_
  by_cases h1:e.put<0
  ·refine Z56 ?_
   refine Z311 ?_
   refine Z114 ?_
   refine Z100 ?_
   refine Z31 ?_
   refine Z279 ?_
   refine K.condD rfl (fun h2=>?_) (fun h2=>?_)
   ·rw[if_pos (by simp[availB,h1,h2])]at hstep
    refine Z8 ?_
    refine Z148 ?_
    (refine KO.ldB rfl rfl Tryz.isAgg44 Tryz.sizeOf44 Y21 Y8 Y68 rfl ?_)
    refine KO.bs1 (z:=(Value.agg #[.int .i64 0,.int .i64 0,.string ⟨#[]⟩,.string ⟨#[]⟩,.int .i64 0])) (sz:=5) (by':=56) rfl rfl Tryz.underlying49 Y62 Y68 Y68 (by decide) (by decide) rfl ?_;intro b26
    refine KO.app (z:=Value.agg #[.int .i64 0,.int .i64 0,.string ⟨#[]⟩,.string ⟨#[]⟩,.int .i64 0]) (sz:=5) (by':=56) rfl rfl rfl Y11 Y21 Tryz.underlying49 ms_info rfl e.m Y68 Y68 Y68 (by omega) (by decide) rfl ?_;intro v'
    refine Z234 ?_
    refine KQ.round (k+1,v') Y47 Y47 ⟨rfl,rfl,rfl,rfl,trivial⟩ (fun _ h=>?_)
    dsimp only
    rw[hstep]
    exact(h.pick Y21).gc1 Y12
   ·rw[if_neg (by simp[availB,h2]),List.append_nil]at hstep
    refine Z191 ?_
    refine KQ.round (k+1,vo) Y47 Y47 ⟨rfl,rfl,rfl,rfl,trivial⟩ (fun _ h=>?_)
    dsimp only
    rw[hstep]
    exact(h.pick Y11).gc1 Y12
  ·rw[if_neg (by simp[availB,h1]),List.append_nil]at hstep
   refine Z56 ?_
   refine Z260 ?_
   refine Z339 ?_
   refine Z63 ?_
   refine Z191 ?_
   refine KQ.round (k+1,vo) Y47 Y47 ⟨rfl,rfl,rfl,rfl,trivial⟩ (fun _ h=>?_)
   dsimp only
   rw[hstep]
   exact(h.pick Y11).gc1 Y12
 ·have hkl:k=q.l.length:=by omega
  refine Z274 ?_
  refine Z33 ?_
  refine KQ.ret1 rfl rfl (fun w' hs=>⟨_,_,rfl,rfl,?_,hs.below⟩)
  rw[hkl,List.take_length]at hs
  exact hw0.stack hs
theorem kept_e (w0:World) (L R:List HP) (b:Nat) (q:Qu) (hp:Pick L (quP b q) R) (hq:q.l.length<900000):
 KE Tryz.prog 67 #[.pointer (some ⟨b,0,none⟩)] w0 L (fun v L'=>L'=msS v (qkept q)::L):=by
 refine KE.mk (n:=25) Tryz.func67 rfl Tryz.ntmps67 (by simp) ?_
 intro w hw0
 obtain⟨v,hw⟩:=quP_open (hw0.pick hp)
 obtain⟨sa,cap,rfl,hsa,hc⟩:=RdS.of (E:=243) (sz:=8) (cf:=itC) (fun _=>rfl) Pick.head w hw.drop
 refine Z3 ?_
 refine Z135 ?_
 refine Z232 ?_
 refine Z247 ?_
 refine Z158 ?_
 refine Z119 ?_
 refine K.loop (fun k:Nat×Value=>[(3,k.2),(9,.slice sa q.l.length cap),(10,.int .i64 (q.l.length:Nat)),(11,.int .i64 (k.1:Nat))]) (fun k=>[msS k.2 (((q.l.take k.1).filter fun e=>decide (e.put<0)).map (·.m))]) (fun k=>k.1≤q.l.length) (fun k=>q.l.length-k.1) (0,.slice none 0 0)
  (Nat.zero_le _) ⟨rfl,rfl,rfl,rfl,trivial⟩ (fun _ h=>SL_nil h) ?_
 rintro⟨k,vo⟩ hk
 dsimp only at hk ⊢
 refine Z111 ?_
 refine K.condD rfl (fun h=>?_) (fun h=>?_)
 ·obtain⟨g,rfl⟩:=hsa (by omega)
  obtain⟨e,he⟩:∃e,q.l[k]? =some e:=⟨q.l[k],List.getElem?_eq_getElem (by omega)⟩
  have hlen:(((q.l.take k).filter fun e=>decide (e.put<0)).map (·.m)).length<900000:=by
   have :=List.length_filter_le (fun e:It=>decide (e.put<0)) (q.l.take k);simp at this ⊢;omega
  have hstep:((q.l.take (k+1)).filter fun e=>decide (e.put<0)).map (·.m)=((q.l.take k).filter fun e=>decide (e.put<0)).map (·.m)++(if e.put<0 then[e.m]else[]):=by
   rw[take_succ_some he,List.filter_append]
   by_cases ha:e.put<0<;>simp[ha]
  refine Z145 ?_
  refine Z198 ?_
  refine KO.alloc rfl Tryz.zeroValue243 Y68 rfl ?_;intro b5
  refine Z262 ?_
  refine Z56 ?_
  refine Z17 ?_
  refine Z215 ?_
  refine K.condD rfl (fun h2=>?_) (fun h2=>?_)
  ·rw[if_pos h2]at hstep
   refine Z8 ?_
   refine Z148 ?_
   (refine KO.ldB rfl rfl Tryz.isAgg44 Tryz.sizeOf44 Y21 Y8 Y68 rfl ?_)
   refine KO.bs1 (z:=(Value.agg #[.int .i64 0,.int .i64 0,.string ⟨#[]⟩,.string ⟨#[]⟩,.int .i64 0])) (sz:=5) (by':=56) rfl rfl Tryz.underlying49 Y62 Y68 Y68 (by decide) (by decide) rfl ?_;intro b21
   refine KO.app (z:=Value.agg #[.int .i64 0,.int .i64 0,.string ⟨#[]⟩,.string ⟨#[]⟩,.int .i64 0]) (sz:=5) (by':=56) rfl rfl rfl Y11 Y21 Tryz.underlying49 ms_info rfl e.m Y68 Y68 Y68 (by omega) (by decide) rfl ?_;intro v'
   refine Z234 ?_
   refine KQ.round (k+1,v') Y47 Y47 ⟨rfl,rfl,rfl,rfl,trivial⟩ (fun _ h=>?_)
   dsimp only
   rw[hstep]
   exact(h.pick Y21).gc1 Y12
  ·rw[if_neg h2,List.append_nil]at hstep
   refine Z191 ?_
   refine KQ.round (k+1,vo) Y47 Y47 ⟨rfl,rfl,rfl,rfl,trivial⟩ (fun _ h=>?_)
   dsimp only
   rw[hstep]
   exact(h.pick Y11).gc1 Y12
 ·have hkl:k=q.l.length:=by omega
  refine Z274 ?_
  refine Z33 ?_
  refine KQ.ret1 rfl rfl (fun w' hs=>⟨_,_,rfl,rfl,?_,hs.below⟩)
  rw[hkl,List.take_length]at hs
  exact hw0.stack hs
end Go.Proofs.YtjhogocabcdjbabGreatDoor
/- queue: Ends. -/
namespace Go.Proofs.YtjhogocabcdjbabGreatDoor
open Go Go.RowKit WB
theorem ends1_e (w0:World) (L R1 R2:List HP) (e:It) (b1 b2:Nat) (u:Int) (back:Bool) (E1 E2:TypeId) (hp1:Pick L (blk b1 (.cells [Value.int .i64 u].toArray E1 (0,0))) R1) (hp2:Pick L (blk b2 (.cells [Value.bool back].toArray E2 (0,0))) R2):
 KE Tryz.prog 159 #[.agg (itC e).toArray,.pointer (some ⟨b1,0,none⟩),.pointer (some ⟨b2,0,none⟩)] w0 L (fun v L'=>v=.bool (endB u back e)∧L'=L):=by
 refine KE.mk (n:=22) Tryz.func159 rfl Tryz.ntmps159 (by simp) ?_
 intro w hw0
 have c1:w.cell? ⟨b1,0,none⟩=some (.int .i64 u):=by rw[World.cell?,(hw0.lookP hp1).2];rfl
 have c2:w.cell? ⟨b2,0,none⟩=some (.bool back):=by rw[World.cell?,(hw0.lookP hp2).2];rfl
 refine Z3 ?_
 refine KO.box rfl rfl Y68 rfl ?_;intro b3
 refine Z21 ?_
 by_cases h1:e.put=u
 all_goals cases back
 all_goals by_cases h2:e.got=u
 ·refine Z324 ?_
  refine KO.on rfl rfl Y69 ?_;refine KO.ld0 rfl rfl Tryz.isAgg4 c2 rfl ?_
  refine Z43 ?_
  refine Z14 ?_
  refine Z114 ?_
  refine Z355 ?_
  refine KO.on rfl rfl rfl ?_;refine KO.ld0 rfl rfl Tryz.isAgg3 c1 rfl ?_
  refine Z287 ?_
  refine Z316 ?_
  refine KO.on rfl rfl (by simp[h2]) ?_;refine KO.ld0 rfl rfl Tryz.isAgg4 c2 rfl ?_
  refine Z20 ?_
  refine Z70 ?_
  refine Z57 ?_
  refine KO.pickT rfl ?_ rfl rfl ?_
  (focus(simp only[decide_eq_true_eq,decide_eq_false_iff_not,Bool.not_eq_true,Bool.not_true,Bool.not_false,ne_eq];omega))
  refine Z356 ?_
  refine KQ.ret1 rfl rfl (fun w' hs=>⟨_,_,rfl,⟨?_,rfl⟩,hw0.below_step hs.below,hs.below⟩)
  simp[endB,h1,h2]
 ·refine Z324 ?_
  refine KO.on rfl rfl Y69 ?_;refine KO.ld0 rfl rfl Tryz.isAgg4 c2 rfl ?_
  refine Z43 ?_
  refine Z14 ?_
  refine Z114 ?_
  refine Z355 ?_
  refine KO.on rfl rfl rfl ?_;refine KO.ld0 rfl rfl Tryz.isAgg3 c1 rfl ?_
  refine Z287 ?_
  refine Z57 ?_
  refine Z151 ?_
  refine Z57 ?_
  refine KO.pickF rfl ?_ rfl rfl ?_
  (focus(simp only[decide_eq_true_eq,decide_eq_false_iff_not,Bool.not_eq_true,Bool.not_true,Bool.not_false,ne_eq];omega))
  refine Z356 ?_
  refine KQ.ret1 rfl rfl (fun w' hs=>⟨_,_,rfl,⟨?_,rfl⟩,hw0.below_step hs.below,hs.below⟩)
  simp[endB,h1,h2]
 ·refine Z324 ?_
  refine KO.on rfl rfl Y69 ?_;refine KO.ld0 rfl rfl Tryz.isAgg4 c2 rfl ?_
  refine Z43 ?_
  refine Z96 ?_
  refine Z42 ?_
  refine Z330 ?_
  refine Z45 ?_
  refine Z33 ?_
  refine KQ.ret1 rfl rfl (fun w' hs=>⟨_,_,rfl,⟨?_,rfl⟩,hw0.below_step hs.below,hs.below⟩)
  simp[endB,h1]
 ·refine Z324 ?_
  refine KO.on rfl rfl Y69 ?_;refine KO.ld0 rfl rfl Tryz.isAgg4 c2 rfl ?_
  refine Z43 ?_
  refine Z96 ?_
  refine Z42 ?_
  refine Z330 ?_
  refine Z45 ?_
  refine Z33 ?_
  refine KQ.ret1 rfl rfl (fun w' hs=>⟨_,_,rfl,⟨?_,rfl⟩,hw0.below_step hs.below,hs.below⟩)
  simp[endB,h1]
 ·refine Z336 ?_
  refine Z48 ?_
  refine Z14 ?_
  refine Z114 ?_
  refine Z355 ?_
  refine KO.on rfl rfl rfl ?_;refine KO.ld0 rfl rfl Tryz.isAgg3 c1 rfl ?_
  refine Z287 ?_
  refine Z316 ?_
  refine KO.on rfl rfl (by simp[h2]) ?_;refine KO.ld0 rfl rfl Tryz.isAgg4 c2 rfl ?_
  refine Z20 ?_
  refine Z70 ?_
  refine Z57 ?_
  refine KO.pickT rfl ?_ rfl rfl ?_
  (focus(simp only[decide_eq_true_eq,decide_eq_false_iff_not,Bool.not_eq_true,Bool.not_true,Bool.not_false,ne_eq];omega))
  refine Z356 ?_
  refine KQ.ret1 rfl rfl (fun w' hs=>⟨_,_,rfl,⟨?_,rfl⟩,hw0.below_step hs.below,hs.below⟩)
  simp[endB,h1,h2]
 ·refine Z336 ?_
  refine Z48 ?_
  refine Z14 ?_
  refine Z114 ?_
  refine Z355 ?_
  refine KO.on rfl rfl rfl ?_;refine KO.ld0 rfl rfl Tryz.isAgg3 c1 rfl ?_
  refine Z287 ?_
  refine Z57 ?_
  refine Z151 ?_
  refine Z57 ?_
  refine KO.pickF rfl ?_ rfl rfl ?_
  (focus(simp only[decide_eq_true_eq,decide_eq_false_iff_not,Bool.not_eq_true,Bool.not_true,Bool.not_false,ne_eq];omega))
  refine Z356 ?_
  refine KQ.ret1 rfl rfl (fun w' hs=>⟨_,_,rfl,⟨?_,rfl⟩,hw0.below_step hs.below,hs.below⟩)
  simp[endB,h1,h2]
 ·refine Z336 ?_
  refine Z48 ?_
  refine Z14 ?_
  refine Z114 ?_
  refine Z355 ?_
  refine KO.on rfl rfl rfl ?_;refine KO.ld0 rfl rfl Tryz.isAgg3 c1 rfl ?_
  refine Z287 ?_
  refine Z316 ?_
  refine KO.on rfl rfl (by simp[h2]) ?_;refine KO.ld0 rfl rfl Tryz.isAgg4 c2 rfl ?_
  refine Z20 ?_
  refine Z70 ?_
  refine Z57 ?_
  refine KO.pickT rfl ?_ rfl rfl ?_
  (focus(simp only[decide_eq_true_eq,decide_eq_false_iff_not,Bool.not_eq_true,Bool.not_true,Bool.not_false,ne_eq];omega))
  refine Z356 ?_
  refine KQ.ret1 rfl rfl (fun w' hs=>⟨_,_,rfl,⟨?_,rfl⟩,hw0.below_step hs.below,hs.below⟩)
  simp[endB,h1,h2]
 ·refine Z336 ?_
  refine Z48 ?_
  refine Z14 ?_
  refine Z114 ?_
  refine Z355 ?_
  refine KO.on rfl rfl rfl ?_;refine KO.ld0 rfl rfl Tryz.isAgg3 c1 rfl ?_
  refine Z287 ?_
  refine Z57 ?_
  refine Z151 ?_
  refine Z57 ?_
  refine KO.pickF rfl ?_ rfl rfl ?_
  (focus(simp only[decide_eq_true_eq,decide_eq_false_iff_not,Bool.not_eq_true,Bool.not_true,Bool.not_false,ne_eq];omega))
  refine Z356 ?_
  refine KQ.ret1 rfl rfl (fun w' hs=>⟨_,_,rfl,⟨?_,rfl⟩,hw0.below_step hs.below,hs.below⟩)
  simp[endB,h1,h2]
def ysAt (u:Int) (l:List It) (k:Nat):List It:=(l.take k).map (freeIt u)++l.drop k
theorem ysAt_get {u:Int} {l:List It} {k:Nat} {e:It} (he:l[k]? =some e):(ysAt u l k)[k]? =some e:=by
 have hk:=(List.getElem?_eq_some_iff.1 he).1
 unfold ysAt
 rw[List.getElem?_append_right Y61]
 simp[show k-min k l.length=0 by omega,he]
theorem ysAt_step {u:Int} {l:List It} {k:Nat} {e:It} (he:l[k]? =some e):(ysAt u l k).set k (freeIt u e)=ysAt u l (k+1):=by
 have hk:=(List.getElem?_eq_some_iff.1 he).1
 have hd:l.drop k=e::l.drop (k+1):=by rw[←(List.getElem?_eq_some_iff.1 he).2,List.getElem_cons_drop]
 unfold ysAt
 rw[take_succ_some he,List.map_append,hd,List.set_append_right _ _ Y61]
 simp[show k-min k l.length=0 by omega]
theorem setIt_same {l:List It} {k:Nat} {e:It} (he:l[k]? =some e):l.set k e=l:=by
 obtain⟨hk,h⟩:=List.getElem?_eq_some_iff.1 he
 rw[←h];exact List.set_getElem_self hk
theorem ends_c (w0:World) (L:List HP) (b:Nat) (q:Qu) (u:Int) (back:Bool) (hq:q.l.length<900000):
 KC Tryz.prog 64 #[.pointer (some ⟨b,0,none⟩),.int .i64 u,.bool back] w0 (quP b q::L) (fun v L'=>v=.tuple #[]∧L'=quP b (qends q u back)::L):=by
 refine KC.mk (n:=52) Tryz.func64 rfl Tryz.ntmps64 (by simp) ?_
 refine Z53 ?_
 refine K.open' (fun _ h=>quP_open h) fun v=>?_
 refine Z231 ?_
 refine KO.box rfl rfl Y68 rfl ?_;intro b4
 refine KO.box rfl rfl Y68 rfl ?_;intro b5
 refine Z248 ?_
 refine Z38 ?_
 refine Z215 ?_
 refine K.condD rfl (fun h=>?_) (fun h=>?_)
 ·repeat(first|(with_reducible refine KQ.then_ret ?_)|(with_reducible refine K.ret ?_))
  refine KQ.ret0 rfl (fun w' hs=>⟨_,_,rfl,⟨rfl,rfl⟩,?_⟩)
  rw[show qends q u back=q by simp only[qends,h,if_true]]
  exact quP_mk ((hs.pick2 Y11 Y11).gc2 Y12)
 ·rw[show qends q u back=⟨(q.l.filter fun e=> !endB u back e).map (freeIt u),q.next⟩by simp only[qends,h,if_false]]
  have hfl:(q.l.filter fun e=> !endB u back e).length<900000:=Nat.lt_of_le_of_lt (List.length_filter_le _ _) hq
  refine Z6 ?_
  refine Z171 ?_
  refine Z123 ?_
  refine KO.mkc rfl rfl rfl ?_
  refine KO.cl rfl rfl rfl Tryz.call158 rfl (KC.pk1 Y11 (delf_c w0 _ v q.l 159 [.pointer (some ⟨b4,0,none⟩),.pointer (some ⟨b5,0,none⟩)] (endB u back) (by omega) Tryz.call159 (fun e v ys _=>ends1_e w0 _ _ _ e b4 b5 u back _ _ Y11 Y11))) ?_;rintro v' L' rfl;refine KO.fact (fun _ hs=>SL_form hs) ?_;rintro⟨a',c',rfl,ha'⟩
  refine Z49 ?_
  refine Z36 ?_
  (refine KO.sto rfl rfl rfl Y68 Y37 Y68 Y11 Y68 Y0 ?_)
  refine Z0 ?_
  generalize q.l.filter (fun e=> !endB u back e)=l at *
  refine Z120 ?_
  refine Z259 ?_
  refine Z158 ?_
  refine Z119 ?_
  refine K.loop (fun k:Nat=>[(0,.pointer (some ⟨b,0,none⟩)),(4,.pointer (some ⟨b4,0,none⟩)),(23,.int .i64 (l.length:Nat)),(24,.int .i64 (k:Nat))]) (fun k=>itS (.slice a' l.length c') (ysAt u l k)::quB b (.slice a' l.length c') q.next::blk b4 (.cells [Value.int .i64 u].toArray 3 (0,0))::L) (fun k=>k≤l.length) (fun k=>l.length-k) 0
   (Nat.zero_le _) ⟨rfl,rfl,rfl,rfl,trivial⟩ (fun _ h=>by rw[show ysAt u l 0=l by simp[ysAt]];exact(h.pick3 Y11 Y21 Y11).gc3 Y12) ?_
  intro k hk
  refine Z111 ?_
  refine K.condD rfl (fun h1=>?_) (fun h1=>?_)
  ·obtain⟨g,rfl⟩:=ha' (by omega)
   obtain⟨e,he⟩:∃e,l[k]? =some e:=⟨l[k],List.getElem?_eq_getElem (by omega)⟩
   have hye:=ysAt_get (u:=u) he
   have hstep:=ysAt_step (u:=u) he
   have hfree:freeIt u e={e with put:=if e.put=u then -1 else e.put,got:=if e.got=u then -1 else e.got}:=rfl
   generalize ysAt u l k=ys at *
   have hyk:=(List.getElem?_eq_some_iff.1 hye).1
   refine Z229 ?_
   refine Z232 ?_
   refine Z123 ?_
   refine Z1 ?_
   refine Z89 ?_
   refine Z21 ?_
   refine Z238 ?_
   refine KO.fo (off:=6) rfl Tryz.runUnderlying243 rfl rfl Tryz.sizeOf3 rfl ?_
   refine Z269 ?_
   refine Z246 ?_
   refine K.condD rfl (fun h2=>?_) (fun h2=>?_)
   ·have hye2:(ys.set k {e with put:= -1})[k]? =some {e with put:= -1}:=by rw[List.getElem?_set_self hyk]
    refine Z120 ?_
    refine KO.fo (off:=6) rfl Tryz.runUnderlying243 rfl rfl Tryz.sizeOf3 rfl ?_
    refine KO.stE rfl rfl rfl Y68 Y45 Y68 Y21 (fun _=>rfl) hye rfl {e with put:= -1} rfl ?_
    refine Z0 ?_
    refine Z238 ?_
    refine Z176 ?_
    refine Z269 ?_
    refine Z246 ?_
    refine K.condD rfl (fun h3=>?_) (fun h3=>?_)
    ·(skip)
     refine Z120 ?_
     refine Z176 ?_
     refine KO.stE rfl rfl rfl Y68 Y45 Y68 Y21 (fun _=>rfl) hye2 rfl {e with put:= -1,got:= -1} rfl ?_
     refine Z132 ?_
     refine KQ.round (k+1) (by omega) (by omega) ⟨rfl,rfl,rfl,rfl,trivial⟩ (fun _ hs=>?_)
     rw[←hstep,hfree,if_pos h2,if_pos h3]
     rw[List.set_set]at hs
     exact hs
    ·refine Z191 ?_
     refine KQ.round (k+1) (by omega) (by omega) ⟨rfl,rfl,rfl,rfl,trivial⟩ (fun _ hs=>?_)
     rw[←hstep,hfree,if_pos h2,if_neg h3]
     exact hs
   ·refine Z6 ?_
    refine Z238 ?_
    refine Z176 ?_
    refine Z269 ?_
    refine Z246 ?_
    refine K.condD rfl (fun h3=>?_) (fun h3=>?_)
    ·(skip)
     refine Z120 ?_
     refine Z176 ?_
     refine KO.stE rfl rfl rfl Y68 Y45 Y68 Y21 (fun _=>rfl) hye rfl {e with got:= -1} rfl ?_
     refine Z132 ?_
     refine KQ.round (k+1) (by omega) (by omega) ⟨rfl,rfl,rfl,rfl,trivial⟩ (fun _ hs=>?_)
     rw[←hstep,hfree,if_neg h2,if_pos h3]
     exact hs
    ·refine Z191 ?_
     refine KQ.round (k+1) (by omega) (by omega) ⟨rfl,rfl,rfl,rfl,trivial⟩ (fun _ hs=>?_)
     rw[←hstep,hfree,if_neg h2,if_neg h3,show({e with put:=e.put,got:=e.got}:It)=e from rfl,setIt_same hye]
     exact hs
  ·have hkl:k=l.length:=by omega
   refine Z134 ?_
   refine KQ.end0 rfl (fun w' hs=>⟨_,_,rfl,⟨rfl,rfl⟩,?_⟩)
   rw[hkl,show ysAt u l l.length=l.map (freeIt u)by simp[ysAt]]at hs
   exact quP_mk ((hs.pick2 Y11 Y21).gc2 Y12)
end Go.Proofs.YtjhogocabcdjbabGreatDoor
/- msg.Right; queue.Put. -/
namespace Go.Proofs.YtjhogocabcdjbabGreatDoor
open Go Go.RowKit WB
theorem body_e (w0:World) (L:List HP) (s:ByteArray) (hs:s.size≤maxLen):KE Tryz.prog 54 #[.string s] w0 L (fun u L'=>u=.bool (bodyB s)∧L'=L):=KE.of_below fun w _=>body_is s _ w hs rfl
theorem word_e (w0:World) (L:List HP) (s:ByteArray) (hs:s.size≤maxLen):KE Tryz.prog 240 #[.string s] w0 L (fun u L'=>u=.bool (wordB s)∧L'=L):=KE.of_below fun w _=>word_is s _ w hs rfl
set_option maxHeartbeats 1000000 in
theorem right_e (w0:World) (L:List HP) (m:Ms) (hb:m.body.size≤maxLen) (hq:m.queue.size≤maxLen):
 KE Tryz.prog 145 #[.agg (msC m).toArray] w0 L (fun v L'=>v=.bool (msRight m)∧L'=L):=by
 refine KE.mk (n:=41) Tryz.func145 rfl Tryz.ntmps145 (by simp) ?_
 intro w hw
 refine Z3 ?_
 refine KO.box rfl rfl Y68 rfl ?_;intro b1
 refine Z21 ?_
 have hcase:¬0≤m.id∨(0≤m.id∧¬m.id≤1099511627776)∨(0≤m.id∧m.id≤1099511627776∧¬0≤m.pri)∨(0≤m.id∧m.id≤1099511627776∧0≤m.pri∧¬m.pri≤9)∨(0≤m.id∧m.id≤1099511627776∧0≤m.pri∧m.pri≤9∧bodyB m.body=false)∨
  (0≤m.id∧m.id≤1099511627776∧0≤m.pri∧m.pri≤9∧bodyB m.body=true∧wordB m.queue=false)∨(0≤m.id∧m.id≤1099511627776∧0≤m.pri∧m.pri≤9∧bodyB m.body=true∧wordB m.queue=true∧¬0≤m.house)∨
  (0≤m.id∧m.id≤1099511627776∧0≤m.pri∧m.pri≤9∧bodyB m.body=true∧wordB m.queue=true∧0≤m.house):=by
  cases bodyB m.body<;>cases wordB m.queue<;>simp <;>omega
 have fin:∀(b:Bool) (w':World) (M:List HP),b=msRight m→St w M w'→∃v L',Ending.returned (.bool b)=Ending.returned v∧(v=.bool (msRight m)∧L'=L)∧St w0 L' w'∧Below w.heap.size w w':=fun b w' M e hs=>⟨_,_,rfl,⟨by rw[e],rfl⟩,hw.below_step hs.below,hs.below⟩
 rcases hcase with h1|⟨h1,h2⟩|⟨h1,h2,h3⟩|⟨h1,h2,h3,h4⟩|⟨h1,h2,h3,h4,h5⟩|⟨h1,h2,h3,h4,h5,h6⟩|⟨h1,h2,h3,h4,h5,h6,h7⟩|⟨h1,h2,h3,h4,h5,h6,h7⟩
 ·refine Z317 ?_
  refine Z339 ?_
  refine Z203 ?_
  refine Z203 ?_
  refine Z96 ?_
  (refine KO.no rfl rfl ?_ rfl ?_;(rfl))
  refine Z27 ?_
  refine Z96 ?_
  (refine KO.no rfl rfl ?_ rfl ?_;(rfl))
  refine Z27 ?_
  refine Z203 ?_
  refine Z203 ?_
  refine Z33 ?_
  exact KQ.ret1 rfl rfl (fun w' hs=>fin _ w' _ Y48 hs)
 ·refine Z332 ?_
  refine Z43 ?_
  refine Z339 ?_
  refine Z203 ?_
  refine Z96 ?_
  (refine KO.no rfl rfl ?_ rfl ?_;(rfl))
  refine Z27 ?_
  refine Z96 ?_
  (refine KO.no rfl rfl ?_ rfl ?_;(rfl))
  refine Z27 ?_
  refine Z203 ?_
  refine Z203 ?_
  refine Z33 ?_
  exact KQ.ret1 rfl rfl (fun w' hs=>fin _ w' _ Y48 hs)
 ·refine Z332 ?_
  refine Z255 ?_
  refine Z100 ?_
  refine Z77 ?_
  refine Z43 ?_
  refine Z339 ?_
  refine Z96 ?_
  (refine KO.no rfl rfl ?_ rfl ?_;(rfl))
  refine Z27 ?_
  refine Z96 ?_
  (refine KO.no rfl rfl ?_ rfl ?_;(rfl))
  refine Z27 ?_
  refine Z203 ?_
  refine Z203 ?_
  refine Z33 ?_
  exact KQ.ret1 rfl rfl (fun w' hs=>fin _ w' _ Y48 hs)
 ·refine Z332 ?_
  refine Z255 ?_
  refine Z100 ?_
  refine Z77 ?_
  refine Z255 ?_
  refine Z143 ?_
  refine Z43 ?_
  refine Z151 ?_
  (refine KO.no rfl rfl ?_ rfl ?_;((simp;omega)))
  refine Z48 ?_
  refine Z96 ?_
  (refine KO.no rfl rfl ?_ rfl ?_;(rfl))
  refine Z27 ?_
  refine Z203 ?_
  refine Z203 ?_
  refine Z33 ?_
  exact KQ.ret1 rfl rfl (fun w' hs=>fin _ w' _ Y48 hs)
 ·refine Z332 ?_
  refine Z255 ?_
  refine Z100 ?_
  refine Z77 ?_
  refine Z255 ?_
  refine Z143 ?_
  refine Z199 ?_
  refine Z152 ?_
  refine Z20 ?_
  refine Z133 ?_
  (refine KO.on rfl rfl ?_ ?_;(simp;omega);refine KO.ce (cp:=[]) rfl rfl rfl Tryz.call54 rfl (body_e w _ _ hb) ?_;rintro v L' ⟨rfl,rfl⟩)
  refine Z43 ?_
  refine Z1 ?_
  refine Z136 ?_
  (refine KO.no rfl rfl ?_ rfl ?_;(assumption))
  refine KO.pickF rfl Y63 rfl rfl ?_
  refine Z203 ?_
  refine Z203 ?_
  refine Z33 ?_
  exact KQ.ret1 rfl rfl (fun w' hs=>fin _ w' _ Y48 hs)
 ·refine Z332 ?_
  refine Z255 ?_
  refine Z100 ?_
  refine Z77 ?_
  refine Z255 ?_
  refine Z143 ?_
  refine Z199 ?_
  refine Z152 ?_
  refine Z20 ?_
  refine Z133 ?_
  (refine KO.on rfl rfl ?_ ?_;(simp;omega);refine KO.ce (cp:=[]) rfl rfl rfl Tryz.call54 rfl (body_e w _ _ hb) ?_;rintro v L' ⟨rfl,rfl⟩)
  refine Z43 ?_
  refine Z357 ?_
  refine Z74 ?_
  refine Z172 ?_
  refine Z133 ?_
  (refine KO.on rfl rfl ?_ ?_;(assumption);refine KO.ce (cp:=[]) rfl rfl rfl Tryz.call240 rfl (word_e w _ _ hq) ?_;rintro v L' ⟨rfl,rfl⟩)
  refine Z328 ?_
  refine Z1 ?_
  refine Z136 ?_
  refine KO.no rfl rfl Y63 rfl ?_
  refine KO.pickF rfl Y63 rfl rfl ?_
  refine Z203 ?_
  refine Z33 ?_
  exact KQ.ret1 rfl rfl (fun w' hs=>fin _ w' _ Y48 hs)
 ·refine Z332 ?_
  refine Z255 ?_
  refine Z100 ?_
  refine Z77 ?_
  refine Z255 ?_
  refine Z143 ?_
  refine Z199 ?_
  refine Z152 ?_
  refine Z20 ?_
  refine Z133 ?_
  (refine KO.on rfl rfl ?_ ?_;(simp;omega);refine KO.ce (cp:=[]) rfl rfl rfl Tryz.call54 rfl (body_e w _ _ hb) ?_;rintro v L' ⟨rfl,rfl⟩)
  refine Z43 ?_
  refine Z357 ?_
  refine Z74 ?_
  refine Z172 ?_
  refine Z133 ?_
  (refine KO.on rfl rfl ?_ ?_;(assumption);refine KO.ce (cp:=[]) rfl rfl rfl Tryz.call240 rfl (word_e w _ _ hq) ?_;rintro v L' ⟨rfl,rfl⟩)
  refine Z328 ?_
  refine Z357 ?_
  refine Z82 ?_
  refine Z172 ?_
  refine Z17 ?_
  refine Z172 ?_
  refine Z77 ?_
  refine Z328 ?_
  refine Z339 ?_
  refine Z33 ?_
  exact KQ.ret1 rfl rfl (fun w' hs=>fin _ w' _ Y48 hs)
 ·refine Z332 ?_
  refine Z255 ?_
  refine Z100 ?_
  refine Z77 ?_
  refine Z255 ?_
  refine Z143 ?_
  refine Z199 ?_
  refine Z152 ?_
  refine Z20 ?_
  refine Z133 ?_
  (refine KO.on rfl rfl ?_ ?_;(simp;omega);refine KO.ce (cp:=[]) rfl rfl rfl Tryz.call54 rfl (body_e w _ _ hb) ?_;rintro v L' ⟨rfl,rfl⟩)
  refine Z43 ?_
  refine Z357 ?_
  refine Z74 ?_
  refine Z172 ?_
  refine Z133 ?_
  (refine KO.on rfl rfl ?_ ?_;(assumption);refine KO.ce (cp:=[]) rfl rfl rfl Tryz.call240 rfl (word_e w _ _ hq) ?_;rintro v L' ⟨rfl,rfl⟩)
  refine Z328 ?_
  refine Z357 ?_
  refine Z82 ?_
  refine Z172 ?_
  refine Z17 ?_
  refine Z172 ?_
  refine Z77 ?_
  refine Z328 ?_
  refine Z32 ?_
  refine Z82 ?_
  refine Z100 ?_
  refine Z31 ?_
  refine Z43 ?_
  refine Z33 ?_
  exact KQ.ret1 rfl rfl (fun w' hs=>fin _ w' _ Y48 hs)
theorem put_c (w0:World) (L:List HP) (b:Nat) (q:Qu) (m:Ms) (u:Int) (hq:QuOk q) (hb:m.body.size≤maxLen) (hs:m.queue.size≤maxLen):
 KC Tryz.prog 56 #[.pointer (some ⟨b,0,none⟩),.agg (msC m).toArray,.int .i64 u] w0 (quP b q::L) (fun v L'=>v=errV 70 (qputE q m)∧L'=quP b (qput q m u)::L):=by
 have hl:=hq.len
 refine KC.mk (n:=30) Tryz.func56 rfl Tryz.ntmps56 (by simp) ?_
 refine Z3 ?_
 refine KO.box rfl rfl Y68 rfl ?_;intro b4
 refine Z7 ?_
 refine Z39 ?_
 refine Z231 ?_
 refine Z124 ?_
 refine KO.ce (cp:=[]) rfl rfl rfl Tryz.call145 rfl (right_e w0 _ m hb hs) ?_;rintro v L' ⟨rfl,rfl⟩
 refine Z70 ?_
 refine Z83 ?_
 refine K.cond rfl (fun h=>?_) (fun h=>?_)
 ·have hr:msRight m=false:=by simpa using h
  refine Z249 ?_
  refine KQ.ret1 rfl rfl (fun w' hs=>⟨_,_,rfl,⟨by simp only[qputE,hr,if_true];rfl,rfl⟩,?_⟩)
  rw[show qput q m u=q by simp[qput,qputE,hr]]
  exact(hs.pick Y11).gc1 Y12
 ·have hr:msRight m=true:=by simpa using h
  have hp:=msRight_parts hr
  refine Z117 ?_
  refine Z220 ?_
  refine KO.ce (cp:=[]) rfl rfl rfl Tryz.call146 rfl (has_e w0 _ _ b q m.id Y11 (by omega)) ?_;rintro v L' ⟨rfl,rfl⟩
  refine Z83 ?_
  refine K.cond rfl (fun h1=>?_) (fun h1=>?_)
  ·refine Z249 ?_
   refine KQ.ret1 rfl rfl (fun w' hs=>⟨_,_,rfl,⟨by simp only[qputE,hr,h1,if_true,Bool.true_eq_false,if_false];rfl,rfl⟩,?_⟩)
   rw[show qput q m u=q by simp[qput,qputE,hr,h1]]
   exact(hs.pick Y11).gc1 Y12
  ·refine K.pk (A:=quP b q) Y11 ?_
   refine K.open' (fun _ h=>quP_open h) fun v=>?_
   refine K.fact (fun _ h=>SL_form h.drop) ?_
   rintro⟨sa,cap,rfl,hsa⟩
   refine Z3 ?_
   refine Z26 ?_
   refine Z259 ?_
   refine Z158 ?_
   refine Z77 ?_
   refine Z83 ?_
   refine K.condD rfl (fun h2=>?_) (fun h2=>?_)
   ·have h3:20≤q.l.length:=by omega
    refine Z249 ?_
    refine KQ.ret1 rfl rfl (fun w' hs=>⟨_,_,rfl,⟨by simp only[qputE,hr,h1,h3,if_true,Bool.true_eq_false,Bool.false_eq_true,if_false];rfl,rfl⟩,?_⟩)
    rw[show qput q m u=q by simp[qput,qputE,hr,h1,h3]]
    exact quP_mk ((hs.pick2 Y21 Y21).gc2 Y12)
   ·have h3:¬20≤q.l.length:=by omega
    refine K.conv (fun _ h=>quP_mk h) ?_
    refine Z62 ?_
    refine Z8 ?_
    refine Z113 ?_
    refine Z1 ?_
    refine KO.cl (cp:=[]) rfl rfl rfl Tryz.call147 rfl (KC.pk1 Y21 (push_c w0 _ b q m u hq (by unfold small;omega))) ?_;rintro v L' ⟨rfl,rfl⟩
    refine Z183 ?_
    refine KQ.ret1 rfl rfl (fun w' hs=>⟨_,_,rfl,⟨by simp only[qputE,hr,h1,h3,Bool.true_eq_false,Bool.false_eq_true,if_false];rfl,rfl⟩,?_⟩)
    rw[show qput q m u=qpush q m u by simp[qput,qputE,hr,h1,h3]]
    exact hs.gc1 Y12
end Go.Proofs.YtjhogocabcdjbabGreatDoor
/- the steps of the calculus: structs compared, errors asked for, slices that came in -/
namespace WB
open Go Go.RowKit
deriving instance DecidableEq for Ms
section
variable {P:Program} {w:World} {d:Nat} {xs ys:Array Value} {f:Field} {fs:List Field} {r:Bool}
theorem part_one {T:TypeId} {off:Nat} {v:Value} (ha:(isAgg T).run P w=.ok false w) (hx:xs[off]? =some v):(part T xs off).run P w=.ok v w:=by
 simp[part,ha,hx]
theorem eqF_int {k:IntKind} {a c:Int} (hn:f.name≠ "_") (hu:P.underlying f.type=some (.int k)) (hT:(isAgg f.type).run P w=.ok false w) (hx:xs[f.offset]? =some (.int k a)) (hy:ys[f.offset]? =some (.int k c)) (h:(Op.eqFields (d+1) xs ys fs).run P w=.ok r w):
 (Op.eqFields (d+1) xs ys (f::fs)).run P w=.ok (decide (a=c)&&r) w:=by
 simp only[Op.eqFields,if_pos hn,Sem.run_bind,part_one hT hx,part_one hT hy,Result.andThen_ok,run_equalIn_int w d _ _ k a c hu]
 by_cases e:a=c
 ·subst e;simp[h]
 ·simp[e]
theorem eqF_str {a c:ByteArray} (hn:f.name≠ "_") (hu:P.underlying f.type=some .string) (hT:(isAgg f.type).run P w=.ok false w) (hx:xs[f.offset]? =some (.string a)) (hy:ys[f.offset]? =some (.string c)) (h:(Op.eqFields (d+1) xs ys fs).run P w=.ok r w):
 (Op.eqFields (d+1) xs ys (f::fs)).run P w=.ok (decide (a=c)&&r) w:=by
 simp only[Op.eqFields,if_pos hn,Sem.run_bind,part_one hT hx,part_one hT hy,Result.andThen_ok,run_equalIn_string w d _ _ _ hu,toList_eq_iff]
 by_cases e:a=c
 ·subst e;simp[h]
 ·simp[e]
theorem eqF_nil:(Op.eqFields d xs ys []).run P w=.ok true w:=by simp[Op.eqFields]
theorem ms_bools (a b:Ms):(decide (a.id=b.id)&&(decide (a.pri=b.pri)&&(decide (a.body=b.body)&&(decide (a.queue=b.queue)&&(decide (a.house=b.house)&&true)))))=decide (a=b):=by
 obtain⟨a1,a2,a3,a4,a5⟩:=a
 obtain⟨b1,b2,b3,b4,b5⟩:=b
 rw[Bool.eq_iff_iff];simp
end
inductive PAll:List HP→List HP→Prop
 |nil {L:List HP}:PAll L []
 |cons {L R M:List HP} {A:HP} (p:Pick L A R) (h:PAll R M):PAll L (A::M)
theorem PAll.drop {A:HP} {L M:List HP} (h:PAll L M):PAll (A::L) M:=by
 induction h with
 |nil=>exact .nil
 |cons p _ ih=>exact .cons (.tail p) ih
theorem PAll.refl:∀{L:List HP},PAll L L
 |[]=>.nil
 |_::_=>.cons .head PAll.refl
theorem PAll.seps {L M:List HP} (h:PAll L M):∀x,WB.seps L x→∃h1 h2,Disj h1 h2∧x=uni h1 h2∧WB.seps M h2:=by
 induction h with
 |nil=>exact fun x _=>⟨x,fun _=>none,fun _=>.inr rfl,by rw[uni_comm (fun _=>.inr rfl),uni_emp fun _=>rfl],fun _=>rfl⟩
 |cons p _ ih=>
  intro x hx
  obtain⟨h1,h2,d,rfl,a,b⟩:=p.seps hx
  obtain⟨g1,g2,d2,rfl,c⟩:=ih h2 b
  rw[disj_uni']at d
  refine⟨g1,uni h1 g2,disj_uni'.2 ⟨d.1.symm,d2⟩,?_,h1,g2,d.2,rfl,a,c⟩
  rw[←uni_assoc,←uni_assoc,uni_comm d.1]
theorem St.all {w0 w:World} {L M:List HP} (hw:St w0 L w) (h:PAll L M):St w0 M w:=by
 obtain⟨x,hx,hs⟩:=hw.own
 obtain⟨h1,h2,d,rfl,hm⟩:=h.seps x hs
 refine {hw with own:=⟨h2,fun k o hk=>hx k o ?_,hm⟩}
 rw[uni_comm d]
 unfold uni;rw[hk];rfl
def pk (a n:Int):Int:=(a%18446744073709551616)%n
theorem pk_lt (a:Int) {n:Int} (h1:1≤n):0≤pk a n∧pk a n<n:=⟨Int.emod_nonneg _ (by omega),Int.emod_lt_of_pos _ (by omega)⟩
section
variable {P:Program} {ops:Array Oper} {d:Bool} {Q:Exit→Act→World→Prop} {n:Nat} {D:List Deferred} {w0:World} {G:Env} {L R:List HP} {l:List (Kd×Oper)} {k:Kd}
 {t:Nat} {op:Op} {ty T T' E EN:TypeId} {pos:String} {af:Array Edge} {x y z:Operand} {v u:Value} {b:Bool} {i off:Nat} {a c r:Int} {ad:Addr} {kk:IntKind}
theorem KO.neA {xs ys:Array Value} (hx:ev G x=some (.agg xs)) (hy:ev G y=some (.agg ys)) (hg:P.eqGuardType P.depth T=false) (hr:∀w,(Op.equalIn 10000 T (.agg xs) (.agg ys)).run P w=.ok b w) (ht:Nat.blt t n=true) (h:KO P ops d Q n D w0 ((t,.bool (!b))::G) L l):
 KO P ops d Q n D w0 G L ((k,⟨some t,.binOp .neq T x y T',ty,pos,af,none⟩)::l):=
 KO.val (fun a w ha=>by simp[execOp,ha.eval hx,ha.eval hy,run_eqGuard_agg w _ _ _ _ _ _ hg,run_neq_struct,hr w]) ht h
theorem KO.eqN (hx:ev G x=some (errV EN c)) (hT:P.underlying T=some (.interface (P.methodsAt T))) (ht:Nat.blt t n=true) (h:KO P ops d Q n D w0 ((t,.bool (decide (c=0)))::G) L l):
 KO P ops d Q n D w0 G L ((k,⟨some t,.binOp .eql T x (.const .nilIface) T',ty,pos,af,none⟩)::l):=
 KO.val (fun a w ha=>by
  simp only[execOp,ha.eval hx,show a.eval (.const .nilIface)=.nilIface from rfl]
  unfold errV
  by_cases h0:c=0
  ·simp[h0,run_eql_nil_nil w T hT,eqGuard_nil_constR]
  ·simp[h0,run_eql_held_nil w T _ _ hT,eqGuard_at_iface]) ht h
theorem KO.neN (hx:ev G x=some (errV EN c)) (hT:P.underlying T=some (.interface (P.methodsAt T))) (ht:Nat.blt t n=true) (h:KO P ops d Q n D w0 ((t,.bool (decide (c≠0)))::G) L l):
 KO P ops d Q n D w0 G L ((k,⟨some t,.binOp .neq T x (.const .nilIface) T',ty,pos,af,none⟩)::l):=
 KO.val (fun a w ha=>by
  simp only[execOp,ha.eval hx,show a.eval (.const .nilIface)=.nilIface from rfl]
  unfold errV
  by_cases h0:c=0
  ·simp[h0,run_neq_nil_nil w T hT,eqGuard_nil_constR]
  ·simp[h0,run_neq_held_nil w T _ _ hT,eqGuard_at_iface]) ht h
def MidI {α:Type} (n:Nat) (D:List Deferred) (w0:World) (E:α→Env) (H:α→List HP) (φ:α→Prop) (a:Act) (w:World):Prop:= ∃y,φ y∧Knows n D (E y) a∧St w0 (H y) w
theorem K.cut {α:Type} {c1 c2:Code} {L:List HP} (E:α→Env) (H:α→List HP) (φ:α→Prop) (h1:K P c1 (Exit.then (MidI n D w0 E H φ) Q) n D w0 G L) (h2:∀y,φ y→K P c2 Q n D w0 (E y) (H y)):K P c1 (Exit.then (c2.wp P Q) Q) n D w0 G L:=fun a w ha hw=>
 Go.wp_mono (h1 a w ha hw) fun e a w hq=>by
  cases e with
  |normal=>obtain⟨y,hy,ha,hw⟩:=hq;exact h2 y hy a w ha hw
  |_=>exact hq
theorem KQ.mid {α:Type} {E:α→Env} {H:α→List HP} {φ:α→Prop} (y:α) (hy:φ y) (hG:SubL G (E y)) (hL:∀w,St w0 L w→St w0 (H y) w):KQ (Exit.then (MidI n D w0 E H φ) Q) .normal n D w0 G L:=fun _ w ha hw=>⟨y,hy,ha.sub hG,hL w hw⟩
theorem KO.ldAt {b:Nat} {cs:List Value} {fz:Nat×Nat} (hk:(!d||k != .pure)=true) (hx:ev G x=some (.pointer (some ad))) (hT:∀w,(isAgg T).run P w=.ok false w) (hp:Pick L (blk b (.cells cs.toArray E fz)) R) (ha:ad=⟨b,i,none⟩) (hc:cs[i]? =some v) (ht:Nat.blt t n=true)
 (h:KO P ops d Q n D w0 ((t,v)::G) L l):KO P ops d Q n D w0 G L ((k,⟨some t,.load T x,ty,pos,af,none⟩)::l):=KO.ld hk (ha▸hx) hT hp hc ht h
theorem putL_one (v:Value):∀(i:Nat) (cs:List Value),i<cs.length→putL i [v] cs=cs.set i v
 |0,c::cs,_=>by simp[putL]
 |i+1,c::cs,h=>by simp[putL,putL_one v i cs Y56]
theorem KO.stAt {b:Nat} {cs:List Value} (hk:(!d||k== .write)=true) (hx:ev G x=some (.pointer (some ad))) (hy:ev G y=some v) (hv:v.cells=[v].toArray) (hn:∀w,(Go.sizeOf T).run P w=.ok 1 w) (h1:v.oneCell'=true)
 (hp:Pick L (blk b (.cells cs.toArray E (0,0))) R) (ha:ad=⟨b,i,none⟩) (hi:i<cs.length) (h:KO P ops d Q n D w0 G (blk b (.cells (cs.set i v).toArray E (0,0))::R) l):
 KO P ops d Q n D w0 G L ((k,⟨none,.store T x y,ty,pos,af,none⟩)::l):=
 KO.sto hk (ha▸hx) hy hv hn Y69 hp (by simp[Nat.ble_eq];omega) (putL_one v i cs hi) h
theorem KO.idxH {len cap sz:Nat} (hx:ev G x=some (.slice (some ad) len cap)) (hy:ev G y=some (.int kk a)) (hu:∀w,(underlying T).run P w=.ok (.slice E) w) (hs:∀w,(Go.sizeOf E).run P w=.ok sz w)
 (ha:a=(i:Int)) (hb:i<len) (ht:Nat.blt t n=true) (h:KO P ops d Q n D w0 ((t,.pointer (some (ad.add (i *sz))))::G) L l):KO P ops d Q n D w0 G L ((k,⟨some t,.indexAddr T x y,ty,pos,af,none⟩)::l):=
 KO.val (fun a' w ha'=>by
  subst ha
  have :(0:Int)≤(i:Int)∧(i:Int)<(len:Int):=⟨by omega,by omega⟩
  simp[execOp,ha'.eval hx,ha'.eval hy,Instr.indexAt,hu w,asIntOf,hs w,this,hb]) ht h
theorem KO.fldH {fs:Array Field} {f sz off:Nat} {fd:Field} (hx:ev G x=some (.pointer (some ad))) (hu:∀w,(underlying T).run P w=.ok (.struct fs) w) (hf:fs[f]? =some fd) (ho:fd.offset=off) (hs:∀w,(Go.sizeOf fd.type).run P w=.ok (sz+1) w) (ht:Nat.blt t n=true)
 (h:KO P ops d Q n D w0 ((t,.pointer (some (ad.add off)))::G) L l):KO P ops d Q n D w0 G L ((k,⟨some t,.fieldAddr T x f,ty,pos,af,none⟩)::l):=
 KO.fld hx hu hf hs ht (by rw[ho];exact h)
end
end WB
/- what the laws ask: pick, plain.Same, api.Tell; lined. -/
namespace Go.Proofs.YtjhogocabcdjbabGreatDoor
open Go Go.RowKit WB
theorem pick_e (w0:World) (L:List HP) (a n:Int) (h1:1≤n) (h2:n≤1000):KE Tryz.prog 13 #[.int .i64 a,.int .i64 n] w0 L (fun u L'=>u=.int .i64 (pk a n)∧L'=L):=KE.of_below fun w _=>by
 have hu:IntKind.u64.wrap a=a%18446744073709551616:=rfl
 have h0:0≤a%18446744073709551616:=Int.emod_nonneg _ (by omega)
 have hp:(IntKind.u64.wrap a).tmod n=pk a n:=by rw[hu,Int.tmod_eq_emod_of_nonneg h0];rfl
 have hw:wrap64 ((IntKind.u64.wrap a).tmod n)=pk a n:=by rw[hp];have :=pk_lt a h1;unfold wrap64;omega
 have HW:=Lib.hid hw
 clear hw hp h0 hu
 go_enter Tryz.func13,Tryz.ntmps13
 go_wp2_with fail
 rw[HW.out]
 go_ret
 exact⟨rfl,Below.refl _ _⟩
theorem ms_eq (a b:Ms) (w:World):(Op.equalIn 10000 44 (.agg (msC a).toArray) (.agg (msC b).toArray)).run Tryz.prog w=.ok (decide (a=b)) w:=by
 rw[run_equalIn_agg w 9999 44 _ _ Y62 Y62,←ms_bools]
 simp only[Program.fieldsOf,Tryz.underlying44]
 refine eqF_int (by decide) Tryz.underlying3 (Tryz.isAgg3 w) rfl rfl (eqF_int (by decide) Tryz.underlying3 (Tryz.isAgg3 w) rfl rfl (eqF_str (by decide) Tryz.underlying9 (Tryz.isAgg9 w) rfl rfl (eqF_str (by decide) Tryz.underlying9 (Tryz.isAgg9 w) rfl rfl (eqF_int (by decide) Tryz.underlying3 (Tryz.isAgg3 w) rfl rfl eqF_nil))))
end Go.Proofs.YtjhogocabcdjbabGreatDoor
/- a region that draws its order, where some pairs of operations may come either way: each way is walked -/
namespace WB
open Go Go.RowKit
variable {P:Program} {ops:Array Oper} {Q:Exit→Act→World→Prop}
def via (anc:List (List Nat)) (x i:Nat) (q:Nat×Nat):Bool:=(q.1==x||(anc.getD q.1 []).contains x)&&(q.2==i||(anc.getD i []).contains q.2)
theorem via_sound {anc:List (List Nat)} (hb:onlyBack ops=true) (ha:ancOk ops anc=true) {l:List Nat} (hv:Valid ops l) {q:Nat×Nat} (hE:∀p s,l=p++q.2::s→q.1∈p) {x i:Nat} (h:via anc x i q=true):∀p s,l=p++i::s→x∈p:=by
 intro p s hl
 unfold via at h
 simp only[Bool.and_eq_true,Bool.or_eq_true,beq_iff_eq]at h
 have lt:∀y,y∈l→y<ops.size:=fun y hy=>(hv.2.1 y).1 hy
 have h1:q.1∈p:=by
  rcases h.2 with e|e
  ·exact hE p s (by rw[e];exact hl)
  ·have :=anc_sound hb ha hv i i (Nat.le_refl _) (lt i Y55) p s hl q.2 (List.contains_iff_mem.1 e)
   obtain⟨p1,p2,rfl⟩:=List.append_of_mem this
   have :=hE p1 (p2++i::s) Y55
   simp[this]
 rcases h.1 with e|e
 ·rw[←e];exact h1
 ·obtain⟨p1,p2,rfl⟩:=List.append_of_mem h1
  have :=anc_sound hb ha hv q.1 q.1 (Nat.le_refl _) (lt q.1 Y55) p1 (p2++i::s) Y55 x (List.contains_iff_mem.1 e)
  simp[this]
theorem main_stepE {E:List (Nat×Nat)} {ks:List Kd} {anc:List (List Nat)} (hb:onlyBack ops=true) (ha:ancOk ops anc=true) {l:List Nat} (hv:Valid ops l) (hE:∀q∈E,∀p s,l=p++q.2::s→q.1∈p):
 ∀(s p rem:List Nat),l=p++s→(∀x,x∈rem↔x∈s)→
  pairsOk (fun x i=> !(x==i)&&((anc.getD i []).contains x||(lightFree ops ks x i||E.any (via anc x i)))) rem=true→
  ∀a w,vcL P ops Q (rem.map (item ops ks)) a w→wpOps P ops Q s a w
 |[],p,rem,hl,hm,hp,a,w,h=>by
  have :rem=[]:=List.eq_nil_iff_forall_not_mem.2 fun x hx=>by simpa using(hm x).1 hx
  subst this;exact h
 |i::s,p,rem,hl,hm,hp,a,w,h=>by
  have hi:i<ops.size:=(hv.2.1 i).1 Y55
  have hnd:=hv.1
  rw[hl]at hnd
  have hnp:∀x∈i::s,x∉p:=fun x hx hxp=>(List.nodup_append.1 hnd).2.2 x hxp x hx rfl
  have hns:i∉s:=(List.nodup_cons.1 (List.nodup_append.1 hnd).2.1).1
  obtain⟨pre,post,rfl⟩:=List.append_of_mem ((hm i).2 List.mem_cons_self)
  obtain⟨h1,h2,h3⟩:=pairsOk_split pre hp
  have hpre:∀x∈pre,lightFree ops ks x i=true:=fun x hx=>by
   have hf:=h1 x hx
   simp only[Bool.and_eq_true,Bool.or_eq_true]at hf
   rcases hf.2 with hc|hc|hc
   ·have hxp:=anc_sound hb ha hv i i (Nat.le_refl _) hi p s hl x (List.contains_iff_mem.1 hc)
    exact absurd hxp (hnp x ((hm x).1 Y67))
   ·exact hc
   ·obtain⟨q,hq,hqv⟩:=List.any_eq_true.1 hc
    have hxp:=via_sound hb ha hv (hE q hq) hqv p s hl
    exact absurd hxp (hnp x ((hm x).1 Y67))
  have hbub:=bubble pre hpre a w h
  have hm':∀x,x∈pre++post↔x∈s:=fun x=>by
   have hx:=hm x
   constructor
   ·intro hxx
    have hx2:x∈pre++i::post:=by
     rcases List.mem_append.1 hxx with e|e<;>simp[e]
    rcases List.mem_cons.1 (hx.1 hx2)with rfl|e
    ·exfalso
     rcases List.mem_append.1 hxx with e|e
     ·have :=h1 x e;simp at this
     ·have :=h3 x e;simp at this
    ·exact e
   ·intro hxs
    have :=hx.2 (List.mem_cons_of_mem _ hxs)
    rcases List.mem_append.1 this with e|e
    ·simp[e]
    ·rcases List.mem_cons.1 e with rfl|e
     ·exact absurd hxs hns
     ·simp[e]
  have IH:=main_stepE hb ha hv hE s (p++[i]) (pre++post) Y55 hm' h2
  have hget:ops[i]? =some (item ops ks i).2:=by simp[item,hi]
  simp only[List.map_cons]at hbub
  simp only[wpOps,hget]
  cases hw:Region.wanted (item ops ks i).2 (yielded ops a.tmps)with
  |false=>
   simp only[Bool.false_eq_true,if_false]
   rw[show item ops ks i=((item ops ks i).1,(item ops ks i).2)from rfl,vcL_no hw]at hbub
   exact IH _ _ hbub
  |true=>
   simp only[if_true]
   left
   rw[show item ops ks i=((item ops ks i).1,(item ops ks i).2)from rfl]at hbub
   by_cases hlt:(item ops ks i).1.light=true
   ·rw[vcL_light hlt hw]at hbub
    obtain⟨v,hv',hr⟩:=hbub
    have hst:stays (item ops ks i).1 w w:=by
     cases(item ops ks i).1<;>first|trivial|exact Ext.refl w|rfl
    unfold Oper.wp
    rcases hv' w hst with hg|⟨f,args,hg,hcall⟩
    ·rw[hg];exact IH _ _ hr
    ·rw[hg]
     refine hcall.mono ?_
     rintro e w' ⟨rfl,rfl⟩
     exact IH _ _ hr
   ·generalize hk:(item ops ks i).1=k at hbub hlt
    cases k with
    |keep=>rw[vcL_keep hw]at hbub;exact wp_mono_F (fun a w hh=>IH _ _ hh.2) hbub
    |write=>rw[vcL_write hw]at hbub;exact wp_mono_F (fun a w hh=>IH _ _ hh) hbub
    |_=>exact absurd rfl hlt
def ways:List (Nat×Nat)→List (List (Nat×Nat))
 |[]=>[[]]
 |q::r=>(ways r).map (q:: ·)++(ways r).map ((q.2,q.1):: ·)
theorem ways_some {l:List Nat} (hn:l.Nodup):∀(X:List (Nat×Nat)),(∀q∈X,q.1∈l∧q.2∈l∧q.1≠q.2)→∃E∈ways X,(∀q∈E,∀p s,l=p++q.2::s→q.1∈p)∧∀q∈E,q.2∈l
 |[],_=>⟨[],by simp[ways],(fun _ h=>by cases h),fun _ h=>by cases h⟩
 |q::X,h=>by
  obtain⟨E,hE,hall,hmem⟩:=ways_some hn X fun q hq=>h q (List.mem_cons_of_mem _ hq)
  obtain⟨h1,h2,h3⟩:=h q List.mem_cons_self
  obtain⟨p1,s1,hl⟩:=List.append_of_mem h2
  have uniq:∀{y:Nat} {p s p' s':List Nat},l=p++y::s→l=p'++y::s'→p=p':=by
   intro y p s p' s' e1 e2
   have :∀(p p' s s':List Nat),(p++y::s).Nodup→p++y::s=p'++y::s'→p=p':=by
    intro p
    induction p with
    |nil=>
     intro p' s s' hn e
     cases p' with
     |nil=>rfl
     |cons x p'=>
      simp only[List.nil_append,List.cons_append,List.cons.injEq]at e
      obtain⟨rfl,e⟩:=e
      simp only[List.nil_append,List.nodup_cons]at hn
      exact absurd (by rw[e];simp) hn.1
    |cons x p ih=>
     intro p' s s' hn e
     cases p' with
     |nil=>
      simp only[List.nil_append,List.cons_append,List.cons.injEq]at e
      obtain⟨rfl,e⟩:=e
      simp only[List.cons_append,List.nodup_cons]at hn
      exact absurd (by simp) hn.1
     |cons x' p'=>
      simp only[List.cons_append,List.cons.injEq]at e
      simp only[List.cons_append,List.nodup_cons]at hn
      rw[e.1,ih p' s s' hn.2 e.2]
   exact this p p' s s' (e1▸hn) (e1.symm.trans e2)
  by_cases hin:q.1∈p1
  ·refine⟨q::E,by simp only[ways,List.mem_append,List.mem_map];exact .inl ⟨E,hE,rfl⟩,fun q' hq' p s e=>?_,fun q' hq'=>(List.mem_cons.1 hq').elim (fun e=>e▸h2) (hmem q')⟩
   rcases List.mem_cons.1 hq' with rfl|hq'
   ·rw[←uniq hl e];exact hin
   ·exact hall q' hq' p s e
  ·refine⟨(q.2,q.1)::E,by simp only[ways,List.mem_append,List.mem_map];exact .inr ⟨E,hE,rfl⟩,fun q' hq' p s e=>?_,fun q' hq'=>(List.mem_cons.1 hq').elim (fun e=>e▸h1) (hmem q')⟩
   rcases List.mem_cons.1 hq' with rfl|hq'
   ·dsimp only at e ⊢
    have h4:q.1∈s1:=by
     have :=h1;rw[hl]at this
     simp only[List.mem_append,List.mem_cons]at this
     rcases this with a|a|a
     ·exact absurd a hin
     ·exact absurd a h3
     ·exact a
    obtain⟨p2,s2,rfl⟩:=List.append_of_mem h4
    have e2:l=(p1++q.2::p2)++q.1::s2:=by rw[hl];simp
    rw[←uniq e2 e];simp
   ·exact hall q' hq' p s e
def okRE (ops:Array Oper) (ks:List Kd) (E:List (Nat×Nat)) (ord:List Nat):Bool:=
 let anc:=mkAnc ops.toList []
 onlyBack ops&&(ancOk ops anc&&((List.range ops.size).all (fun i=>ord.contains i)&&(ord.all (fun i=>Nat.blt i ops.size)&&
  pairsOk (fun x i=> !(x==i)&&((anc.getD i []).contains x||(lightFree ops ks x i||E.any (via anc x i)))) ord)))
def badE (ops:Array Oper) (E:List (Nat×Nat)):Bool:=
 let anc:=mkAnc ops.toList []
 ancOk ops anc&&E.any fun q=>E.any (via anc q.2 q.1)
theorem badE_sound {E:List (Nat×Nat)} (hb:onlyBack ops=true) {l:List Nat} (hv:Valid ops l) (hE:∀q∈E,∀p s,l=p++q.2::s→q.1∈p) (hm:∀q∈E,q.2∈l) (h:badE ops E=true):False:=by
 simp only[badE,Bool.and_eq_true]at h
 obtain⟨ha,h⟩:=h
 obtain⟨q,hq,h⟩:=List.any_eq_true.1 h
 obtain⟨q',hq',h⟩:=List.any_eq_true.1 h
 obtain⟨p1,s1,hl⟩:=List.append_of_mem (hm q hq)
 obtain⟨a,b,rfl⟩:=List.append_of_mem (hE q hq p1 s1 hl)
 have :=via_sound hb ha hv (hE q' hq') h a (b++q.2::s1) Y55
 have hn:=hv.1
 rw[hl]at hn
 simp only[List.append_assoc,List.cons_append]at hn
 exact(List.nodup_append.1 hn).2.2 q.2 this q.2 (by simp) rfl
def okX (ops:Array Oper) (ks:List Kd):List (List (Nat×Nat))→List (List Nat)→Bool
 |[],[]=>true
 |E::r,O=>if badE ops E then okX ops ks r O else match O with|o::s=>okRE ops ks E o&&okX ops ks r s|[]=>false
 |_,_=>false
@[reducible] def allD (f:List Nat→Prop):List (List Nat)→Prop
 |[]=>True
 |o::r=>f o∧allD f r
theorem okX_some {ks:List Kd} {f:List Nat→Prop} {E:List (Nat×Nat)}:∀{W:List (List (Nat×Nat))} {O:List (List Nat)},okX ops ks W O=true→allD f O→E∈W→badE ops E=true∨∃o,okRE ops ks E o=true∧f o
 |[],_,_,_,h=>by cases h
 |F::r,O,h,hf,hE=>by
  cases hB:badE ops F with
  |true=>
   have h2:okX ops ks r O=true:=by unfold okX at h;rw[hB]at h;simpa using h
   rcases List.mem_cons.1 hE with rfl|hE
   ·exact .inl hB
   ·exact okX_some h2 hf hE
  |false=>
   unfold okX at h
   rw[hB]at h
   cases O with
   |nil=>simp at h
   |cons o s=>
    simp only[Bool.false_eq_true,if_false,Bool.and_eq_true]at h
    rcases List.mem_cons.1 hE with rfl|hE
    ·exact .inr ⟨o,h.1,hf.1⟩
    ·exact okX_some h.2 hf.2 hE
theorem wp_region_ways {id:Nat} {a:Act} {w:World} (ks:List Kd) (X:List (Nat×Nat)) (O:List (List Nat)) (hmix:P.follows .mixedOrders=true) (hX:(onlyBack ops&&X.all fun q=>Nat.blt q.1 ops.size&&(Nat.blt q.2 ops.size&& !(q.1==q.2)))=true) (hok:okX ops ks (ways X) O=true)
 (h:allD (fun ord=>vcL P ops Q (ord.map (item ops ks)) a w.drew) O):(Code.region id ops true).wp P Q a w:=by
 rw[Bool.and_eq_true]at hX
 obtain⟨hb,hX⟩:=hX
 refine wp_region_draw fun t=>?_
 have hv:Valid ops (Region.schedule (P.follows .mixedOrders) ops t):=schedule_valid _ hmix _ _ fun i o ho d hd=>by
  have hi:i<ops.size:=(Array.getElem?_eq_some_iff.1 ho).1
  have h1:=List.all_eq_true.1 (List.all_eq_true.1 hb i (List.mem_range.2 hi)) d (by
   have :ops.toList.getD i default=o:=by
    simp[Array.getElem?_eq_getElem hi]at ho ⊢
    simp[ho]
   rw[this];exact hd)
  simpa[Nat.blt_eq]using h1
 generalize Region.schedule (P.follows .mixedOrders) ops t=l at hv ⊢
 obtain⟨E,hE,hEl,hEm⟩:=ways_some hv.1 X fun q hq=>by
  have :=List.all_eq_true.1 hX q hq
  simp only[Bool.and_eq_true,Nat.blt_eq,Bool.not_eq_true',beq_eq_false_iff_ne]at this
  exact⟨(hv.2.1 _).2 this.1,(hv.2.1 _).2 this.2.1,this.2.2⟩
 rcases okX_some hok h hE with hbad|⟨ord,hok,h⟩
 ·exact(badE_sound hb hv hEl hEm hbad).elim
 simp only[okRE,Bool.and_eq_true]at hok
 obtain⟨hb,ha,hall,hlt,hp⟩:=hok
 refine main_stepE hb ha hv hEl l [] ord rfl (fun x=>?_) hp a _ h
 rw[hv.2.1 x]
 constructor
 ·intro hx;simpa[Nat.blt_eq]using List.all_eq_true.1 hlt x hx
 ·intro hx;exact List.contains_iff_mem.1 (List.all_eq_true.1 hall x (List.mem_range.2 hx))
theorem allD_mono {f g:List Nat→Prop} (h:∀o,f o→g o):∀{O:List (List Nat)},allD f O→allD g O
 |[],_=>trivial
 |_::_,hf=>⟨h _ hf.1,allD_mono h hf.2⟩
theorem K.drawX {n:Nat} {D:List Deferred} {w0:World} {G:Env} {L:List HP} {id:Nat} (ks:List Kd) (X:List (Nat×Nat)) (O:List (List Nat)) (hmix:P.follows .mixedOrders=true) (hX:(onlyBack ops&&X.all fun q=>Nat.blt q.1 ops.size&&(Nat.blt q.2 ops.size&& !(q.1==q.2)))=true) (hok:okX ops ks (ways X) O=true)
 (h:allD (fun ord=>KO P ops true Q n D w0 G L (ord.map (item ops ks))) O):K P (.region id ops true) Q n D w0 G L:=fun a _ ha hw=>
 wp_region_ways ks X O hmix hX hok (allD_mono (fun _ hh=>hh a _ ha hw.drew) h)
end WB
/- the steps of the calculus: empty slices, slices appended to slices -/
namespace WB
open Go Go.RowKit
def Src {α:Type} (w:World) (cf:α→List Value) (v:Value) (xs:List α):Prop:=
 ∃a cap,v=.slice a xs.length cap∧(a=none→xs=[])∧∀ad,a=some ad→HasCells w ad (xs.flatMap cf)
section
variable {w0 w:World} {L R:List HP} {E:TypeId} {α:Type} {cf:α→List Value} {sz:Nat} {xs ys:List α} {v:Value}
theorem flatC_len (hsz:∀e,(cf e).length=sz):∀xs:List α,(xs.flatMap cf).length=xs.length *sz
 |[]=>by simp
 |a::l=>by simp[flatC_len hsz l,hsz,Nat.succ_mul];omega
theorem Src.of (hp:Pick L (SL E sz cf v xs) R) (w:World) (hw:St w0 L w):Src w cf v xs:=by
 rcases(hw.pick hp).osl_cases with⟨h1,h2,h3,_⟩|⟨g,cap,cur,h1,h2,h3,h4,h5,h6,h7⟩
 ·have :xs=[]:=List.eq_nil_of_length_eq_zero h2
  exact⟨none,0,by rw[h1,this];rfl,fun _=>this,fun ad h=>(by cases h)⟩
 ·refine⟨some ⟨g,0,none⟩,cap,h1,(fun h=>by cases h),fun ad h=>?_⟩
  cases h
  have hl:=h7.look.2
  intro j c hj
  rw[Addr.add_lit,World.cell?,hl]
  rw[←h5,List.getElem?_take]at hj
  split at hj
  ·simpa using hj
  ·simp at hj
theorem Src.ext {w':World} (h:Src w cf v xs) (e:Ext w w'):Src w' cf v xs:=by
 obtain⟨a,cap,h1,h2,h3⟩:=h
 exact⟨a,cap,h1,h2,fun ad ha=>(h3 ad ha).ext e⟩
theorem SL_cap {g n cap:Nat} (hw:St w0 (SL E sz cf (.slice (some ⟨g,0,none⟩) n cap) xs::R) w):n=xs.length∧n≤cap:=by
 obtain⟨h1,h2,_⟩:=SL_open hw
 exact⟨h1,h2⟩
end
section
variable {P:Program} {ops:Array Oper} {d:Bool} {Q:Exit→Act→World→Prop} {n:Nat} {D:List Deferred} {w0:World} {G:Env} {L R R' N:List HP} {l:List (Kd×Oper)} {k:Kd}
 {t:Nat} {op:Op} {ty T T' E E':TypeId} {pos:String} {af:Array Edge} {x y:Operand} {v u z:Value} {i j:Nat} {a c r:Int} {ad:Addr} {α:Type} {cf:α→List Value} {sz by':Nat} {xs ys:List α} {e e':α}
theorem run_buildSlice0 (w:World) (t e:TypeId) (sz:Nat) (hu:P.underlying t=some (.slice e)) (hs:(Go.sizeOf e).run P w=.ok sz w):
 (Instr.buildSlice t 0 #[]).run P w=.ok (.slice (some ⟨w.heap.size,0,none⟩) 0 0) (w.alloc (.cells #[] e)):=by
 simp[Instr.buildSlice,run_underlying hu,hs,Instr.fill,newRow]
 rw[show Array.range 0=#[]from rfl,Array.map_empty]
theorem KO.bs0 (cf:α→List Value) (hk:(!d||(k== .keep||k== .write))=true) (hT:P.underlying T=some (.slice E)) (hs:∀w,(Go.sizeOf E).run P w=.ok sz w) (ht:Nat.blt t n=true)
 (h:∀bb,KO P ops d Q n D w0 ((t,.slice (some ⟨bb,0,none⟩) 0 0)::G) (SL E sz cf (.slice (some ⟨bb,0,none⟩) 0 0) []::L) l):KO P ops d Q n D w0 G L ((k,⟨some t,.buildSlice T 0 #[],ty,pos,af,none⟩)::l):=by
 refine KO.keepRun hk (F:=fun bb=>.slice (some ⟨bb,0,none⟩) 0 0) (N:=fun bb=>SL E sz cf (.slice (some ⟨bb,0,none⟩) 0 0) []::L) (fun a w ha hw=>⟨w.heap.size,w.alloc (.cells #[] E),?_,Ext.alloc w _,?_⟩) ht h
 ·have hr:=run_buildSlice0 (P:=P) w T E sz hT (hs w)
  simp[execOp,hr]
 ·exact(hw.alloc (.cells #[] E)).osl_mk (n:=0) (cap:=0) (Nat.le_refl _) Y35 (by simp) (by simp)
theorem run_append_none (w:World) (t ty e:TypeId) (b:Option Addr) (m cap c s:Nat) (hu:P.underlying t=some (.slice e)) (hs:(Go.sizeOf e).run P w=.ok s w) (h:m≤cap):
 (Builtin.append_ #[t,t] ty #[.slice b m cap,.slice none 0 c]).run P w=.ok (.slice b m cap) w:=by
 cases b<;>simp[Builtin.append_,run_underlying hu,hs,Builtin.lenOf,Builtin.firstCells,h,storeCells]
theorem KO.appS (hk:(!d||k== .write)=true) (hx:ev G x=some v) (hy:ev G y=some u) (hp:Pick L (SL E sz cf v xs) R) (hs:∀w,St w0 L w→Src w cf u ys)
 (hT:P.underlying T=some (.slice E)) (hi:(P.info? E).map (fun i=>(i.zero,i.size,i.bytes))=some (some z,sz,by')) (hzs:z.cells.size=sz) (hsz:∀e,(cf e).length=sz) (h1:∀e,(cf e).all Value.oneCell'=true) (hb:xs.length+ys.length<1000000000) (hby:by'≤10000) (ht:Nat.blt t n=true)
 (h:∀v',KO P ops d Q n D w0 ((t,v')::G) (SL E sz cf v' (xs++ys)::R) l):KO P ops d Q n D w0 G L ((k,⟨some t,.call ⟨.builtin .append,#[x,y],#[T,T]⟩,ty,pos,af,none⟩)::l):=by
 obtain⟨i0,hi1,hz0,hz1,hz2⟩:=info_parts hi
 refine KO.wvE hk (F:=fun v'=>SL E sz cf v' (xs++ys)::R) (fun a w ha hw=>?_) ht h
 have hw2:=hw.pick hp
 obtain⟨sa,cap,rfl,hn,hc⟩:=hs w hw
 cases sa with
 |none=>
  obtain rfl:=hn rfl
  obtain⟨b,c2,rfl,hb2⟩:∃b c2,v=.slice b xs.length c2∧xs.length≤c2:=by
   rcases hw2.osl_cases with⟨h1,h2,_⟩|⟨g,cap,cur,h1,h2,_⟩
   ·exact⟨none,0,by rw[h1,h2],by omega⟩
   ·exact⟨_,cap,h1,h2⟩
  refine⟨.slice b xs.length c2,w,exec_append2 x y T T rfl _ _ (ha.eval hx) (ha.eval hy) (run_append_none (P:=P) w T ty E b _ c2 cap sz hT (by simp[Go.sizeOf,typeInfo,hi1,hz1]) hb2),?_⟩
  rw[List.append_nil];exact hw2
 |some ad=>
  have hcells:=hc ad rfl
  have hbb:(xs.length+ys.length)*by'≤140737488355328:=by
   have :=Nat.mul_le_mul (show xs.length+ys.length≤1000000000 by omega) hby;omega
  obtain⟨v',w',hr,hst⟩:=append_st (P:=P) T ty E i0 z sz by' hT hi1 hz0 hz1 hz2 hzs hw2 ad ys.length cap (ys.flatMap cf) (flatC_len hsz ys) hcells (flat_one (fun e u hu=>List.all_eq_true.1 (h1 e) u hu) ys) Y35 hbb
  refine⟨v',w',exec_append2 x y T T rfl v _ (ha.eval hx) (ha.eval hy) hr,?_⟩
  show St w0 (osl E sz v' (xs++ys).length ((xs++ys).flatMap cf)::R) w'
  rw[List.length_append,List.flatMap_append]
  exact hst
theorem LSub.nil:∀(M:List HP),LSub [] M
 |[]=>.refl
 |_::M=>.drop (LSub.nil M)
theorem KO.idxStr {s:ByteArray} {b:UInt8} (hx:ev G x=some (.string s)) (hy:ev G y=some (.int .i64 a)) (hT:P.underlying T=some .string) (ha:a=(i:Int)) (hc:s[i]? =some b) (ht:Nat.blt t n=true)
 (h:KO P ops d Q n D w0 ((t,.int .u8 (b.toNat:Nat))::G) L l):KO P ops d Q n D w0 G L ((k,⟨some t,.index T x y,ty,pos,af,none⟩)::l):=
 KO.val (fun a' w ha'=>by
  subst ha
  simp[execOp,ha'.eval hx,ha'.eval hy,Instr.index,asIntOf,run_underlying hT,hc]) ht h
def noIface (u:Option TypeDesc):Bool:=match u with|some (.interface _)=>false|none=>false|some _=>true
theorem KO.neIf {T0:TypeId} (hx:ev G x=some (.iface T0 v)) (hT:P.underlying T=some (.interface (P.methodsAt T))) (ht:Nat.blt t n=true) (h:KO P ops d Q n D w0 ((t,.bool true)::G) L l):
 KO P ops d Q n D w0 G L ((k,⟨some t,.binOp .neq T x (.const .nilIface) T',ty,pos,af,none⟩)::l):=
 KO.val (fun a w ha=>by
  simp only[execOp,ha.eval hx,show a.eval (.const .nilIface)=.nilIface from rfl]
  simp[run_neq_held_nil w T _ _ hT,eqGuard_at_iface]) ht h
theorem KO.eqIf {T0:TypeId} (hx:ev G x=some (.iface T0 v)) (hT:P.underlying T=some (.interface (P.methodsAt T))) (ht:Nat.blt t n=true) (h:KO P ops d Q n D w0 ((t,.bool false)::G) L l):
 KO P ops d Q n D w0 G L ((k,⟨some t,.binOp .eql T x (.const .nilIface) T',ty,pos,af,none⟩)::l):=
 KO.val (fun a w ha=>by
  simp only[execOp,ha.eval hx,show a.eval (.const .nilIface)=.nilIface from rfl]
  simp[run_eql_held_nil w T _ _ hT,eqGuard_at_iface]) ht h
theorem KO.neI0 (hx:ev G x=some .nilIface) (hT:P.underlying T=some (.interface (P.methodsAt T))) (ht:Nat.blt t n=true) (h:KO P ops d Q n D w0 ((t,.bool false)::G) L l):
 KO P ops d Q n D w0 G L ((k,⟨some t,.binOp .neq T x (.const .nilIface) T',ty,pos,af,none⟩)::l):=
 KO.val (fun a w ha=>by
  simp only[execOp,ha.eval hx,show a.eval (.const .nilIface)=.nilIface from rfl]
  simp[run_neq_nil_nil w T hT,eqGuard_nil_constR]) ht h
theorem KO.eqI0 (hx:ev G x=some .nilIface) (hT:P.underlying T=some (.interface (P.methodsAt T))) (ht:Nat.blt t n=true) (h:KO P ops d Q n D w0 ((t,.bool true)::G) L l):
 KO P ops d Q n D w0 G L ((k,⟨some t,.binOp .eql T x (.const .nilIface) T',ty,pos,af,none⟩)::l):=
 KO.val (fun a w ha=>by
  simp only[execOp,ha.eval hx,show a.eval (.const .nilIface)=.nilIface from rfl]
  simp[run_eql_nil_nil w T hT,eqGuard_nil_constR]) ht h
end
end WB
namespace WB
open Go Go.RowKit
section
variable {P:Program} {fn:Func} {R:Ending→World→Prop} {n:Nat} {w0:World} {G:Env} {L M:List HP} {v v1 v2 v3:Value} {t t1 t2 t3:Nat} {T E:TypeId} {b:Nat} {cs:List Value} {fz:Nat×Nat}
end
end WB
namespace WB
open Go Go.RowKit
theorem KE.turn {P:Program} {f:FuncId} {args:Array Value} {w0:World} {L:List HP} {R R':Value→List HP→Prop} (h:KE P f args w0 L R) (hr:∀v M,R v M→∃M',R' v M'∧∀w,St w0 M w→St w0 M' w):KE P f args w0 L R':=fun w hw=>
 (h w hw).mono fun _ _ ⟨v,M,e,r,s,b⟩=>let⟨M',r',c⟩:=hr v M r;⟨v,M',e,r',c _ s,b⟩
end WB
/- the document's words: what may be; errors held beside it. -/
namespace Go.Proofs.YtjhogocabcdjbabGreatDoor
open Go Go.RowKit WB
end Go.Proofs.YtjhogocabcdjbabGreatDoor
/- plain.Place, waybilllaw.is at an At. -/
namespace Go.Proofs.YtjhogocabcdjbabGreatDoor
open Go Go.RowKit WB
abbrev atB (b:Nat) (k p:Int):HP:=blk b (.cells [Value.int .i64 k,.int .i64 p].toArray 248 (0,0))
def atV (b:Nat):Value:=.iface 247 (.pointer (some ⟨b,0,none⟩))
end Go.Proofs.YtjhogocabcdjbabGreatDoor
/- messages' text: plain -/
namespace WB
open Go
def itoaS (n:Int):ByteArray:=⟨(Lib.itoa n).toArray⟩
def joinS (xs:List ByteArray) (sep:ByteArray):ByteArray:=⟨(Lib.join (xs.map (·.data.toList)) sep.data.toList).toArray⟩
def intB (n:Int):Prop:= -9223372036854775808≤n∧n≤9223372036854775807
def sp:ByteArray:=⟨#[32]⟩
def msgS (m:Ms):ByteArray:=itoaS m.id++sp++itoaS m.pri++sp++m.body++sp++m.queue++sp++itoaS m.house
def plus:ByteArray:=⟨#[43]⟩
def writeS (xs:List Ms):ByteArray:=joinS (xs.map msgS) plus
theorem ba_size (s:ByteArray):s.size=s.data.toList.length:=rfl
theorem itoaS_size {n:Int} (h:intB n):(itoaS n).size≤21:=by
 have :=Lib.itoa_length_le n h.1 h.2
 simpa[itoaS,ByteArray.size]using this
theorem join_cons2 (x y:List UInt8) (r:List (List UInt8)) (sep:List UInt8):Lib.join (x::y::r) sep=x++sep++Lib.join (y::r) sep:=by
 simp[Lib.join_cons,Lib.joinTail]
theorem join_snoc (l:List (List UInt8)) (x sep:List UInt8) (h:l≠[]):Lib.join (l++[x]) sep=Lib.join l sep++sep++x:=by
 cases l with
 |nil=>exact absurd rfl h
 |cons a r=>rw[List.cons_append,Lib.join_cons,Lib.join_cons];simp[Lib.joinTail]
theorem joinS_snoc (l:List ByteArray) (x sep:ByteArray) (h:l≠[]):joinS (l++[x]) sep=joinS l sep++sep++x:=by
 unfold joinS
 rw[List.map_append,List.map_cons,List.map_nil,join_snoc _ _ _ Y56]
 apply ByteArray.ext
 apply Array.ext'
 simp
theorem joinS_one (x sep:ByteArray):joinS [x] sep=x:=by
 unfold joinS
 rw[List.map_cons,List.map_nil,Lib.join_one]
theorem joinS_nil (sep:ByteArray):joinS [] sep=⟨#[]⟩:=rfl
theorem joinS_two (x y sep:ByteArray):joinS [x,y] sep=x++sep++y:=by
 have :=joinS_snoc [x] y sep (by simp)
 rw[joinS_one]at this;exact this
theorem joinS_cons2 (x y:ByteArray) (r:List ByteArray) (sep:ByteArray):joinS (x::y::r) sep=x++sep++joinS (y::r) sep:=by
 unfold joinS
 rw[List.map_cons,List.map_cons,join_cons2]
 apply ByteArray.ext
 apply Array.ext'
 simp
theorem joinS_size (sep:ByteArray) (c:Nat):∀(l:List ByteArray),(∀x∈l,x.size≤c)→(joinS l sep).size≤l.length *(c+sep.size)
 |[],_=>by rw[joinS_nil];exact Nat.zero_le _
 |[x],h=>by
  have :=h x (by simp)
  rw[joinS_one];simp;omega
 |x::y::r,h=>by
  have h1:=joinS_size sep c (y::r) fun z hz=>h z (List.mem_cons_of_mem _ hz)
  have h2:=h x (by simp)
  rw[joinS_cons2,ByteArray.size_append,ByteArray.size_append,List.length_cons,Nat.succ_mul];omega
theorem join_len (l:List ByteArray) (sep:ByteArray):(Lib.join (l.map (·.data.toList)) sep.data.toList).length=(joinS l sep).size:=by simp[joinS,ByteArray.size]
theorem cat_assoc (a b c:ByteArray):a++b++c=a++(b++c):=ByteArray.append_assoc
theorem msgS_size {m:Ms} (h:msRight m=true):(msgS m).size≤100:=by
 obtain⟨h1,h2,h3,h4,h5,h6,h7,h8⟩:=msRight_parts h
 have a1:=itoaS_size (n:=m.id) ⟨by omega,by omega⟩
 have a2:=itoaS_size (n:=m.pri) ⟨by omega,by omega⟩
 have a3:=itoaS_size (n:=m.house) ⟨by omega,by omega⟩
 have a4:m.body.size≤12:=by unfold bodyB lettersB at h5;simp at h5;omega
 have a5:m.queue.size≤8:=by unfold wordB lettersB at h6;simp at h6;omega
 have a6:sp.size=1:=rfl
 unfold msgS
 simp only[ByteArray.size_append,a6]
 omega
theorem writeS_size {l:List Ms} (h:∀m∈l,msRight m=true):(writeS l).size≤l.length *101:=by
 unfold writeS
 have :=joinS_size plus 100 (l.map msgS) (fun x hx=>by obtain⟨m,hm,rfl⟩:=List.mem_map.1 hx;exact msgS_size (h m hm))
 rw[List.length_map]at this
 exact this
def badI (xs:List Ms):Option Nat:=xs.findIdx? fun m=> !msRight m
def writeE (xs:List Ms):Int:=match badI xs with|none=>0|some _=>1
def writeP (xs:List Ms):Int:=match badI xs with|none=> -1|some k=>(k:Int)
def writeT (xs:List Ms):ByteArray:=match badI xs with|none=>writeS xs|some _=>⟨#[]⟩
theorem badI_none {xs:List Ms} (h:∀(j:Nat) m,xs[j]? =some m→msRight m=true):badI xs=none:=by
 unfold badI
 rw[List.findIdx?_eq_none_iff]
 intro m hm
 obtain⟨j,hj,rfl⟩:=List.getElem_of_mem hm
 simp[h j _ (List.getElem?_eq_getElem hj)]
theorem badI_all {xs:List Ms} (h:badI xs=none):∀m∈xs,msRight m=true:=by
 unfold badI at h
 intro m hm
 simpa using List.findIdx?_eq_none_iff.1 h m hm
end WB
/- what a law's row wants beside its walk: arguments opened, read again, a witness -/
namespace WB
open Go Go.RowKit Go.ChangeShapes Go.WideShapes Go.Deep
section
variable {H:Type} {enc:TypeId×Value→H}
theorem witness_row_sh {C:Checked} {os:Os} {f:FuncId} {fn:Func} {s:OpenSpec} {conds:List PathCond} {apart:Bool} {laid:List (String×DataW Unit)} (modest:Bool) (w0:World) (args:Array Value) (hos:w0.os=os)
 (hsh:(w0.forCall (fun _ _=>0) ⟨#[],args,[]⟩).Shaped C.prog)
 (hok:Input.okWideB C.prog (w0.forCall (fun _ _=>0) ⟨#[],args,[]⟩) f ⟨#[],args,[]⟩=true)
 (hrow:s.preRow enc C.prog fn conds apart laid (w0.forCall (fun _ _=>0) ⟨#[],args,[]⟩).memory args):
 ∃(w:World) (tape:Tape) (i:Input),w.os=os∧(w.forCall tape i).Shaped C.prog∧i.vars=[]∧Input.okWide C.prog (w.forCall tape i) .any w.heap.size f i∧
  s.preRow enc C.prog fn conds apart laid (w.forCall tape i).memory i.args∧({modest:=modest}:Assume).holds C.prog (lone (Frame.enter C.prog f i.args .normal) [] (w.forCall tape i)):=
 ⟨w0,fun _ _=>0,⟨#[],args,[]⟩,hos,hsh,(Input.okWide_of_okWideB (base:=0) hok).1,(Input.okWide_of_okWideB hok).2,hrow,by
  simp only[Assume.holds]
  exact⟨by simp,by simp,fun _=>Modest.zero,by simp,by simp⟩⟩
variable {P:Program}
theorem law_args (hl:laidOutB P=true) {W W':World} (hb:Below W.heap.size W W'):∀{ts:List TypeId} {vs:List Value} {ds:List (DataW H)} {ps:List MemPlace},(ts.all fun t=>P.readableRec t&&decide (t<P.types.size))=true→
 DataW.TrodAll enc P W 0 (fun _=>true) true ts vs ds ps→(∀x∈ps,x.block<W.heap.size)→DataW.TrodAll enc P W' 0 (fun b=>decide (b<W.heap.size)) true ts vs ds ps
 |[],[],[],_,_,h,_=>h
 |t::ts,v::vs,d::ds,ps,hr,⟨p,q,h1,h2,e⟩,hlt=>by
  simp only[List.all_cons,Bool.and_eq_true,decide_eq_true_eq]at hr
  exact⟨p,q,Below.trod hl hr.1.1 hr.1.2 h1 hb (fun x hx=>hlt x (by rw[e];exact List.mem_append_left _ hx)),law_args hl hb (by simpa using hr.2) h2 (fun x hx=>hlt x (by rw[e];exact List.mem_append_right _ hx)),e⟩
theorem list_of_each {α:Type} {p:Nat→α→Prop}:∀(n:Nat),(∀i,i<n→∃x,p i x)→∃l:List α,l.length=n∧∀(i:Nat) (x:α),l[i]? =some x→p i x
 |0,_=>⟨[],rfl,fun i x h=>by simp at h⟩
 |n+1,h=>by
  obtain⟨l,hl,hp⟩:=list_of_each n fun i hi=>h i (by omega)
  obtain⟨x,hx⟩:=h n (by omega)
  refine⟨l++[x],by simp[hl],fun i y hy=>?_⟩
  by_cases hi:i<l.length
  ·rw[List.getElem?_append_left hi]at hy;exact hp i y hy
  ·rw[List.getElem?_append_right (by omega)]at hy
   have :i-l.length=0:=by
    rcases Nat.eq_zero_or_pos (i-l.length)with h0|h0
    ·exact h0
    ·rw[List.getElem?_eq_none Y61]at hy;simp at hy
   rw[this]at hy
   simp only[List.getElem?_cons_zero,Option.some.injEq]at hy
   rw[←hy,show i=n by omega];exact hx
def RdA {α:Type} (W:World) (sz:Nat) (cf:α→List Value) (v:Value) (xs:List α):Prop:=
 ∃a cap,v=.slice a xs.length cap∧∀(i:Nat) (x:α),xs[i]? =some x→∃ad,a=some ad∧HasCells W (ad.add (i *sz)) (cf x)
theorem open_sl {α:Type} {φ:α→Prop} {cf:α→List Value} {W:World} {t e:TypeId} {v:Value} {d:DataW H} {p:List MemPlace} {r:Reach} {base sz:Nat} (ht:P.underlying t=some (.slice e)) (hv:Value.okWide P W r base t v)
 (h:DataW.Trod enc P W 0 (fun _=>true) true t v d p) (hsz:P.cellsOf e=sz) (rd:∀n cs y,DataW.trod enc P W 0 (fun _=>true) true n e cs=some y→∃x:α,φ x∧cs=cf x):
 ∃xs:List α,RdA W sz cf v xs∧∀x∈xs,φ x:=by
 obtain⟨a,len,cap,rfl⟩:=okWide_slice ht hv
 obtain⟨fuel,hf⟩:=h
 rcases open_slice ht hf with⟨hcs,_⟩|⟨a',len',cap',m,n,D,Pl,hcs,_,hl,_,hm,_,hi⟩
 ·simp[Value.cells]at hcs
  obtain⟨rfl,rfl,rfl⟩:=hcs
  exact⟨[],⟨none,0,rfl,fun i x h=>by simp at h⟩,fun x hx=>by simp at hx⟩
 ·simp[Value.cells]at hcs
  obtain⟨rfl,rfl,rfl⟩:=hcs
  have key:∀i,i<len→∃x:α,φ x∧HasCells W (a'.add (i *sz)) (cf x):=fun i hlt=>by
   obtain⟨cs',hc,htr⟩:=hi i (by rw[hm];simp;omega)
   obtain⟨x,hx,rfl⟩:=rd n cs' _ htr
   obtain⟨_,hlen,hcell⟩:=World.cells?_some hc
   refine⟨x,hx,fun j c hj=>?_⟩
   have hlt2:=(List.getElem?_eq_some_iff.1 hj).1
   rw[←hsz]
   rw[hcell j (by omega)];exact hj
  obtain⟨l,hll,hp⟩:=list_of_each len key
  refine⟨l,⟨some a',cap,by rw[hll],fun i x hx=>⟨a',rfl,(hp i x hx).2⟩⟩,fun x hx=>?_⟩
  obtain⟨i,hi,rfl⟩:=List.getElem_of_mem hx
  exact(hp i _ (List.getElem?_eq_getElem hi)).1
end
end WB
namespace WB
open Go Go.RowKit Go.ChangeShapes Go.WideShapes Go.Deep
section
variable {H:Type} {enc:TypeId×Value→H} {P:Program} {W:World} {base:Nat} {spare:Nat→Bool} {held:Bool}
theorem trod_len {t:TypeId} {fs:Array Field} {n:Nat} {cs:List Value} {y:DataW H×List MemPlace} (hu:P.underlying t=some (.struct fs)) (h:DataW.trod enc P W base spare held n t cs=some y) {k:Nat} (hk:P.cellsOf t=k):cs.length=k:=by
 obtain⟨_,_,_,_,hl,_⟩:=DataW.trod_struct hu h
 rw[hl,hk]
theorem trod_field {t:TypeId} {fs:Array Field} {n:Nat} {cs:List Value} {y:DataW H×List MemPlace} (hu:P.underlying t=some (.struct fs)) (h:DataW.trod enc P W base spare held n t cs=some y) (i off:Nat) (ty:TypeId) (sz:Nat)
 (hf:(fs[i]?).map (fun f=>(f.offset,f.type))=some (off,ty)) (hc:P.cellsOf ty=sz):∃m y',DataW.trod enc P W base spare held m ty ((cs.drop off).take sz)=some y':=by
 obtain⟨xs,m,_,_,_,hx,hall⟩:=DataW.trod_struct hu h
 cases hfi:fs[i]? with
 |none=>rw[hfi]at hf;simp at hf
 |some f=>
  rw[hfi]at hf
  simp only[Option.map_some,Option.some.injEq,Prod.mk.injEq]at hf
  obtain⟨rfl,rfl⟩:=hf
  have h1:=hall i f hfi
  have hlt:i<xs.length:=by rw[hx];exact(Array.getElem?_eq_some_iff.1 hfi).1
  rw[List.getElem?_eq_getElem hlt,hc]at h1
  exact⟨m,_,h1⟩
theorem trod_i {t:TypeId} {fs:Array Field} {n:Nat} {cs:List Value} {y:DataW H×List MemPlace} (hu:P.underlying t=some (.struct fs)) (h:DataW.trod enc P W base spare held n t cs=some y) (i off:Nat) (ty:TypeId) {k:IntKind}
 (hf:(fs[i]?).map (fun f=>(f.offset,f.type))=some (off,ty)) (hc:P.cellsOf ty=1) (hty:P.underlying ty=some (.int k)):∃z:Int,cs[off]? =some (.int k z)∧(Lit.int k z).wf=true:=by
 obtain⟨m,y',h1⟩:=trod_field hu h i off ty 1 hf hc
 obtain⟨z,e,_,hz⟩:=DataW.trod_int hty h1
 refine⟨z,?_,hz⟩
 have :=congrArg (fun l=>l[0]?) e
 simpa using this
end
end WB
namespace WB
open Go Go.RowKit
theorem laidVars_mem {P:Program} {W:World}:∀{l:List (String×DataW Unit)} {ps:List MemPlace},DataW.LaidVars P W l ps→∀x∈l,∃g t cs fuel p,P.globalNamed x.1=some g∧(P.globals[g]?).map (·.type)=some t∧W.var? P x.1=some cs∧DataW.trod (fun _=>()) P W 0 (fun _=>true) false fuel t cs.toList=some (x.2,p)
 |[],_,_,x,hx=>by cases hx
 |(n,d)::r,ps,h,x,hx=>by
  obtain⟨g,t,cs,fuel,p,q,h1,h2,h3,h4,h5,_⟩:=h
  rcases List.mem_cons.1 hx with rfl|hx
  ·exact⟨g,t,cs,fuel,p,h1,h2,h3,h4⟩
  ·exact laidVars_mem h5 x hx
theorem tab_of_laid {P:Program} {W:World} {name:String} {k:IntKind} {zs:List Int} {l:List (String×DataW Unit)} {g:Nat} {t e:TypeId} {n:Nat}
 (h:laidMet P l W) (hm:(name,Lib.tabData k zs)∈l) (hg:P.globalNamed name=some g) (hty:(P.globals[g]?).map (·.type)=some t) (ht:P.underlying t=some (.array n e)) (he:P.underlying e=some (.int k)) (hce:P.cellsOf e=1) (hct:P.cellsOf t=n):Lib.TabIs P W name k zs:=by
 obtain⟨ps,hv,_⟩:=h
 obtain⟨g',t',cs,fuel,p,h1,h2,h3,h4⟩:=laidVars_mem hv _ hm
 obtain rfl:=Option.some.inj (hg.symm.trans h1)
 obtain rfl:=Option.some.inj (hty.symm.trans h2)
 unfold Lib.TabIs
 rw[h3,←Lib.cells_of_tab ht he hce hct h4]
end WB
namespace WB
open Go Go.RowKit Go.ChangeShapes Go.WideShapes Go.Deep
end WB
/- messages' text: Itoa, Join, the document's Words and Write, the program's Write. -/
namespace Go.Proofs.YtjhogocabcdjbabGreatDoor
open Go Go.RowKit WB
def Tab (w:World):Prop:=Lib.TabIs Tryz.prog w "internal/strconv.uint64pow10" .u64 Lib.pow10Tab
theorem Tab.ext {w w':World} (h:Tab w) (e:Ext w w'):Tab w':=by
 unfold Tab Lib.TabIs World.var? at *
 cases hg:Tryz.prog.globalNamed "internal/strconv.uint64pow10" with
 |none=>rw[hg]at h;simp at h
 |some g=>
  rw[hg]at h
  simp only[Option.bind_some]at h ⊢
  cases hb:w.heap[g]? with
  |none=>rw[hb]at h;simp at h
  |some o=>rw[e.2 g (Array.getElem?_eq_some_iff.1 hb).1,hb];rw[hb]at h;exact h
theorem itoa_e (w0:World) (L:List HP) (n:Int) (hT:Tab w0) (hn:intB n):KE Tryz.prog 59 #[.int .i64 n] w0 L (fun u M=>u=.string (itoaS n)∧M=L):=KE.of_below fun w hw=>by
 refine(Tryz.strconv_Itoa n hn.1 hn.2 w (hT.ext (Ext.of_below hw.below))).mono ?_
 rintro e w' ⟨rfl,k,os,rfl⟩
 exact⟨rfl,Lib.below_grow _ _ (Nat.le_refl _) _ _⟩
theorem rdA_extM {W W':World} {v:Value} {xs:List Ms} (h:RdA W 5 msC v xs) (e:Ext W W'):RdA W' 5 msC v xs:=by
 obtain⟨a,cap,rfl,hc⟩:=h
 exact⟨a,cap,rfl,fun i x hx=>by obtain⟨ad,rfl,hh⟩:=hc i x hx;exact⟨ad,rfl,hh.ext e⟩⟩
def strC (s:ByteArray):List Value:=[.string s]
abbrev strS (v:Value) (xs:List ByteArray):HP:=SL 9 1 strC v xs
theorem str_info:(Tryz.prog.info? 9).map (fun i=>(i.zero,i.size,i.bytes))=some (some (Value.string ⟨#[]⟩),1,16):=by kernel_rfl
theorem join_e (w0:World) (L R:List HP) (v:Value) (xs:List ByteArray) (sep:ByteArray) (hp:Pick L (strS v xs) R) (hn:xs.length≤1000000) (hs:(joinS xs sep).size≤1000000000):KE Tryz.prog 62 #[v,.string sep] w0 L (fun u M=>u=.string (joinS xs sep)∧M=L):=KE.of_below fun w hw=>by
 rcases(hw.pick hp).osl_cases with⟨h1,h2,_⟩|⟨g,cap,cur,h1,h2,h3,h4,h5,h6,h7⟩
 ·have hx:xs=[]:=List.eq_nil_of_length_eq_zero h2
  subst hx;subst h1
  refine(Tryz.strings_Join_none none 0 sep w).mono ?_
  rintro e w' ⟨rfl,rfl⟩
  exact⟨rfl,Below.refl _ _⟩
 ·subst h1
  have hc:∀(j:Nat) x,xs[j]? =some x→w.cell? ⟨g,0+j,none⟩=some (.string x):=fun j x hx=>by
   have :=SL_cells (cf:=strC) (sz:=1) (fun _=>rfl) (hw.pick hp) hx 0 (by decide)
   rw[Nat.zero_add]
   simpa[strC]using this
  refine(Tryz.strings_Join g 0 cap xs sep w hc h7.lt (by omega) h2 (by rw[join_len];omega)).mono ?_
  rintro e w' ⟨rfl,hb⟩
  exact⟨rfl,hb⟩
def inC (n:Int):List Value:=[.int .i64 n]
theorem mwrite1_e (w0:World) (L:List HP) (m:Ms) (hb:m.body.size≤maxLen) (hq:m.queue.size≤maxLen):KE Tryz.prog 154 #[.agg (msC m).toArray] w0 L (fun u M=>u=.bool (!msRight m)∧M=L):=by
 refine KE.mk (n:=6) Tryz.func154 rfl Tryz.ntmps154 (by simp) ?_
 intro w hw
 refine Z3 ?_
 refine KO.box rfl rfl Y68 rfl ?_;intro b1
 refine Z135 ?_
 refine Z124 ?_
 refine KO.ce (cp:=[]) rfl rfl rfl Tryz.call145 rfl (right_e w _ m hb hq) ?_;rintro v' L' ⟨rfl,rfl⟩
 refine Z70 ?_
 refine Z33 ?_
 refine KQ.ret1 rfl rfl (fun w' hs=>⟨_,_,rfl,⟨rfl,rfl⟩,hw.below_step hs.below,hs.below⟩)
theorem idxm_e (w0:World) (L:List HP) (v:Value) (xs:List Ms) (f:FuncId) (cp:List Value) (pf:Ms→Bool) (hr:∀w,St w0 L w→RdA w 5 msC v xs) (hlen:xs.length<1000000) (hcall:∀args w,(callFunc f args).run Tryz.prog w=.ok (.enter f args) w)
 (hcl:∀e,e∈xs→KE Tryz.prog f ([]++([Value.agg (msC e).toArray]++cp)).toArray w0 L (fun v L'=>v=.bool (pf e)∧L'=L)):
 KE Tryz.prog 153 #[v,.func (.func f) [].toArray cp.toArray] w0 L (fun v L'=>v=.int .i64 (fidx pf xs)∧L'=L):=by
 refine KE.mk (n:=19) Tryz.func153 rfl Tryz.ntmps153 (by simp) ?_
 intro w hw
 obtain⟨a,cap,rfl,hc⟩:=hr w hw
 refine Z150 ?_
 refine Z285 ?_
 refine K.loop (fun k:Nat=>[(0,.slice a xs.length cap),(1,.func (.func f) [].toArray cp.toArray),(7,.int .i64 (xs.length:Nat)),(8,.int .i64 (k:Nat))]) (fun _=>[]) (fun k=>k≤xs.length∧∀(j:Nat) (u:Ms),j<k→xs[j]? =some u→pf u=false) (fun k=>xs.length-k) 0 ⟨by omega,fun j u h=>by omega⟩ ⟨rfl,rfl,rfl,rfl,trivial⟩ (fun _ h=>h) ?_
 rintro k ⟨hk,hno⟩
 refine Z111 ?_
 refine K.condD rfl (fun h=>?_) (fun h=>?_)
 ·have hlt:k<xs.length:=by omega
  obtain⟨e,he⟩:∃e,xs[k]? =some e:=⟨xs[k],List.getElem?_eq_getElem hlt⟩
  obtain⟨ad,rfl,hh⟩:=hc k e he
  refine Z229 ?_
  refine Z28 ?_
  refine Z34 ?_
  refine KO.idxH rfl rfl Tryz.runUnderlying49 Tryz.sizeOf44 Y68 (by omega) rfl ?_
  refine KO.ldN0 (cs:=(msC e).toArray) rfl rfl Tryz.isAgg44 Tryz.sizeOf44 rfl hh rfl ?_
  refine KO.ce rfl rfl rfl hcall rfl ((hcl e (List.mem_of_getElem? he)).rebase hw) ?_;rintro v L' ⟨rfl,rfl⟩
  refine Z2 ?_
  refine K.cond rfl (fun h1=>?_) (fun h1=>?_)
  ·refine Z117 ?_
   refine Z146 ?_
   refine KQ.ret1 rfl rfl (fun w' hs=>⟨_,_,rfl,⟨?_,rfl⟩,hw.below_step hs.below,hs.below⟩)
   rw[fidx_hit he h1 hno]
  ·refine Z191 ?_
   refine KQ.round (k+1) ⟨by omega,fun j u hj hu=>?_⟩ (by omega) ⟨rfl,rfl,rfl,rfl,trivial⟩ (fun _ h=>h)
   by_cases hjk:j=k
   ·subst hjk;rw[he]at hu;simp only[Option.some.injEq]at hu;rw[←hu];exact h1
   ·exact hno j u (by omega) hu
 ·refine Z351 ?_
  refine KQ.ret1 rfl rfl (fun w' hs=>⟨_,_,rfl,⟨?_,rfl⟩,hw.below_step hs.below,hs.below⟩)
  rw[fidx_miss fun j u hu=>hno j u Y16 hu]
def MwR (L:List HP) (xs:List Ms) (u:Value) (M:List HP):Prop:=
 match badI xs with
 |none=>u=.tuple #[.string (writeS xs),.nilIface]∧M=L
 |some k=> ∃b,u=.tuple #[.string ⟨#[]⟩,atV b]∧M=atB b 1 k::L
set_option maxRecDepth 100000 in
theorem mwrite_e (w0:World) (L:List HP) (v:Value) (xs:List Ms) (hr:∀w,St w0 L w→RdA w 5 msC v xs) (hT:Tab w0) (hsz:∀m∈xs,m.body.size≤maxLen∧m.queue.size≤maxLen) (hl:xs.length≤100000):
 KE Tryz.prog 60 #[v] w0 L (MwR L xs):=by
 refine KE.mk (n:=49) Tryz.func60 rfl Tryz.ntmps60 (by simp) ?_
 intro w hw
 have hTw:=hT.ext (Ext.of_below hw.below)
 have hrw:=hr w hw
 obtain⟨sa,cap,rfl,hc⟩:=hrw
 refine Z230 ?_
 refine Z28 ?_
 refine KO.ce (cp:=[]) rfl rfl rfl Tryz.call153 rfl (idxm_e w _ _ xs 154 [] (fun m=> !msRight m) (fun w' hw'=>rdA_extM ⟨sa,cap,rfl,hc⟩ (Ext.of_below hw'.below)) (by omega) Tryz.call154 (fun e he=>mwrite1_e w _ e (hsz e he).1 (hsz e he).2)) ?_;rintro v' L' ⟨rfl,rfl⟩
 refine Z28 ?_
 refine Z77 ?_
 refine Z2 ?_
 refine K.condD rfl (fun h=>?_) (fun h=>?_)
 ·obtain⟨k,m,hk,hm,hb,hlt,hfi⟩:=fidx_nonneg h
  have hbad:badI xs=some k:=hfi
  rw[hk]
  refine Z117 ?_
  refine KO.bldS (pl:=[(0,1),(1,1)]) [.int .i64 1,.int .i64 (k:Nat)] rfl Tryz.zeroValue248 Tryz.runUnderlying248 (by intro w;simp[Tryz.sizeOf3,Tryz.sizeOf70]) rfl rfl ?_
  refine KO.box rfl rfl Y68 rfl ?_;intro b14
  refine Z30 ?_
  refine Z59 ?_
  refine KQ.ret2 rfl rfl rfl (fun w' hs=>⟨_,_,rfl,?_,hw.stack hs,hs.below⟩)
  unfold MwR;rw[hbad]
  exact⟨_,rfl,rfl⟩
 ·have hbad:badI xs=none:=fidx_neg (by omega)
  have hall:=badI_all hbad
  refine Z250 ?_
  refine Z28 ?_
  refine Z285 ?_
  refine K.loop (fun s:Nat×Value=>[(5,s.2),(16,.slice sa xs.length cap),(17,.int .i64 (xs.length:Nat)),(18,.int .i64 (s.1:Nat))]) (fun s=>[strS s.2 ((xs.take s.1).map msgS)]) (fun s=>s.1≤xs.length) (fun s=>xs.length-s.1) (0,.slice none 0 0)
   (Nat.zero_le _) ⟨rfl,rfl,rfl,rfl,trivial⟩ (fun _ h=>SL_nil h) ?_
  rintro⟨k,vo⟩ hk
  dsimp only at hk ⊢
  refine Z111 ?_
  refine K.condD rfl (fun h1=>?_) (fun h1=>?_)
  ·obtain⟨m,hm⟩:∃e,xs[k]? =some e:=⟨xs[k],List.getElem?_eq_getElem (by omega)⟩
   obtain⟨ad,rfl,hh⟩:=hc k m hm
   have h6:=hall m (List.mem_of_getElem? hm)
   have hrp:=msRight_parts h6
   have i1:intB m.id:=⟨by omega,by omega⟩
   have i2:intB m.pri:=⟨by omega,by omega⟩
   have i3:intB m.house:=⟨by omega,by omega⟩
   have z1:=itoaS_size i1
   have z2:=itoaS_size i2
   have z3:=itoaS_size i3
   have z4:m.body.size≤12:=by have :=hrp.2.2.2.2.1;unfold bodyB lettersB at this;simp at this;omega
   have z5:m.queue.size≤8:=by have :=hrp.2.2.2.2.2.1;unfold wordB lettersB at this;simp at this;omega
   have z6:(⟨#[32]⟩:ByteArray).size=1:=rfl
   have z7:sp.size=1:=rfl
   have hlen:((xs.take k).map msgS).length<1000000:=by simp;omega
   refine Z145 ?_
   refine KO.idxH rfl rfl Tryz.runUnderlying49 Tryz.sizeOf44 Y68 (by omega) rfl ?_
   refine KO.ldN0 (cs:=(msC m).toArray) rfl rfl Tryz.isAgg44 Tryz.sizeOf44 rfl hh rfl ?_
   refine KO.alloc rfl Tryz.zeroValue44 Y68 rfl ?_;intro b7
   refine Z67 ?_
   refine Z2 ?_
   refine K.draw [.pure,.pure,.read,.keep,.pure,.pure,.read,.keep,.pure,.pure,.pure,.read,.pure,.pure,.pure,.read,.pure,.pure,.pure,.read,.keep,.pure,.keep,.write,.pure] [0,1,2,5,6,10,11,14,15,18,19,3,4,7,8,9,12,13,16,17,20,21,22,23,24] Y62 Y62 ?_
   refine Z1 ?_
   refine Z220 ?_
   refine Z52 ?_
   refine Z17 ?_
   refine Z152 ?_
   refine Z133 ?_
   refine Z74 ?_
   refine Z133 ?_
   refine Z82 ?_
   refine Z17 ?_
   refine KO.ce (cp:=[]) rfl rfl rfl Tryz.call59 rfl (itoa_e w _ m.id hTw i1) ?_;rintro v' L' ⟨rfl,rfl⟩
   refine Z292 ?_
   refine KO.ce (cp:=[]) rfl rfl rfl Tryz.call59 rfl (itoa_e w _ m.pri hTw i2) ?_;rintro v' L' ⟨rfl,rfl⟩
   refine Z292 ?_
   refine Z292 ?_
   refine Z292 ?_
   refine Z292 ?_
   refine Z292 ?_
   refine Z292 ?_
   refine KO.ce (cp:=[]) rfl rfl rfl Tryz.call59 rfl (itoa_e w _ m.house hTw i3) ?_;rintro v' L' ⟨rfl,rfl⟩
   refine Z292 ?_
   refine KO.bs1 (z:=(Value.string ⟨#[]⟩)) (sz:=1) (by':=16) rfl rfl Tryz.underlying115 Y62 Y68 Y68 (by decide) (by decide) rfl ?_;intro b44
   refine KO.app (z:=Value.string ⟨#[]⟩) (sz:=1) (by':=16) rfl rfl rfl Y11 Y21 Tryz.underlying115 str_info rfl (msgS m) Y68 Y68 Y68 (by omega) (by decide) rfl ?_;intro v'
   refine Z234 ?_
   refine KQ.round (k+1,v') Y47 Y47 ⟨rfl,rfl,rfl,rfl,trivial⟩ (fun _ h=>?_)
   dsimp only
   rw[take_succ_some hm,List.map_append,List.map_cons,List.map_nil]
   exact(h.pick Y21).gc1 (LSub.nil _)
  ·have hkl:k=xs.length:=by omega
   rw[hkl,List.take_length]
   have hws:=writeS_size hall
   refine Z274 ?_
   refine KO.ce (cp:=[]) rfl rfl rfl Tryz.call62 rfl (join_e w _ _ vo (xs.map msgS) plus Y21 Y61 (by unfold writeS at hws;omega)) ?_;rintro v' L' ⟨rfl,rfl⟩
   refine Z192 ?_
   refine KQ.ret2 rfl rfl rfl (fun w' hs=>⟨_,_,rfl,?_,hw.below_step hs.below,hs.below⟩)
   unfold MwR;rw[hbad]
   exact⟨rfl,rfl⟩
end Go.Proofs.YtjhogocabcdjbabGreatDoor
/- A RANGE OVER A FUNCTION in the calculus: the code of a round, the statement, the call of yield -/
namespace WB
open Go Go.RowKit
def notDefer (o:Oper):Bool:=match o.op with| .defer _=>false|_=>true
abbrev FR (l:Nat):Fence:=Fence.wide.inRound l
section
variable {P:Program} {ops:Array Oper} {Q:Exit→Act→World→Prop} {l:Nat}
theorem notDefer_ne {o:Oper} (h:notDefer o=true):∀c,o.op≠ .defer c:=fun c e=>by unfold notDefer at h;rw[e]at h;cases h
theorem rowsIn_of {row:String} {args:Array Value} {w:World} {R:Value→World→Prop} (h:Rows P row args w R):RowsIn (FR l) 0 P row args w R:=fun c cs _=>
 let⟨v,w',r,s⟩:=h c cs;⟨v,w',r,stepsIn_wide.2 s⟩
theorem uponIn_of {o:Oper} {a:Act} {N N':Act→World→Prop} {r:Result Next} (hn:∀a w,N a w→N' a w) (h:o.upon P a N Q r):o.uponIn (FR l) 0 P a N' Q r:=by
 cases r with
 |ok x w'=>
  cases x with
  |value v=>exact hn _ _ h
  |skip=>exact hn _ _ h
  |defer d=>exact hn _ _ h
  |enter f args=>
   refine⟨fun _=>by simp[Fence.wide]at *,CallsIn.inRound l (callsIn_wide.2 (h.mono fun e w hh=>?_))⟩
   cases e with
   |returned v=>exact hn _ _ hh
   |panicked c=>exact hh
   |outgrown=>exact hh
  |row row args=>exact⟨fun _=>by simp[Fence.wide]at *,(rowsIn_of h).mono fun v w hh=>hn _ _ hh⟩
  |_=>exact h.elim
 |halt s w'=>
  cases s with
  |panic v=>exact h
  |_=>exact h.elim
theorem wpIn_of_wp {o:Oper} {a:Act} {w:World} {N N':Act→World→Prop} (hd:notDefer o=true) (hn:∀a w,N a w→N' a w) (h:o.wp P a w N Q):o.wpIn (FR l) 0 P a w N' Q:=
 ⟨fun _ _=>trivial,by
  show o.uponIn (FR l) 0 P a N' Q ((o.semAt (some l) a.eval).run P w)
  rw[Oper.semAt_some l _ _ (notDefer_ne hd)]
  exact uponIn_of hn h⟩
theorem wpListIn_of (hQ:∀a w,¬Q .outgrown a w):∀{os:List Oper} (_:os.all notDefer=true) {a:Act} {w:World},wpList P ops Q os a w→wpListIn (FR l) 0 P ops Q os a w
 |[],_,_,_,h=>h
 |o::os,hd,a,w,h=>by
  simp only[List.all_cons,Bool.and_eq_true]at hd
  unfold wpList at h
  unfold wpListIn
  split
  ·rename_i hw
   rw[if_pos hw]at h
   rcases h with h|⟨_,a0,w0,h⟩
   ·exact wpIn_of_wp hd.1 (fun a w hh=>wpListIn_of hQ hd.2 hh) h
   ·exact absurd h (hQ _ _)
  ·rename_i hw
   rw[if_neg hw]at h
   exact⟨fun _ _=>trivial,wpListIn_of hQ hd.2 h⟩
theorem wpOpsIn_of (hQ:∀a w,¬Q .outgrown a w) (hd:ops.toList.all notDefer=true):∀{s:List Nat} {a:Act} {w:World},wpOps P ops Q s a w→wpOpsIn (FR l) 0 P ops Q s a w
 |[],_,_,h=>h
 |i::s,a,w,h=>by
  unfold wpOps at h
  unfold wpOpsIn
  cases ho:ops[i]? with
  |none=>rw[ho]at h;exact wpOpsIn_of hQ hd h
  |some o=>
   rw[ho]at h
   simp only at h ⊢
   split
   ·rename_i hw
    rw[if_pos hw]at h
    rcases h with h|⟨_,a0,w0,h⟩
    ·exact wpIn_of_wp (List.all_eq_true.1 hd o (Array.mem_toList_iff.2 (Array.mem_of_getElem? ho))) (fun a w hh=>wpOpsIn_of hQ hd hh) h
    ·exact absurd h (hQ _ _)
   ·rename_i hw
    rw[if_neg hw]at h
    exact⟨fun _ _=>trivial,wpOpsIn_of hQ hd h⟩
theorem wpIn_region_ord {id:Nat} {a:Act} {w:World} (ks:List Kd) (ord:List Nat) (hmix:P.follows .mixedOrders=true) (hok:okR ops ks ord=true) (hQ:∀a w,¬Q .outgrown a w) (hd:ops.toList.all notDefer=true)
 (h:vcL P ops Q (ord.map (item ops ks)) a w.drew):(Code.region id ops true).wpIn (FR l) 0 P Q a w:=by
 simp only[okR,Bool.and_eq_true]at hok
 obtain⟨hb,ha,hall,hlt,hp⟩:=hok
 refine wpIn_region_draw fun t=>wpOpsIn_of hQ hd ?_
 have hv:Valid ops (Region.schedule (P.follows .mixedOrders) ops t):=schedule_valid _ hmix _ _ fun i o ho d hd=>by
  have hi:i<ops.size:=(Array.getElem?_eq_some_iff.1 ho).1
  have h1:=List.all_eq_true.1 (List.all_eq_true.1 hb i (List.mem_range.2 hi)) d (by
   have :ops.toList.getD i default=o:=by
    simp[Array.getElem?_eq_getElem hi]at ho ⊢
    simp[ho]
   rw[this];exact hd)
  simpa[Nat.blt_eq]using h1
 generalize Region.schedule (P.follows .mixedOrders) ops t=l at hv ⊢
 refine main_step hb ha hv l [] ord rfl (fun x=>?_) hp a _ h
 rw[hv.2.1 x]
 constructor
 ·intro hx;simpa[Nat.blt_eq]using List.all_eq_true.1 hlt x hx
 ·intro hx;exact List.contains_iff_mem.1 (List.all_eq_true.1 hall x (List.mem_range.2 hx))
end
def KR (l:Nat) (P:Program) (c:Code) (Q:Exit→Act→World→Prop) (n:Nat) (D:List Deferred) (w0:World) (G:Env) (L:List HP):Prop:=
 ∀a w,Knows n D G a→St w0 L w→c.wpIn (FR l) 0 P Q a w
section
variable {P:Program} {ops:Array Oper} {Q:Exit→Act→World→Prop} {n l:Nat} {D:List Deferred} {w0:World} {G G':Env} {L L' R:List HP} {c x y:Code} {e:Exit}
theorem KR.reg {id:Nat} {os:List Oper} (hd:os.all notDefer=true) (hQ:∀a w,¬Q .outgrown a w) (h:KO P os.toArray false Q n D w0 G L (wr os)):KR l P (.region id os.toArray false) Q n D w0 G L:=fun a w ha hw=>by
 have :=h a w ha hw
 simp only[vcG,wr_map]at this
 exact wpIn_region_lit (wpListIn_of hQ hd this)
theorem KR.draw {id:Nat} (ks:List Kd) (ord:List Nat) (hmix:P.follows .mixedOrders=true) (hok:okR ops ks ord=true) (hd:ops.toList.all notDefer=true) (hQ:∀a w,¬Q .outgrown a w)
 (h:KO P ops true Q n D w0 G L (ord.map (item ops ks))):KR l P (.region id ops true) Q n D w0 G L:=fun a _ ha hw=>
 wpIn_region_ord ks ord hmix hok hQ hd (h a _ ha hw.drew)
theorem KR.seq (h:KR l P x (Exit.then (y.wpIn (FR l) 0 P Q) Q) n D w0 G L):KR l P (.seq x y) Q n D w0 G L:=fun a w ha hw=>wpIn_seq (h a w ha hw)
theorem KR.block {id:Nat} (h:KR l P x (Exit.inBlock id Q) n D w0 G L):KR l P (.block id x) Q n D w0 G L:=fun a w ha hw=>wpIn_block (h a w ha hw)
theorem KR.ret (h:KQ Q .ret n D w0 G L):KR l P .ret Q n D w0 G L:=fun a w ha hw=>wpIn_ret (h a w ha hw)
theorem KR.skip (h:KQ Q .normal n D w0 G L):KR l P .skip Q n D w0 G L:=fun a w ha hw=>wpIn_skip (h a w ha hw)
theorem KR.exit {id:Nat} (h:KQ Q (.exit id) n D w0 G L):KR l P (.exit id) Q n D w0 G L:=fun a w ha hw=>wpIn_exit (h a w ha hw)
theorem KR.cond {cd:Operand} {b:Bool} (hc:ev G cd=some (.bool b)) (ht:b=true→KR l P x Q n D w0 G L) (hf:b=false→KR l P y Q n D w0 G L):KR l P (.cond cd x y) Q n D w0 G L:=fun a w ha hw=>
 wpIn_cond_split (ha.eval hc) (fun e=>ht e a w ha hw) (fun e=>hf e a w ha hw)
theorem KR.condT {cd:Operand} {b:Bool} (hc:ev G cd=some (.bool b)) (hb:b=true) (h:KR l P x Q n D w0 G L):KR l P (.cond cd x y) Q n D w0 G L:=
 KR.cond hc (fun _=>h) (fun e=>by rw[hb]at e;cases e)
theorem KR.condF {cd:Operand} {b:Bool} (hc:ev G cd=some (.bool b)) (hb:b=false) (h:KR l P y Q n D w0 G L):KR l P (.cond cd x y) Q n D w0 G L:=
 KR.cond hc (fun e=>by rw[hb]at e;cases e) (fun _=>h)
theorem KQ.nextR (h:KR l P y Q n D w0 G L):KQ (Exit.then (y.wpIn (FR l) 0 P Q) Q) .normal n D w0 G L:=h
theorem KR.conv (hs:∀w,St w0 L w→St w0 L' w) (h:KR l P c Q n D w0 G L'):KR l P c Q n D w0 G L:=fun a w ha hw=>h a w ha (hs w hw)
theorem KR.loop {α:Type} (E:α→Env) (H:α→List HP) (φ:α→Prop) (m:α→Nat) (x0:α) (h0:φ x0) (hG:SubL G (E x0)) (hL:∀w,St w0 L w→St w0 (H x0) w)
 (round:∀x,φ x→KR l P c (Exit.then (LoopI n D w0 E H φ m x) Q) n D w0 (E x) (H x)):KR l P (.loop c) Q n D w0 G L:=fun a w ha hw=>by
 intro b k cs hro hb hr
 have key:∀(N:Nat) (x:α) (a:Act) (w:World),m x<N→φ x→Knows n D (E x) a→St w0 (H x) w→
  ∃e a' w',Q e a' w'∧ArrivesIn (Machine.fenced P (FR l)) P (lone (b.atR a (.code c::.inLoop c::k)) cs w) b k cs e a' w':=by
  intro N
  induction N with
  |zero=>intro x a w h;omega
  |succ N ih=>
   intro x a w hlt hx ha hw
   obtain⟨e,a₁,w₁,hq,harr⟩:=round x hx a w ha hw b (.inLoop c::k) cs hro hb hr
   cases e with
   |normal=>
    obtain⟨y,hy,hlt',ha',hw'⟩:=hq
    obtain⟨e₂,a₂,w₂,hq₂,harr₂⟩:=ih y a₁ w₁ (by omega) hy ha' hw'
    exact⟨e₂,a₂,w₂,hq₂,.of_steps (StepsIn.trans harr (.one (fenced_calm hb hr rfl) stepR_inLoop)) harr₂⟩
   |exit id=>exact⟨_,a₁,w₁,hq,.pass (x:=.inLoop c) rfl (fun _ _=>.inl (by simp)) harr⟩
   |goto l=>exact⟨_,a₁,w₁,hq,.pass (x:=.inLoop c) rfl (fun _ _=>.inl (by simp)) harr⟩
   |ret=>exact⟨_,a₁,w₁,hq,.pass (x:=.inLoop c) rfl (fun _ _=>.inl (by simp)) harr⟩
   |panic ch=>exact⟨_,a₁,w₁,hq,.pass (x:=.inLoop c) rfl (fun _ _=>.inl (by simp)) harr⟩
   |outgrown=>exact⟨_,a₁,w₁,hq,.pass (x:=.inLoop c) rfl (fun _ _=>.inl (by simp)) harr⟩
 obtain⟨e,a',w',hq,harr⟩:=key (m x0+1) x0 a w (Nat.lt_succ_self _) h0 (ha.sub hG) (hL w hw)
 exact⟨e,a',w',hq,.of_steps (.one (fenced_calm hb hr rfl) stepR_loop) harr⟩
end
def mkD (b:Nat):Deferred:={target:=.collected b,args:=#[]}
theorem St.put {w0 w:World} {L:List HP} {b:Nat} {o:Obj} (h:St w0 (blk b o::L) w) (o':Obj):St w0 (blk b o'::L) (w.putObj b o'):=
 h.upd rfl rfl rfl (by simp) (World.putObj_heap_same h.lt) fun k hk=>World.putObj_heap_other hk
section
variable {P:Program} {f:FuncId} {args:Array Value} {w0:World} {L M M' KL:List HP} {R:Value→List HP→Prop} {fn:Func} {n:Nat} {G:Env} {RE:Ending→World→Prop} {v v1 v2:Value} {t1 t2:Nat} {T T' E E':TypeId} {b1 b2:Nat} {cs cs':List Value} {fz fz':Nat×Nat}
theorem KE.mkM {c:Code} (hf:P.funcs[f]? =some fn) (hb:fn.body=some c) (hn:fn.ntmps=n) (hsz:args.size≤n)
 (h:∀w,St w0 L w→K P c (bodyPostM Fence.wide 0 P fn fun e w'=> ∃v L',e=.returned v∧R v L'∧St w0 L' w'∧Below w.heap.size w w') n [] w (argEnv 0 args.toList) []):KE P f args w0 L R:=fun w hw=>by
 subst hn
 exact callsIn_wide.1 (callsIn_of_wp_marks (n:=0) hf hb trivial (wpIn_wide.2 (h w hw _ w (Knows.enter hsz) (St.init w))))
theorem KQ.finM (hr:∀a w,Knows n [] G a→St w0 L w→(results fn a.tmps).run P w=.ok v w) (h:∀w,St w0 L w→RE (.returned v) w):KQ (bodyPostM Fence.wide 0 P fn RE) .ret n [] w0 G L:=fun a w ha hw=>by
 show LeavesInM _ _ _ _ _ _ a.defers _ _
 rw[ha.defers]
 exact⟨v,hr a w ha hw,h w hw⟩
theorem KQ.finM1 {b:Nat} (hp:Pick L (blk b (.deferred (some []))) M) (hr:∀a w,Knows n [mkD b] G a→St w0 M w→(results fn a.tmps).run P w=.ok v w) (h:∀w,St w0 M w→RE (.returned v) w):KQ (bodyPostM Fence.wide 0 P fn RE) .ret n [mkD b] w0 G L:=fun a w ha hw=>by
 show LeavesInM _ _ _ _ _ _ a.defers _ _
 rw[ha.defers]
 have h1:=hw.pick hp
 have h2:=(h1.put (.deferred none)).drop
 exact⟨by simp,.inl ⟨b,_,rfl,run_takeDeferred h1.look.2,v,hr a _ ha h2,h _ h2⟩⟩
theorem res2C {D:List Deferred} (hr:fn.results=#[.cell t1 T,.cell t2 T']) (h1:envAt G t1=some (.pointer (some ⟨b1,0,none⟩))) (h2:envAt G t2=some (.pointer (some ⟨b2,0,none⟩)))
 (hT:∀w,(isAgg T).run P w=.ok false w) (hT':∀w,(isAgg T').run P w=.ok false w) (hp:Pick L (blk b1 (.cells [v1].toArray E fz)) M) (hp':Pick L (blk b2 (.cells [v2].toArray E' fz')) M') (a:Act) (w:World) (ha:Knows n D G a) (hw:St w0 L w):
 (results fn a.tmps).run P w=.ok (.tuple #[v1,v2]) w:=by
 have l1:(loadVar T ⟨b1,0,none⟩).run P w=.ok v1 w:=run_load_one (hT w) (by rw[World.cell?,(hw.lookP hp).2];simp)
 have l2:(loadVar T' ⟨b2,0,none⟩).run P w=.ok v2 w:=run_load_one (hT' w) (by rw[World.cell?,(hw.lookP hp').2];simp)
 simp[results,hr,Array.getD_eq_getD_getElem?,ha.get _ _ h1,ha.get _ _ h2,asAddr,l1,l2]
theorem KQ.retM2C (hr:fn.results=#[.cell t1 T,.cell t2 T']) (h1:envAt G t1=some (.pointer (some ⟨b1,0,none⟩))) (h2:envAt G t2=some (.pointer (some ⟨b2,0,none⟩)))
 (hT:∀w,(isAgg T).run P w=.ok false w) (hT':∀w,(isAgg T').run P w=.ok false w) (hp:Pick L (blk b1 (.cells [v1].toArray E fz)) M) (hp':Pick L (blk b2 (.cells [v2].toArray E' fz')) M') (h:∀w,St w0 L w→RE (.returned (.tuple #[v1,v2])) w):
 KQ (bodyPostM Fence.wide 0 P fn RE) .ret n [] w0 G L:=KQ.finM (fun a w ha hw=>res2C hr h1 h2 hT hT' hp hp' a w ha hw) h
theorem KQ.retM2C1 {b:Nat} (hd:Pick L (blk b (.deferred (some []))) KL) (hr:fn.results=#[.cell t1 T,.cell t2 T']) (h1:envAt G t1=some (.pointer (some ⟨b1,0,none⟩))) (h2:envAt G t2=some (.pointer (some ⟨b2,0,none⟩)))
 (hT:∀w,(isAgg T).run P w=.ok false w) (hT':∀w,(isAgg T').run P w=.ok false w) (hp:Pick KL (blk b1 (.cells [v1].toArray E fz)) M) (hp':Pick KL (blk b2 (.cells [v2].toArray E' fz')) M') (h:∀w,St w0 KL w→RE (.returned (.tuple #[v1,v2])) w):
 KQ (bodyPostM Fence.wide 0 P fn RE) .ret n [mkD b] w0 G L:=KQ.finM1 hd (fun a w ha hw=>res2C hr h1 h2 hT hT' hp hp' a w ha hw) h
end
section
variable {P:Program} {Q:Exit→Act→World→Prop} {n:Nat} {D:List Deferred} {w0:World} {G:Env} {L M:List HP}
theorem K.rangeFunc {g:Operand} {ps:Array Tmp} {assign body:Code} {gf:Nat} {cap:Array Value} (hg:ev G g=some (.func (.func gf) #[] cap)) (eg:∀args w,(callFunc gf args).run P w=.ok (.enter gf args) w)
 (h:∀(fn:FuncId) (tm:Array Value) (b l:Nat),Knows n D G {tmps:=tm,defers:=D}→∀w,St w0 (blk l (.loop ⟨.ready,none,fn,tm,ps,assign,body,b⟩)::blk b (.deferred (some []))::L) w→
  Calls P gf (#[.func (.yield l) #[] #[]]++cap) w fun e w'=> ∃v L' st pe,e=.returned v∧st≠LoopState.busy∧St w0 (blk l (.loop ⟨st,pe,fn,tm,ps,assign,body,b⟩)::blk b (.deferred (some []))::L') w'∧
   (match pe with|none=>KQ Q .normal n (mkD b::D) w0 G (blk b (.deferred (some []))::L')|some c=>K P c Q n (mkD b::D) w0 G (blk b (.deferred (some []))::L'))):
 K P (.rangeFunc g ps assign body) Q n D w0 G L:=fun a w ha hw=>by
 refine wpIn_wide.1 (wpIn_rangeFunc (F:=Fence.wide) (n:=0) fun fn _=>?_)
 have h1:=(hw.alloc (.deferred (some []))).alloc (.loop {state:=.ready,pending:=none,fn,tmps:=a.tmps,params:=ps,assign,body,defers:=w.heap.size})
 rw[World.size_alloc]at h1
 obtain⟨W1,hW1⟩:∃W1,(w.alloc (.deferred (some []))).alloc (.loop {state:=.ready,pending:=none,fn,tmps:=a.tmps,params:=ps,assign,body,defers:=w.heap.size})=W1:=⟨_,rfl⟩
 rw[hW1]at h1
 refine⟨w.heap.size+1,[mkD w.heap.size],W1,{target:=.fn (.func gf) cap,args:=#[.func (.yield (w.heap.size+1)) #[] #[]]},W1,gf,#[.func (.yield (w.heap.size+1)) #[] #[]]++cap,W1,by rw[←hW1];exact run_enterLoop_outer _ _ _ _ _,?_,?_,?_,fun hh=>by simp[Fence.wide]at hh,?_⟩
 ·simp only[resolve,ha.eval hg]
  simp[go_sem]
 ·intro _ _;trivial
 ·simp[invoke,go_sem,eg]
 ·refine callsIn_wide.2 ((h fn a.tmps w.heap.size (w.heap.size+1) ⟨ha.size,rfl,ha.get⟩ _ h1).mono ?_)
  rintro e w' ⟨v,L',st,pe,rfl,hst,hs,hj⟩
  have h2:=hs.put (.loop ⟨.exhausted,pe,fn,a.tmps,ps,assign,body,w.heap.size⟩)
  refine⟨pe,_,run_endLoop hs.look.2 hst,?_⟩
  have ha2:Knows n (mkD w.heap.size::D) G {a with defers:=[mkD w.heap.size]++a.defers}:=⟨ha.size,by rw[ha.defers];rfl,ha.get⟩
  cases pe with
  |none=>exact hj _ _ ha2 h2.drop
  |some c=>exact wpIn_wide.2 (hj _ _ ha2 h2.drop)
end
def KY (P:Program) (l:Nat) (x:Value) (w0:World) (L:List HP) (Rt Rf:List HP→Prop):Prop:=
 ∀(N:List HP) (w:World),St w0 (L++N) w→YieldAt Fence.wide 0 P l #[x] w fun e w'=>(e=.returned (.bool true)∧∃L',Rt L'∧St w0 (L'++N) w')∨(e=.returned (.bool false)∧∃L',Rf L'∧St w0 (L'++N) w')
def BeginQ (P:Program) (l:Nat) (body:Code) (R:Ending→World→Prop):Exit→Act→World→Prop:=
 Exit.then (fun a₁ w₁=> ∃w₂,(Instr.beginRound l).run P w₁=.ok () w₂∧body.wpIn (FR l) 0 P (roundPost P l R) a₁ w₂) (fun _ _ _=>False)
section
variable {P:Program} {Q:Exit→Act→World→Prop} {n l:Nat} {D:List Deferred} {w0:World} {G:Env} {L M:List HP} {x:Value} {Rt Rf:List HP→Prop} {R:Ending→World→Prop}
theorem Knows.setP {tm:Array Value} {p:Nat} (h:Knows n D G {tmps:=tm,defers:=D}) (hp:Nat.blt p n=true) (v:Value):Knows n [] ((p,v)::G) {tmps:=tm.setIfInBounds p v,defers:=[]}:=by
 have :=h.put p v (by simpa[Nat.blt_eq]using hp)
 exact⟨this.size,rfl,this.get⟩
theorem KY.mk {fn:FuncId} {tm:Array Value} {p b:Nat} {assign body:Code} (hk:Knows n D G {tmps:=tm,defers:=D}) (hp:Nat.blt p n=true)
 (h:∀N,KR l P assign (BeginQ P l body fun e w'=>(e=.returned (.bool true)∧∃L',Rt L'∧St w0 (L'++N) w')∨(e=.returned (.bool false)∧∃L',Rf L'∧St w0 (L'++N) w')) n [] w0 ((p,x)::G)
  (blk l (.loop ⟨.ready,none,fn,tm,#[p],assign,body,b⟩)::(M++N))):
 KY P l x w0 (blk l (.loop ⟨.ready,none,fn,tm,#[p],assign,body,b⟩)::M) Rt Rf:=fun N w hw=>by
 refine⟨fn,_,assign,body,run_yield (args:=#[x]) hw.look.2 rfl,roundIn_of_wpIn (F:=Fence.wide) (n:=0) trivial ?_⟩
 exact h N _ w (by simpa using hk.setP hp x) hw
theorem KQ.begin {rc:Loop} {body:Code} (hp:Pick L (blk l (.loop rc)) M) (hs:rc.state=.ready) (h:KR l P body (roundPost P l R) n D w0 G (blk l (.loop {rc with state:=.busy})::M)):KQ (BeginQ P l body R) .normal n D w0 G L:=fun a w ha hw=>
 have h1:=hw.pick hp
 ⟨_,run_beginRound h1.look.2 hs,h a _ ha (h1.put _)⟩
theorem KQ.goes {rc:Loop} (hp:Pick L (blk l (.loop rc)) M) (h:∀w,St w0 (blk l (.loop {rc with state:=.ready,pending:=none})::M) w→R (.returned (.bool true)) w):KQ (roundPost P l R) .normal n D w0 G L:=fun a w ha hw=>
 have h1:=hw.pick hp
 ⟨_,_,run_endRound none h1.look.2,h _ (h1.put _)⟩
theorem KQ.leaves {rc:Loop} (hp:Pick L (blk l (.loop rc)) M) (h:∀w,St w0 (blk l (.loop {rc with state:=.done,pending:=some .ret})::M) w→R (.returned (.bool false)) w):KQ (roundPost P l R) .ret n D w0 G L:=fun a w ha hw=>
 have h1:=hw.pick hp
 ⟨_,_,run_endRound (some .ret) h1.look.2,h _ (h1.put _)⟩
end
def KOI (P:Program) (ops:Array Oper) (Q:Exit→Act→World→Prop) (n:Nat) (D:List Deferred) (w0:World) (G:Env) (L:List HP) (os:List Oper):Prop:=
 ∀a w,Knows n D G a→St w0 L w→wpListIn Fence.wide 0 P ops Q os a w
section
variable {P:Program} {ops:Array Oper} {Q:Exit→Act→World→Prop} {n l t:Nat} {D:List Deferred} {w0:World} {G:Env} {L M N:List HP} {os:List Oper} {op:Op} {ty T T' E:TypeId} {pos:String} {af:Array Edge} {x y:Operand} {v:Value} {bb:Bool} {b off:Nat}
 {Rt Rf:List HP→Prop}
theorem K.regI {id:Nat} {os:List Oper} (h:KOI P os.toArray Q n D w0 G L os):K P (.region id os.toArray false) Q n D w0 G L:=fun a w ha hw=>wpIn_wide.1 (wpIn_region_lit (h a w ha hw))
theorem KOI.nil (h:KQ Q .normal n D w0 G L):KOI P ops Q n D w0 G L []:=h
theorem KOI.val (hv:∀a w,Knows n D G a→St w0 L w→(execOp a.eval ⟨some t,op,ty,pos,af,none⟩).run P w=.ok (.value v) w) (ht:Nat.blt t n=true) (h:KOI P ops Q n D w0 ((t,v)::G) L os):KOI P ops Q n D w0 G L (⟨some t,op,ty,pos,af,none⟩::os):=fun a w ha hw=>by
 refine wpListIn_plain rfl fun K hK=>⟨fun _ _=>trivial,?_⟩
 show Oper.uponIn _ _ _ _ _ _ _ ((execOp a.eval _).run P w)
 rw[hv a w ha hw]
 exact hK _ _ (h _ w (put_dst ha v ht) hw)
theorem KOI.mv (hx:ev G x=some v) (ht:Nat.blt t n=true) (h:KOI P ops Q n D w0 ((t,v)::G) L os):KOI P ops Q n D w0 G L (⟨some t,.move x,ty,pos,af,none⟩::os):=
 KOI.val (fun a w ha _=>by simp[execOp,ha.eval hx]) ht h
theorem KOI.not (hx:ev G x=some (.bool bb)) (ht:Nat.blt t n=true) (h:KOI P ops Q n D w0 ((t,.bool (!bb))::G) L os):KOI P ops Q n D w0 G L (⟨some t,.unOp .not T x,ty,pos,af,none⟩::os):=
 KOI.val (fun a w ha _=>by simp[execOp,ha.eval hx,Op.unary]) ht h
theorem KOI.ld {cs:List Value} {fz:Nat×Nat} (hx:ev G x=some (.pointer (some ⟨b,off,none⟩))) (hT:∀w,(isAgg T).run P w=.ok false w) (hp:Pick L (blk b (.cells cs.toArray E fz)) M) (hc:cs[off]? =some v) (ht:Nat.blt t n=true) (h:KOI P ops Q n D w0 ((t,v)::G) L os):
 KOI P ops Q n D w0 G L (⟨some t,.load T x,ty,pos,af,none⟩::os):=
 KOI.val (fun a w ha hw=>by
  have hcell:w.cell? ⟨b,off,none⟩=some v:=by rw[World.cell?,(hw.lookP hp).2];simpa using hc
  simp[execOp,ha.eval hx,Instr.loadAt,Instr.sureAddr,run_load_one (hT w) hcell]) ht h
theorem KOI.yield {ts:Array TypeId} {dst:Option Nat} (hx:ev G x=some (.func (.yield l) #[] #[])) (hy:ev G y=some v) (hY:KY P l v w0 M Rt Rf) (hs:∀w,St w0 L w→St w0 (M++N) w)
 (ht:∀L',Rt L'→∀a w,Knows n D G a→St w0 (L'++N) w→wpListIn Fence.wide 0 P ops Q os (a.put dst (.bool true)) w)
 (hf:∀L',Rf L'→∀a w,Knows n D G a→St w0 (L'++N) w→wpListIn Fence.wide 0 P ops Q os (a.put dst (.bool false)) w):
 KOI P ops Q n D w0 G L (⟨dst,.call ⟨.value x,#[y],ts⟩,ty,pos,af,none⟩::os):=fun a w ha hw=>by
 refine wpListIn_plain rfl fun K hK=>⟨fun _ _=>trivial,?_⟩
 obtain⟨fn,tmps,assign,body,hy',hR⟩:=hY N w (hs w hw)
 have he:(execOp a.eval ⟨dst,.call ⟨.value x,#[y],ts⟩,ty,pos,af,none⟩).run P w=.ok (.round l fn tmps assign body) w:=by
  simp[execOp,resolve,ha.eval hx,ha.eval hy,Deferred.ofValue,invoke,hy']
 rw[show Oper.semAt Fence.wide.round a.eval ⟨dst,.call ⟨.value x,#[y],ts⟩,ty,pos,af,none⟩=execOp a.eval ⟨dst,.call ⟨.value x,#[y],ts⟩,ty,pos,af,none⟩from rfl,he]
 refine⟨fun hh=>by simp[Fence.wide]at hh,hR.mono ?_⟩
 rintro e w' (⟨rfl,L',h1,h2⟩|⟨rfl,L',h1,h2⟩)
 ·exact hK _ _ (ht L' h1 a w' ha h2)
 ·exact hK _ _ (hf L' h1 a w' ha h2)
theorem KOI.yieldT {ts:Array TypeId} (hx:ev G x=some (.func (.yield l) #[] #[])) (hy:ev G y=some v) (hY:KY P l v w0 M Rt Rf) (hs:∀w,St w0 L w→St w0 (M++N) w) (hb:Nat.blt t n=true)
 (ht:∀L',Rt L'→KOI P ops Q n D w0 ((t,.bool true)::G) (L'++N) os) (hf:∀L',Rf L'→KOI P ops Q n D w0 ((t,.bool false)::G) (L'++N) os):
 KOI P ops Q n D w0 G L (⟨some t,.call ⟨.value x,#[y],ts⟩,ty,pos,af,none⟩::os):=
 KOI.yield hx hy hY hs (fun L' h a w ha hw=>ht L' h _ w (put_dst ha _ hb) hw) (fun L' h a w ha hw=>hf L' h _ w (put_dst ha _ hb) hw)
end
end WB
/- texts and their pieces: plain -/
namespace WB
open Go
def pieces (c:UInt8):List UInt8→List (List UInt8)
 |[]=>[[]]
 |b::l=>if b=c then[]::pieces c l else match pieces c l with|[]=>[[b]]|p::ps=>(b::p)::ps
theorem pieces_ne (c:UInt8):∀l,pieces c l≠[]
 |[]=>by simp[pieces]
 |b::l=>by
  unfold pieces
  split
  ·simp
  ·split<;>simp
theorem pieces_eq (c:UInt8) (l:List UInt8):pieces c (c::l)=[]::pieces c l:=by rw[pieces,if_pos rfl]
theorem pieces_neq {b c:UInt8} (h:b≠c) {l p:List UInt8} {ps:List (List UInt8)} (e:pieces c l=p::ps):pieces c (b::l)=(b::p)::ps:=by rw[pieces,if_neg h,e]
theorem pieces_app {c:UInt8} (r:List UInt8):∀{p:List UInt8},(∀b∈p,b≠c)→pieces c (p++c::r)=p::pieces c r
 |[],_=>pieces_eq c r
 |b::p,h=>pieces_neq (h b (by simp)) (pieces_app r (fun x hx=>h x Y67))
theorem pieces_free {c:UInt8}:∀{p:List UInt8},(∀b∈p,b≠c)→pieces c p=[p]
 |[],_=>rfl
 |b::p,h=>pieces_neq (h b (by simp)) (pieces_free (fun x hx=>h x Y67))
theorem pieces_miss {c:UInt8} {l:List UInt8} (h:Lib.indexByte l c= -1):pieces c l=[l]:=pieces_free fun b hb e=>by
 subst e
 obtain⟨i,hi,he⟩:=List.getElem_of_mem hb
 exact Lib.indexByte_none h i (by rw[List.getElem?_eq_getElem hi,he])
theorem pieces_hit {c:UInt8} {l:List UInt8} {i:Nat} (h:Lib.indexByte l c=i):pieces c l=l.take i::pieces c (l.drop (i+1)):=by
 obtain⟨h1,h2⟩:=Lib.indexByte_some h
 obtain⟨hlt,he⟩:=List.getElem?_eq_some_iff.1 h1
 have e:l=l.take i++c::l.drop (i+1):=by
  rw[←he,List.getElem_cons_drop,List.take_append_drop]
 have :=pieces_app (c:=c) (l.drop (i+1)) (p:=l.take i) fun b hb e'=>by
  subst e'
  obtain⟨j,hj,hb⟩:=List.getElem_of_mem hb
  rw[List.length_take]at hj
  have hj':j<i:=by omega
  refine h2 j hj' ?_
  rw[List.getElem?_eq_getElem (by omega)]
  simpa using hb
 rw[←e]at this
 exact this
theorem pieces_mem (c:UInt8):∀l,∀p∈pieces c l,∀b∈p,b≠c
 |[],p,hp,b,hb=>by simp[pieces]at hp;subst hp;simp at hb
 |a::l,p,hp,b,hb=>by
  by_cases h:a=c
  ·subst h;rw[pieces_eq]at hp
   rcases List.mem_cons.1 hp with rfl|hp
   ·simp at hb
   ·exact pieces_mem a l p hp b hb
  ·obtain⟨q,qs,e⟩:=List.exists_cons_of_ne_nil (pieces_ne c l)
   rw[pieces_neq h e]at hp
   rcases List.mem_cons.1 hp with rfl|hp
   ·rcases List.mem_cons.1 hb with rfl|hb
    ·exact h
    ·exact pieces_mem c l q (by rw[e];simp) b hb
   ·exact pieces_mem c l p (by rw[e];simp[hp]) b hb
theorem pieces_join {c:UInt8}:∀{ps:List (List UInt8)},ps≠[]→(∀p∈ps,∀b∈p,b≠c)→pieces c (Lib.join ps [c])=ps
 |[],h,_=>absurd rfl h
 |[p],_,h=>by rw[Lib.join_one];exact pieces_free (h p (by simp))
 |p::q::r,_,h=>by
  rw[join_cons2,List.append_assoc]
  show pieces c (p++c::Lib.join (q::r) [c])=_
  rw[pieces_app _ (h p (by simp)),pieces_join (by simp) (fun x hx=>h x (List.mem_cons_of_mem _ hx))]
theorem pieces_len (c:UInt8):∀l,(pieces c l).length=l.count c+1
 |[]=>rfl
 |b::l=>by
  by_cases h:b=c
  ·subst h;rw[pieces_eq,List.length_cons,pieces_len];simp
  ·obtain⟨q,qs,e⟩:=List.exists_cons_of_ne_nil (pieces_ne c l)
   have :=pieces_len c l
   rw[pieces_neq h e];rw[e]at this
   rw[List.count_cons_of_ne h];simpa using this
theorem splitK_pieces (c:UInt8):∀(k:Nat) (l:List UInt8),l.count c=k→Lib.splitK [c] 0 k l=pieces c l
 |0,l,h=>by
  have :Lib.indexByte l c= -1:=by
   rcases Int.lt_or_le (Lib.indexByte l c) 0 with h1|h1
   ·have :=Lib.indexByte_ge l c;omega
   ·obtain⟨i,hi⟩:=Int.eq_ofNat_of_zero_le h1
    have :=(Lib.indexByte_some hi).1
    exact absurd (List.mem_of_getElem? this) (List.count_eq_zero.1 h)
  rw[pieces_miss this];rfl
 |k+1,l,h=>by
  have hm:c∈l:=by
   rcases Decidable.em (c∈l)with hm|hm
   ·exact hm
   ·rw[List.count_eq_zero.2 hm]at h;cases h
  obtain⟨i,hi⟩:∃i:Nat,Lib.indexByte l c=i:=by
   rcases Int.lt_or_le (Lib.indexByte l c) 0 with h1|h1
   ·exfalso
    have h2:Lib.indexByte l c= -1:=by have :=Lib.indexByte_ge l c;omega
    obtain⟨j,hj,he⟩:=List.getElem_of_mem hm
    exact Lib.indexByte_none h2 j (by rw[List.getElem?_eq_getElem hj,he])
   ·obtain⟨i,hi⟩:=Int.eq_ofNat_of_zero_le h1;exact⟨i,hi⟩
  have hx:Lib.index l [c]=i:=by rw[Lib.index_one];exact hi
  have hne:¬(Lib.index l [c]== -1)=true:=fun e=>by have :=beq_iff_eq.1 e;omega
  have hc:(l.drop (i+1)).count c=k:=by
   have h1:=pieces_len c l
   have h2:=pieces_hit hi
   rw[h2]at h1
   have h3:=pieces_len c (l.drop (i+1))
   simp at h1;omega
  unfold Lib.splitK
  rw[if_neg hne,hx,pieces_hit hi]
  simp only[Int.toNat_natCast,Nat.add_zero,List.length_cons,List.length_nil,Nat.zero_add]
  rw[splitK_pieces c k _ hc]
def toB (l:List UInt8):ByteArray:=⟨l.toArray⟩
theorem data_toB (l:List UInt8):(toB l).data.toList=l:=rfl
def pcs (c:UInt8) (s:ByteArray):List ByteArray:=(pieces c s.data.toList).map toB
theorem ba_ext {a b:ByteArray} (h:a.data.toList=b.data.toList):a=b:=by
 apply ByteArray.ext;exact Array.ext' h
theorem pcs_data (c:UInt8) (s:ByteArray):(pcs c s).map (·.data.toList)=pieces c s.data.toList:=by
 unfold pcs;rw[List.map_map];conv=>rhs;rw[←List.map_id (pieces c s.data.toList)]
 rfl
theorem maps_inj {xs ys:List ByteArray} (h:xs.map (·.data.toList)=ys.map (·.data.toList)):xs=ys:=by
 have h2:=congrArg (List.map toB) h
 rw[List.map_map,List.map_map]at h2
 have e:(toB∘fun x:ByteArray=>x.data.toList)=id:=rfl
 rw[e,List.map_id,List.map_id]at h2
 exact h2
theorem pcs_split (c:UInt8) (s:ByteArray):Lib.splitB ⟨#[c]⟩ 0 (Lib.countB s ⟨#[c]⟩) s=pcs c s:=by
 refine maps_inj ?_
 rw[Lib.splitB_data,pcs_data]
 have :Lib.countB s ⟨#[c]⟩=s.data.toList.count c:=Lib.count_one c s.data.toList
 rw[this]
 exact splitK_pieces c _ _ rfl
theorem pcs_len (c:UInt8) (s:ByteArray):(pcs c s).length=Lib.countB s ⟨#[c]⟩+1:=by
 have :Lib.countB s ⟨#[c]⟩=s.data.toList.count c:=Lib.count_one c s.data.toList
 rw[this];unfold pcs;rw[List.length_map,pieces_len]
theorem pcs_miss {c:UInt8} {s:ByteArray} (h:Lib.indexByte s.data.toList c= -1):pcs c s=[s]:=by
 unfold pcs;rw[pieces_miss h];rfl
theorem pcs_hit {c:UInt8} {s:ByteArray} {i:Nat} (h:Lib.indexByte s.data.toList c=i):pcs c s=s.extract 0 i::pcs c (s.extract (i+1) s.size):=by
 unfold pcs;rw[pieces_hit h,List.map_cons]
 congr 1
 ·exact ba_ext (Lib.extract_from_zero s i).symm
 ·rw[Lib.extract_to_end]
theorem pcs_join {c:UInt8} {xs:List ByteArray} (h0:xs≠[]) (h:∀x∈xs,∀b∈x.data.toList,b≠c):pcs c (joinS xs ⟨#[c]⟩)=xs:=by
 refine maps_inj ?_
 rw[pcs_data]
 show pieces c (Lib.join (xs.map (·.data.toList)) [c])=_
 exact pieces_join Y51 (fun p hp b hb=>by obtain⟨x,hx,rfl⟩:=List.mem_map.1 hp;exact h x hx b hb)
theorem indexByte_lt {c:UInt8} {s:ByteArray} {i:Nat} (h:Lib.indexByte s.data.toList c=i):i<s.size:=by
 have :=(List.getElem?_eq_some_iff.1 (Lib.indexByte_some h).1).1
 rw[ba_size];exact this
theorem parse_app (c:UInt8):∀(l:List UInt8) (acc a:Nat),Lib.parseUint10 acc l=.ok a→Lib.parseUint10 acc (l++[c])=Lib.parseUint10 a [c]
 |[],acc,a,h=>by simp only[Lib.parseUint10]at h;injection h with h;subst h;rfl
 |b::l,acc,a,h=>by
  simp only[Lib.parseUint10,List.cons_append]at h ⊢
  split at h
  ·rename_i h1
   split at h
   ·cases h
   ·rename_i h2
    split at h
    ·cases h
    ·rename_i h3
     rw[if_pos h1,if_neg h2,if_neg h3,parse_app c l _ a h];rfl
  ·cases h
theorem digit_nat {d:Nat} (h:d<10):(UInt8.ofNat (48+d)).toNat=48+d:=by simp[UInt8.toNat_ofNat'];omega
theorem parse_dec:∀(u:Nat),u<18446744073709551616→Lib.parseUint10 0 (Lib.decDigits u)=.ok u:=by
 intro u
 induction u using Nat.strongRecOn with
 |_ u ih=>
  intro hu
  rw[Lib.decDigits]
  split
  ·rename_i h
   have e:=digit_nat h
   simp only[Lib.parseUint10,e]
   rw[if_pos (by omega),if_neg (by omega),if_neg (by omega)]
   simp only[Lib.NumEnd.ok.injEq];omega
  ·rename_i h
   have e:=digit_nat (d:=u%10) (by omega)
   rw[parse_app _ _ _ _ (ih (u/10) (by omega) (by omega))]
   simp only[Lib.parseUint10,e]
   rw[if_pos (by omega),if_neg (by omega),if_neg (by omega)]
   simp only[Lib.NumEnd.ok.injEq];omega
theorem dec_mem:∀(u:Nat),∀b∈Lib.decDigits u,48≤b.toNat∧b.toNat≤57:=by
 intro u
 induction u using Nat.strongRecOn with
 |_ u ih=>
  intro b hb
  rw[Lib.decDigits]at hb
  split at hb
  ·rename_i h
   rw[List.mem_singleton.1 hb]
   have :=digit_nat h;omega
  ·rename_i h
   rcases List.mem_append.1 hb with hb|hb
   ·exact ih (u/10) (by omega) b hb
   ·rw[List.mem_singleton.1 hb]
    have :=digit_nat (d:=u%10) (by omega);omega
theorem dec_ne (u:Nat):Lib.decDigits u≠[]:=by
 rw[Lib.decDigits];split<;>simp
theorem atoi_itoa {n:Int} (h:intB n):Lib.atoiAll (itoaS n).data.toList=.ok n:=by
 obtain⟨h1,h2⟩:=h
 show Lib.atoiAll (Lib.itoa n)=_
 rcases Int.lt_or_le n 0 with h0|h0
 ·obtain⟨u,rfl⟩:∃u:Nat,n= -(u:Int):=⟨n.natAbs,by omega⟩
  rw[Lib.itoa_neg u (by omega)]
  have hp:Lib.parseMag (Lib.decDigits u)=.ok u:=by unfold Lib.parseMag;rw[if_neg (dec_ne u)];exact parse_dec u (by omega)
  simp only[Lib.atoiAll]
  rw[if_pos (by decide),hp]
  simp
  omega
 ·obtain⟨u,rfl⟩:∃u:Nat,n=(u:Int):=⟨n.toNat,by omega⟩
  rw[Lib.itoa_nonneg u]
  have hp:Lib.parseMag (Lib.decDigits u)=.ok u:=by unfold Lib.parseMag;rw[if_neg (dec_ne u)];exact parse_dec u (by omega)
  have hm:=dec_mem u
  have hne:=dec_ne u
  revert hp hm hne
  cases Lib.decDigits u with
  |nil=>intro _ _ h;exact absurd rfl h
  |cons c r=>
   intro hp hm _
   have hc:=hm c (by simp)
   simp only[Lib.atoiAll]
   rw[if_neg (by omega),hp]
   have :¬c.toNat=45:=by omega
   simp[this]
   omega
theorem itoa_mem {n:Int}:∀b∈(itoaS n).data.toList,b.toNat=45∨(48≤b.toNat∧b.toNat≤57):=fun b hb=>by
 have hb:b∈Lib.itoa n:=hb
 unfold Lib.itoa at hb
 split at hb
 ·rcases List.mem_cons.1 hb with rfl|hb
  ·exact .inl rfl
  ·exact .inr (dec_mem _ b hb)
 ·exact .inr (dec_mem _ b hb)
end WB
/- the steps of the calculus: pieces of strings -/
namespace WB
open Go Go.RowKit
section
variable {P:Program} {ops:Array Oper} {d:Bool} {Q:Exit→Act→World→Prop} {n:Nat} {D:List Deferred} {w0:World} {G:Env} {L R:List HP} {l:List (Kd×Oper)} {k:Kd}
 {t:Nat} {ty T:TypeId} {pos:String} {af:Array Edge} {x y z:Operand} {s:ByteArray} {i j:Nat} {a c:Int} {kk kk':IntKind}
theorem KO.strTo (hx:ev G x=some (.string s)) (hy:ev G y=some (.int kk a)) (hT:P.underlying T=some .string) (ha:a=(i:Int)) (hi:i≤s.size) (ht:Nat.blt t n=true) (h:KO P ops d Q n D w0 ((t,.string (s.extract 0 i))::G) L l):
 KO P ops d Q n D w0 G L ((k,⟨some t,.slice T x none (some y) none,ty,pos,af,none⟩)::l):=
 KO.val (fun a' w ha'=>by
  subst ha
  have :=run_slice_string_to_if (P:=P) w T s kk (i:Int) hT
  rw[if_pos (by omega)]at this
  simp[execOp,ha'.eval hx,ha'.eval hy,run_sliceAt_string w T _ _ _ _ hT,this]) ht h
theorem KO.strFrom (hx:ev G x=some (.string s)) (hy:ev G y=some (.int kk a)) (hT:P.underlying T=some .string) (ha:a=(i:Int)) (hi:i≤s.size) (ht:Nat.blt t n=true) (h:KO P ops d Q n D w0 ((t,.string (s.extract i s.size))::G) L l):
 KO P ops d Q n D w0 G L ((k,⟨some t,.slice T x (some y) none none,ty,pos,af,none⟩)::l):=
 KO.val (fun a' w ha'=>by
  subst ha
  have :=run_slice_string_from_if (P:=P) w T s kk (i:Int) hT
  rw[if_pos (by omega)]at this
  simp[execOp,ha'.eval hx,ha'.eval hy,run_sliceAt_string w T _ _ _ _ hT,this]) ht h
theorem KO.idxAg {cs:List Value} {len:Nat} {E:TypeId} {v:Value} (hx:ev G x=some (.agg cs.toArray)) (hy:ev G y=some (.int kk a)) (hT:P.underlying T=some (.array len E)) (hA:∀w,(isAgg E).run P w=.ok false w) (hs:∀w,(Go.sizeOf E).run P w=.ok 1 w) (ha:a=(i:Int)) (hi:i<len) (hv:cs[i]? =some v) (ht:Nat.blt t n=true)
 (h:KO P ops d Q n D w0 ((t,v)::G) L l):KO P ops d Q n D w0 G L ((k,⟨some t,.index T x y,ty,pos,af,none⟩)::l):=
 KO.val (fun a' w ha'=>by
  subst ha
  have h1:(0:Int)≤(i:Int)∧(i:Int)<(len:Int):=⟨by omega,by omega⟩
  have h2:cs.toArray[i]? =some v:=by simpa using hv
  simp[execOp,ha'.eval hx,ha'.eval hy,Instr.index,asIntOf,run_underlying hT,h1,hs w,part,hA w,hi,hv]
  ) ht h
end
theorem RdA.ofSL {α:Type} {w0 w:World} {L R:List HP} {E:TypeId} {cf:α→List Value} {sz:Nat} {xs:List α} {v:Value} (hsz:∀e,(cf e).length=sz) (hp:Pick L (SL E sz cf v xs) R) (hw:St w0 L w):RdA w sz cf v xs:=by
 obtain⟨a,cap,h1,h2,h3⟩:=RdS.of hsz hp w hw
 refine⟨a,cap,h1,fun i x hx=>?_⟩
 have hl:=(List.getElem?_eq_some_iff.1 hx).1
 obtain⟨g,rfl⟩:=h2 (by omega)
 exact⟨_,rfl,by rw[Addr.add_lit,Nat.zero_add];exact h3 g rfl i x hx⟩
end WB
/- strings.SplitSeq at a sep of one byte: the iterator -/
namespace Go.Proofs.YtjhogocabcdjbabGreatDoor
open Go Go.RowKit WB
theorem St.swapApp {w0 w:World} {A B:List HP} (h:St w0 (A++B) w):St w0 (B++A) w:=h.mapOwn fun _ x=>seps_append.2 (sep_comm (seps_append.1 x))
def itV (b4 b3 b5:Nat):Value:=.func (.func 274) #[] #[.pointer (some ⟨b4,0,none⟩),.pointer (some ⟨b3,0,none⟩),.pointer (some ⟨b5,0,none⟩)]
def itP (b4 b3 b5:Nat) (s sep:ByteArray):List HP:=[blk b3 (.cells [.string s].toArray 9 (0,0)),blk b4 (.cells [.string sep].toArray 9 (0,0)),blk b5 (.cells [.int .i64 0].toArray 3 (0,0))]
theorem seq1_e (w0:World) (L:List HP) (s sep:ByteArray):KE Tryz.prog 199 #[.string s,.string sep,.int .i64 0] w0 L (fun u M=> ∃b4 b3 b5,u=itV b4 b3 b5∧M=itP b4 b3 b5 s sep++L):=by
 refine KE.mk (n:=8) Tryz.func199 rfl Tryz.ntmps199 (by simp) ?_
 intro w hw
 refine Z3 ?_
 refine KO.box rfl rfl Y68 rfl ?_;intro b3
 refine KO.box rfl rfl Y68 rfl ?_;intro b4
 refine KO.box rfl rfl Y68 rfl ?_;intro b5
 refine Z135 ?_
 refine KO.mkc rfl rfl rfl ?_
 refine Z33 ?_
 refine KQ.ret1 rfl rfl (fun w' hs=>⟨_,_,rfl,⟨_,_,_,rfl,rfl⟩,hw.stack (M:=itP b4 b3 b5 s sep) (by unfold itP;exact hs.all Y3),hs.below⟩)
theorem seq_e (w0:World) (L:List HP) (s sep:ByteArray):KE Tryz.prog 113 #[.string s,.string sep] w0 L (fun u M=> ∃b4 b3 b5,u=itV b4 b3 b5∧M=itP b4 b3 b5 s sep++L):=by
 refine KE.mk (n:=8) Tryz.func113 rfl Tryz.ntmps113 (by simp) ?_
 intro w hw
 refine Z352 ?_
 refine KO.ce (cp:=[]) rfl rfl rfl Tryz.call199 rfl (seq1_e w _ s sep) ?_;rintro v' L' ⟨b4,b3,b5,rfl,rfl⟩
 refine Z33 ?_
 refine KQ.ret1 rfl rfl (fun w' hs=>⟨_,_,rfl,⟨_,_,_,rfl,rfl⟩,hw.stack (M:=itP b4 b3 b5 s sep) (by simpa using hs),hs.below⟩)
theorem index_e (w0:World) (L:List HP) (s:ByteArray) (c:UInt8):KE Tryz.prog 276 #[.string s,.string ⟨#[c]⟩] w0 L (fun u M=>u=.int .i64 (Lib.indexByte s.data.toList c)∧M=L):=
 KE.of_below fun w hw=>(Tryz.strings_Index_one s c w).mono fun e w' h=>⟨h.1,by rw[h.2];exact Below.refl _ _⟩
set_option maxRecDepth 100000 in
theorem iter_e (w0:World) (l:Nat) (c:UInt8) (s:ByteArray) (hsz:s.size≤4294967280) (b4 b3 b5:Nat) (J:Nat→List HP→Prop) (X:List HP→Prop) (hY:∀k p L,(pcs c s)[k]? =some p→J k L→KY Tryz.prog l (.string p) w0 L (J (k+1)) X) (L:List HP) (h0:J 0 L):
 KC Tryz.prog 274 #[.func (.yield l) #[] #[],.pointer (some ⟨b4,0,none⟩),.pointer (some ⟨b3,0,none⟩),.pointer (some ⟨b5,0,none⟩)] w0 (itP b4 b3 b5 s ⟨#[c]⟩++L) (fun v M=> ∃s' M',M=itP b4 b3 b5 s' ⟨#[c]⟩++M'∧(J (pcs c s).length M'∨X M')):=by
 unfold itP
 refine KC.mk (n:=52) Tryz.func274 rfl Tryz.ntmps274 (by simp) ?_
 refine Z53 ?_
 simp only[List.cons_append,List.nil_append]
 refine Z231 ?_
 refine Z118 ?_
 refine KO.lenS rfl Tryz.underlying9 rfl ?_
 refine Z246 ?_
 refine K.condF rfl (by rfl) ?_
 refine K.skip ?_
 repeat with_reducible refine KQ.next ?_
 refine K.seq ?_
 have hfin:∀r k,(pcs c s).drop k=pcs c r→Lib.indexByte r.data.toList c= -1→(pcs c s)[k]? =some r∧k+1=(pcs c s).length:=fun r k h1 h2=>by
  rw[pcs_miss h2]at h1
  have h3:(pcs c s)[k]? =some r:=by
   have :=congrArg (fun l=>l[0]?) h1
   simpa using this
  have h4:=congrArg List.length h1
  have h5:=(List.getElem?_eq_some_iff.1 h3).1
  simp at h4
  exact⟨h3,by omega⟩
 refine K.cut (fun y:Nat×ByteArray×List HP=>[(0,.func (.yield l) #[] #[]),(2,.pointer (some ⟨b3,0,none⟩))]) (fun y=>itP b4 b3 b5 y.2.1 ⟨#[c]⟩++y.2.2) (fun y=>J y.1 y.2.2∧(pcs c s)[y.1]? =some y.2.1∧y.1+1=(pcs c s).length) ?_ ?_
 ·refine K.block ?_
  refine K.loop (fun y:Nat×ByteArray×List HP=>[(0,.func (.yield l) #[] #[]),(1,.pointer (some ⟨b4,0,none⟩)),(2,.pointer (some ⟨b3,0,none⟩)),(3,.pointer (some ⟨b5,0,none⟩))]) (fun y=>itP b4 b3 b5 y.2.1 ⟨#[c]⟩++y.2.2)
   (fun y=>J y.1 y.2.2∧(pcs c s).drop y.1=pcs c y.2.1∧y.2.1.size≤4294967280) (fun y=>y.2.1.size) (0,s,L) ⟨h0,rfl,hsz⟩ ⟨rfl,rfl,rfl,rfl,trivial⟩ (fun _ h=>h) ?_
  rintro⟨k,r,M⟩ ⟨hJ,hd,hrs⟩
  dsimp only at hJ hd hrs ⊢
  simp only[itP,List.cons_append,List.nil_append]
  repeat(first|(with_reducible refine K.seq ?_)|(with_reducible refine K.block ?_))
  refine Z231 ?_
  refine Z133 ?_
  refine Z118 ?_
  refine KO.ce (cp:=[]) rfl rfl rfl Tryz.call276 rfl (index_e w0 _ r c) ?_;rintro v' L' ⟨rfl,rfl⟩
  refine Z28 ?_
  refine Z215 ?_
  refine K.condD rfl (fun h1=>?_) (fun h1=>?_)
  ·have h2:Lib.indexByte r.data.toList c= -1:=by have :=Lib.indexByte_ge r.data.toList c;omega
   obtain⟨h3,h4⟩:=hfin r k hd h2
   repeat(first|(with_reducible refine KQ.then_exit ?_)|(with_reducible refine KQ.blk_exit ?_)|(refine KQ.blk_pass rfl ?_)|(with_reducible refine K.exit ?_))
   exact KQ.mid (k,r,M) ⟨hJ,h3,h4⟩ ⟨rfl,rfl,trivial⟩ (fun _ h=>by simpa[itP]using h)
  ·obtain⟨i,hi⟩:∃i:Nat,Lib.indexByte r.data.toList c=i:=⟨(Lib.indexByte r.data.toList c).toNat,by omega⟩
   have hlt:=indexByte_lt hi
   have hp:=pcs_hit hi
   rw[hp]at hd
   have hk:(pcs c s)[k]? =some (r.extract 0 i):=by
    have :=congrArg (fun l=>l[0]?) hd
    simpa using this
   have hd2:(pcs c s).drop (k+1)=pcs c (r.extract (i+1) r.size):=by
    rw[←List.drop_drop,hd];rfl
   have hc1:(⟨#[c]⟩:ByteArray).size=1:=rfl
   rw[hi]
   refine Z250 ?_
   refine Z133 ?_
   refine Z1 ?_
   refine Z38 ?_
   refine Z23 ?_
   refine KO.strTo (i:=i) rfl rfl Tryz.underlying9 (by simp) (by omega) rfl ?_
   refine Z21 ?_
   refine K.regI ?_
   refine KOI.mv rfl rfl ?_
   refine KOI.mv rfl rfl ?_
   refine KOI.yieldT (N:=itP b4 b3 b5 r ⟨#[c]⟩) rfl rfl (hY k _ M hk hJ) (fun w hw=>St.swapApp hw) rfl (fun L' hL=>?_) (fun L' hL=>?_)
   ·refine KOI.not rfl rfl ?_
    refine KOI.nil ?_
    refine KQ.next ?_
    refine Z295 ?_
    refine Z102 ?_
    refine K.conv (fun w hw=>(St.swapApp hw:St w0 (itP b4 b3 b5 r ⟨#[c]⟩++L') w)) ?_
    simp only[itP,List.cons_append,List.nil_append]
    refine Z231 ?_
    refine Z133 ?_
    refine Z1 ?_
    refine Z118 ?_
    refine KO.lenS rfl Tryz.underlying9 rfl ?_
    refine KO.add rfl rfl (show(i:Int)+(⟨#[c]⟩:ByteArray).size=(i+1:Nat)by rw[hc1];rfl) (by omega) rfl ?_
    refine KO.strFrom (i:=i+1) rfl rfl Tryz.underlying9 rfl (by omega) rfl ?_
    refine KO.sto0 rfl rfl rfl Y68 Y46 Y68 Y21 Y68 ?_
    refine Z44 ?_
    refine KQ.round (k+1,r.extract (i+1) r.size,L') ⟨hL,hd2,by simp;omega⟩ Y61 ⟨rfl,rfl,rfl,rfl,trivial⟩ (fun _ h=>by simpa[itP]using h)
   ·refine KOI.not rfl rfl ?_
    refine KOI.nil ?_
    refine KQ.next ?_
    refine Z275 ?_
    repeat(first|(with_reducible refine KQ.then_ret ?_)|(with_reducible refine KQ.blk_ret ?_)|(with_reducible refine K.ret ?_))
    exact KQ.ret0 rfl (fun w' hs=>⟨_,_,rfl,⟨r,L',rfl,.inr hL⟩,St.swapApp hs⟩)
 ·rintro⟨k,r,M⟩ ⟨hJ,hk,hk2⟩
  dsimp only at hJ hk hk2 ⊢
  refine K.regI ?_
  refine KOI.mv rfl rfl ?_
  refine KOI.ld (b:=b3) (off:=0) (cs:=[.string r]) rfl Tryz.isAgg9 (by unfold itP;exact .head) rfl rfl ?_
  refine KOI.yieldT (N:=itP b4 b3 b5 r ⟨#[c]⟩) rfl rfl (hY k _ M hk hJ) (fun w hw=>St.swapApp hw) rfl (fun L' hL=>?_) (fun L' hL=>?_)
  ·refine KOI.nil ?_
   rw[hk2]at hL
   exact KQ.end0 rfl (fun w' hs=>⟨_,_,rfl,⟨r,L',rfl,.inl hL⟩,St.swapApp hs⟩)
  ·refine KOI.nil ?_
   exact KQ.end0 rfl (fun w' hs=>⟨_,_,rfl,⟨r,L',rfl,.inr hL⟩,St.swapApp hs⟩)
theorem St.swap3 {w0 w:World} {A B C:List HP} (h:St w0 (A++(B++C)) w):St w0 (B++(A++C)) w:=h.mapOwn fun _ x=>
 seps_append.2 (sep_mono (fun _ x=>x) (fun _ x=>seps_append.2 x) (sep_left (sep_mono (fun _ x=>x) (fun _ x=>seps_append.1 x) (seps_append.1 x))))
theorem St.dropApp {w0 w:World} {A B:List HP} (h:St w0 (A++B) w):St w0 B w:=(St.joins h).drop
theorem K.rangeSeq {Q:Exit→Act→World→Prop} {n:Nat} {D:List Deferred} {w0:World} {G2:ByteArray→Env} {G0:Env} {g:Operand} {p:Nat} {assign body:Code} {b4 b3 b5:Nat} {c:UInt8} {s:ByteArray} {L:List HP}
 (C:Nat→List HP→Prop) (X:List HP→Prop) (hg:ev G0 g=some (itV b4 b3 b5)) (hp:Nat.blt p n=true) (hsz:s.size≤4294967280) (h0:C 0 L)
 (ha:∀(l:Nat) (N:List HP) q,KR l Tryz.prog assign (Exit.then (MidI n [] w0 (fun _:Unit=>G2 q) (fun _=>N) (fun _=>True)) (fun _ _ _=>False)) n [] w0 ((p,.string q)::G0) N)
 (hb:∀k q M (l:Nat) (N:List HP) (RQ:Exit→Act→World→Prop),(pcs c s)[k]? =some q→C k M→(∀a w,¬RQ .outgrown a w)→(∀M' G',C (k+1) M'→KQ RQ .normal n [] w0 G' (M'++N))→(∀M' G',X M'→KQ RQ .ret n [] w0 G' (M'++N))→
  KR l Tryz.prog body RQ n [] w0 (G2 q) (M++N))
 (hdone:∀b M,C (pcs c s).length M→KQ Q .normal n (mkD b::D) w0 G0 (blk b (.deferred (some []))::M))
 (hstop:∀b M,X M→KQ Q .ret n (mkD b::D) w0 G0 (blk b (.deferred (some []))::M)):
 K Tryz.prog (.rangeFunc g #[p] assign body) Q n D w0 G0 (itP b4 b3 b5 s ⟨#[c]⟩++L):=by
 refine K.rangeFunc hg Tryz.call274 fun fn tm b l hk w hw=>?_
 have hY:∀k q L',(pcs c s)[k]? =some q→(∃M,C k M∧L'=blk l (.loop ⟨.ready,none,fn,tm,#[p],assign,body,b⟩)::blk b (.deferred (some []))::M)→
  KY Tryz.prog l (.string q) w0 L' (fun L'=> ∃M,C (k+1) M∧L'=blk l (.loop ⟨.ready,none,fn,tm,#[p],assign,body,b⟩)::blk b (.deferred (some []))::M)
   (fun L'=> ∃M,X M∧L'=blk l (.loop ⟨.done,some .ret,fn,tm,#[p],assign,body,b⟩)::blk b (.deferred (some []))::M):=by
  rintro k q _ hq ⟨M,hM,rfl⟩
  refine KY.mk hk hp fun N=>?_
  intro a w' ha' hw'
  refine Go.wpIn_mono (ha l _ q a w' ha' hw') ?_
  rintro e a2 w2 hh
  cases e with
  |normal=>
   obtain⟨_,_,ha2,hw2⟩:=hh
   refine KQ.begin (G:=G2 q) .head rfl ?_ a2 w2 ha2 hw2
   refine KR.conv (L':=M++(blk l (.loop ⟨.busy,none,fn,tm,#[p],assign,body,b⟩)::blk b (.deferred (some []))::N)) (fun w hw=>St.swap3 (A:=[blk l (.loop ⟨.busy,none,fn,tm,#[p],assign,body,b⟩),blk b (.deferred (some []))]) hw) ?_
   refine hb k q M l _ _ hq hM (fun _ _ h=>h) (fun M' G' hM'=>?_) (fun M' G' hM'=>?_)
   ·refine Z293 ?_
    refine KQ.goes .head fun w hw=>.inl ⟨rfl,_,⟨M',hM',rfl⟩,hw⟩
   ·refine Z293 ?_
    refine KQ.leaves .head fun w hw=>.inr ⟨rfl,_,⟨M',hM',rfl⟩,hw⟩
  |_=>exact hh.elim
 have hw2:=St.swap3 (A:=[blk l (.loop ⟨.ready,none,fn,tm,#[p],assign,body,b⟩),blk b (.deferred (some []))]) (B:=itP b4 b3 b5 s ⟨#[c]⟩) (C:=L) hw
 refine((iter_e w0 l c s hsz b4 b3 b5 (fun k L'=> ∃M,C k M∧L'=blk l (.loop ⟨.ready,none,fn,tm,#[p],assign,body,b⟩)::blk b (.deferred (some []))::M)
  (fun L'=> ∃M,X M∧L'=blk l (.loop ⟨.done,some .ret,fn,tm,#[p],assign,body,b⟩)::blk b (.deferred (some []))::M) hY _ ⟨L,h0,rfl⟩) w hw2).mono ?_
 rintro e w' ⟨v,L',rfl,⟨s',M',rfl,(⟨M,hM,rfl⟩|⟨M,hM,rfl⟩)⟩,hs⟩
 ·refine⟨_,itP b4 b3 b5 s' ⟨#[c]⟩++M,.ready,none,rfl,(by decide),St.swap3 (B:=[blk l (.loop ⟨.ready,none,fn,tm,#[p],assign,body,b⟩),blk b (.deferred (some []))]) hs,?_⟩
  exact KQ.conv (fun w hw=>St.dropApp (St.swap3 (A:=[blk b (.deferred (some []))]) (B:=itP b4 b3 b5 s' ⟨#[c]⟩) hw)) (hdone b M hM)
 ·refine⟨_,itP b4 b3 b5 s' ⟨#[c]⟩++M,.done,some .ret,rfl,(by decide),St.swap3 (B:=[blk l (.loop ⟨.done,some .ret,fn,tm,#[p],assign,body,b⟩),blk b (.deferred (some []))]) hs,?_⟩
  exact K.ret (KQ.conv (fun w hw=>St.dropApp (St.swap3 (A:=[blk b (.deferred (some []))]) (B:=itP b4 b3 b5 s' ⟨#[c]⟩) hw)) (hstop b M hM))
end Go.Proofs.YtjhogocabcdjbabGreatDoor
/- messages' text read: plain -/
namespace WB
open Go
def numO (s:ByteArray):Option Int:=match Lib.atoiAll s.data.toList with| .ok v=>some v|_=>none
def parse1 (p:ByteArray):Option Ms:=
 match pcs 32 p with
 |[a,b,c,d,e]=>match numO a,numO b,numO e with|some x,some y,some z=>some ⟨x,y,c,d,z⟩|_,_,_=>none
 |_=>none
def parseL:List ByteArray→Option (List Ms)
 |[]=>some []
 |p::ps=>match parse1 p,parseL ps with|some m,some ms=>some (m::ms)|_,_=>none
def mrd (s:ByteArray):Option (List Ms):=
 if s=⟨#[]⟩then some []else match parseL (pcs 43 s)with|none=>none|some xs=>if badI xs=none∧writeS xs=s then some xs else none
theorem parseL_snoc {p:ByteArray}:∀{ps:List ByteArray} {xs:List Ms},parseL ps=some xs→parseL (ps++[p])=(parse1 p).map fun m=>xs++[m]
 |[],xs,h=>by
  simp only[parseL,Option.some.injEq]at h;subst h
  simp only[List.nil_append,parseL]
  cases parse1 p<;>rfl
 |q::ps,xs,h=>by
  simp only[parseL]at h
  cases h1:parse1 q with
  |none=>rw[h1]at h;simp at h
  |some m=>
   rw[h1]at h
   cases h2:parseL ps with
   |none=>rw[h2]at h;simp at h
   |some ms=>
    rw[h2]at h
    simp only[Option.some.injEq]at h;subst h
    have ih:=parseL_snoc (p:=p) h2
    simp only[List.cons_append,parseL,h1,ih]
    cases parse1 p<;>rfl
theorem parseL_none {p:ByteArray} (hp:parse1 p=none):∀{ps:List ByteArray},p∈ps→parseL ps=none
 |[],h=>by cases h
 |q::ps,h=>by
  rcases List.mem_cons.1 h with rfl|h
  ·simp only[parseL,hp]
  ·simp only[parseL,parseL_none hp h]
   cases parse1 q<;>rfl
theorem parseL_all:∀{xs:List Ms} {f:Ms→ByteArray},(∀m∈xs,parse1 (f m)=some m)→parseL (xs.map f)=some xs
 |[],_,_=>rfl
 |m::xs,f,h=>by
  simp only[List.map_cons,parseL,h m (by simp),parseL_all (fun x hx=>h x (List.mem_cons_of_mem _ hx))]
theorem parseL_len:∀{ps:List ByteArray} {xs:List Ms},parseL ps=some xs→xs.length=ps.length
 |[],xs,h=>by simp only[parseL,Option.some.injEq]at h;subst h;rfl
 |q::ps,xs,h=>by
  simp only[parseL]at h
  cases h1:parse1 q with
  |none=>rw[h1]at h;simp at h
  |some m=>
   rw[h1]at h
   cases h2:parseL ps with
   |none=>rw[h2]at h;simp at h
   |some ms=>
    rw[h2]at h
    simp only[Option.some.injEq]at h;subst h
    simp[parseL_len h2]
theorem let_free {s:ByteArray} (h:allLet s=true):∀b∈s.data.toList,b≠32∧b≠43:=fun b hb=>by
 unfold allLet at h
 have :=List.all_eq_true.1 h b hb
 constructor<;>(rintro rfl;revert this;decide)
theorem itoa_free {n:Int}:∀b∈(itoaS n).data.toList,b≠32∧b≠43:=fun b hb=>by
 have :=itoa_mem b hb
 constructor<;>(rintro rfl;revert this;decide)
theorem body_let {s:ByteArray} (h:bodyB s=true):allLet s=true:=by unfold bodyB lettersB at h;simp at h;exact h.2.2
theorem word_let {s:ByteArray} (h:wordB s=true):allLet s=true:=by unfold wordB lettersB at h;simp at h;exact h.2.2
theorem msgS_join (m:Ms):msgS m=joinS [itoaS m.id,itoaS m.pri,m.body,m.queue,itoaS m.house] sp:=by
 rw[joinS_cons2,joinS_cons2,joinS_cons2,joinS_two]
 unfold msgS
 simp only[cat_assoc]
theorem numO_itoa {n:Int} (h:intB n):numO (itoaS n)=some n:=by unfold numO;rw[atoi_itoa h]
theorem parse_msg {m:Ms} (h:msRight m=true):parse1 (msgS m)=some m:=by
 obtain⟨h1,h2,h3,h4,h5,h6,h7,h8⟩:=msRight_parts h
 have hb:=let_free (body_let h5)
 have hq:=let_free (word_let h6)
 have :pcs 32 (msgS m)=[itoaS m.id,itoaS m.pri,m.body,m.queue,itoaS m.house]:=by
  rw[msgS_join]
  refine pcs_join (by simp) fun x hx b hb'=>?_
  simp only[List.mem_cons,List.not_mem_nil,or_false]at hx
  rcases hx with rfl|rfl|rfl|rfl|rfl
  ·exact(itoa_free b hb').1
  ·exact(itoa_free b hb').1
  ·exact(hb b hb').1
  ·exact(hq b hb').1
  ·exact(itoa_free b hb').1
 unfold parse1
 rw[this]
 simp only[numO_itoa (n:=m.id) ⟨by omega,by omega⟩,numO_itoa (n:=m.pri) ⟨by omega,by omega⟩,numO_itoa (n:=m.house) ⟨by omega,by omega⟩]
theorem mem_joinS {sep:ByteArray}:∀{l:List ByteArray} {b:UInt8},b∈(joinS l sep).data.toList→b∈sep.data.toList∨∃x∈l,b∈x.data.toList
 |[],b,h=>by rw[joinS_nil]at h;simp at h
 |[x],b,h=>by rw[joinS_one]at h;exact .inr ⟨x,by simp,h⟩
 |x::y::r,b,h=>by
  rw[joinS_cons2]at h
  simp only[ByteArray.data_append,Array.toList_append,List.mem_append]at h
  rcases h with(h|h)|h
  ·exact .inr ⟨x,by simp,h⟩
  ·exact .inl h
  ·rcases mem_joinS h with h|⟨z,hz,h⟩
   ·exact .inl h
   ·exact .inr ⟨z,List.mem_cons_of_mem _ hz,h⟩
theorem msg_plus {m:Ms} (h:msRight m=true):∀b∈(msgS m).data.toList,b≠43:=fun b hb=>by
 obtain⟨h1,h2,h3,h4,h5,h6,h7,h8⟩:=msRight_parts h
 rw[msgS_join]at hb
 rcases mem_joinS hb with hb|⟨x,hx,hb⟩
 ·have :b=32:=by simpa[sp]using hb
  subst this;decide
 ·simp only[List.mem_cons,List.not_mem_nil,or_false]at hx
  rcases hx with rfl|rfl|rfl|rfl|rfl
  ·exact(itoa_free b hb).2
  ·exact(itoa_free b hb).2
  ·exact(let_free (body_let h5) b hb).2
  ·exact(let_free (word_let h6) b hb).2
  ·exact(itoa_free b hb).2
theorem parse_write {xs:List Ms} (h:badI xs=none) (h0:xs≠[]):parseL (pcs 43 (writeS xs))=some xs:=by
 have hr:=badI_all h
 have :pcs 43 (writeS xs)=xs.map msgS:=by
  unfold writeS
  refine pcs_join Y51 fun x hx=>?_
  obtain⟨m,hm,rfl⟩:=List.mem_map.1 hx
  exact msg_plus (hr m hm)
 rw[this]
 exact parseL_all fun m hm=>parse_msg (hr m hm)
theorem msgS_ne (m:Ms):1≤(msgS m).size:=by
 unfold msgS
 simp only[ByteArray.size_append]
 have :sp.size=1:=rfl
 omega
theorem writeS_ne {xs:List Ms} (h0:xs≠[]):writeS xs≠⟨#[]⟩:=by
 cases xs with
 |nil=>exact absurd rfl h0
 |cons m r=>
  intro h
  have h1:=congrArg ByteArray.size h
  have h2:=msgS_ne m
  unfold writeS at h1
  rw[List.map_cons]at h1
  cases r with
  |nil=>rw[List.map_nil,joinS_one]at h1;have :(⟨#[]⟩:ByteArray).size=0:=rfl;omega
  |cons m' r=>rw[List.map_cons,joinS_cons2]at h1;simp only[ByteArray.size_append]at h1;have :(⟨#[]⟩:ByteArray).size=0:=rfl;omega
theorem mrd_write {xs:List Ms} (h:badI xs=none):mrd (writeS xs)=some xs:=by
 unfold mrd
 by_cases h0:xs=[]
 ·subst h0;rfl
 ·rw[if_neg (writeS_ne h0),parse_write h h0]
  simp[h]
theorem mrd_some {s:ByteArray} {xs:List Ms} (h:mrd s=some xs):badI xs=none∧writeS xs=s:=by
 unfold mrd at h
 split at h
 ·rename_i h0
  simp only[Option.some.injEq]at h;subst h;exact⟨rfl,h0.symm⟩
 ·split at h
  ·cases h
  ·split at h
   ·rename_i h1
    simp only[Option.some.injEq]at h;subst h;exact h1
   ·cases h
theorem pieces_size (c:UInt8):∀l,∀p∈pieces c l,p.length≤l.length
 |[],p,hp=>by simp[pieces]at hp;subst hp;exact Nat.le_refl _
 |a::l,p,hp=>by
  by_cases h:a=c
  ·subst h;rw[pieces_eq]at hp
   rcases List.mem_cons.1 hp with rfl|hp
   ·simp
   ·have :=pieces_size a l p hp;simp;omega
  ·obtain⟨q,qs,e⟩:=List.exists_cons_of_ne_nil (pieces_ne c l)
   rw[pieces_neq h e]at hp
   rcases List.mem_cons.1 hp with rfl|hp
   ·have :=pieces_size c l q (by rw[e];simp);simp;omega
   ·have :=pieces_size c l p (by rw[e];simp[hp]);simp;omega
theorem pcs_size {c:UInt8} {s p:ByteArray} (h:p∈pcs c s):p.size≤s.size:=by
 unfold pcs at h
 obtain⟨q,hq,rfl⟩:=List.mem_map.1 h
 have :=pieces_size c _ q hq
 rw[ba_size,ba_size,data_toB];exact this
theorem parse1_size {p:ByteArray} {m:Ms} (h:parse1 p=some m):m.body.size≤p.size∧m.queue.size≤p.size:=by
 unfold parse1 at h
 split at h
 ·rename_i a b c d e hp
  split at h
  ·simp only[Option.some.injEq]at h;subst h
   exact⟨pcs_size (c:=32) (by rw[hp];simp),pcs_size (c:=32) (by rw[hp];simp)⟩
  ·cases h
 ·cases h
theorem parseL_size {B:Nat}:∀{ps:List ByteArray} {xs:List Ms},parseL ps=some xs→(∀p∈ps,p.size≤B)→∀m∈xs,m.body.size≤B∧m.queue.size≤B
 |[],xs,h,_,m,hm=>by simp only[parseL,Option.some.injEq]at h;subst h;cases hm
 |q::ps,xs,h,hB,m,hm=>by
  simp only[parseL]at h
  cases h1:parse1 q with
  |none=>rw[h1]at h;simp at h
  |some m'=>
   rw[h1]at h
   cases h2:parseL ps with
   |none=>rw[h2]at h;simp at h
   |some ms=>
    rw[h2]at h
    simp only[Option.some.injEq]at h;subst h
    rcases List.mem_cons.1 hm with rfl|hm
    ·have :=parse1_size h1;have :=hB q (by simp);omega
    ·exact parseL_size h2 (fun p hp=>hB p (List.mem_cons_of_mem _ hp)) m hm
theorem pcs_len_le (c:UInt8) (s:ByteArray):(pcs c s).length≤s.size+1:=by
 unfold pcs;rw[List.length_map,pieces_len];have :=List.count_le_length (a:=c) (l:=s.data.toList);rw[ba_size];omega
theorem right_size {m:Ms} (h:msRight m=true):m.body.size≤maxLen∧m.queue.size≤maxLen:=by
 obtain⟨h1,h2,h3,h4,h5,h6,h7,h8⟩:=msRight_parts h
 have a4:m.body.size≤12:=by unfold bodyB lettersB at h5;simp at h5;omega
 have a5:m.queue.size≤8:=by unfold wordB lettersB at h6;simp at h6;omega
 unfold maxLen;omega
end WB
/- what msg.Read calls: strings.Split, strconv.Atoi; plain.Same of lists that lie anywhere -/
namespace Go.Proofs.YtjhogocabcdjbabGreatDoor
open Go Go.RowKit WB
def Lim (w:World):Prop:=(∃m,w.cell? ⟨1,0,none⟩=some (.int .i64 m))∧(∃t p,w.cell? ⟨2,0,none⟩=some (.iface t p))∧(∃t p,w.cell? ⟨3,0,none⟩=some (.iface t p))
theorem Lim.ext {w w':World} (h:Lim w) (e:Ext w w'):Lim w':=by
 obtain⟨⟨m,h1⟩,⟨t,p,h2⟩,⟨t',p',h3⟩⟩:=h
 exact⟨⟨m,e.cell h1⟩,⟨t,p,e.cell h2⟩,⟨t',p',e.cell h3⟩⟩
theorem strS_blkM {w0 w:World} {L:List HP} {b k:Nat} {xs:List ByteArray} {vs:List Value} (h:St w0 (blk b (.cells vs.toArray 9 (0,0))::L) w) (hvs:vs=xs.map Value.string) (hk:xs.length=k) (hle:k≤1000000000):St w0 (strS (.slice (some ⟨b,0,none⟩) k k) xs::L) w:=by
 subst hk
 have hf:xs.flatMap strC=vs:=by rw[hvs];clear hvs h hle;induction xs with
  |nil=>rfl
  |cons a l ih=>rw[List.flatMap_cons,ih];rfl
 refine h.osl_mk (Nat.le_refl _) Y35 ?_ ?_
 ·rw[hvs];simp
 ·rw[hf,hvs,Nat.mul_one];exact List.take_of_length_le (by simp)
theorem split_e (w0:World) (L:List HP) (s:ByteArray) (c:UInt8) (hs:s.size≤100000000) (hM:Lim w0):KE Tryz.prog 133 #[.string s,.string ⟨#[c]⟩] w0 L (fun u M=> ∃b,u=.slice (some ⟨b,0,none⟩) (pcs c s).length (pcs c s).length∧M=strS (.slice (some ⟨b,0,none⟩) (pcs c s).length (pcs c s).length) (pcs c s)::L):=fun w hw=>by
 obtain⟨⟨m,hm⟩,_⟩:=hM.ext (Ext.of_below hw.below)
 refine(Tryz.strings_Split s ⟨#[c]⟩ m w (by omega) hm (Nat.le_refl _)).mono ?_
 rintro e w' ⟨rfl,rfl⟩
 rw[pcs_split,←pcs_len]
 have hl:(pcs c s).length≤s.size+1:=by unfold pcs;rw[List.length_map,pieces_len];have :=List.count_le_length (a:=c) (l:=s.data.toList);rw[ba_size];omega
 exact⟨_,_,rfl,⟨w.heap.size,rfl,rfl⟩,strS_blkM (hw.alloc _) rfl rfl (by omega),Below.alloc (Below.refl _ w) (Nat.le_refl _) _⟩
def atoiR (s:ByteArray) (u:Value):Prop:=match numO s with|some v=>u=.tuple #[.int .i64 v,.nilIface]|none=> ∃x T y,u=.tuple #[.int .i64 x,.iface T y]
theorem atoi_e (w0:World) (L:List HP) (s:ByteArray) (hs:s.size≤100000000) (hM:Lim w0):KE Tryz.prog 136 #[.string s] w0 L (fun u M=>atoiR s u∧M=L):=fun w hw=>by
 obtain⟨_,⟨t,p,h2⟩,⟨t',p',h3⟩⟩:=hM.ext (Ext.of_below hw.below)
 unfold atoiR
 cases h:Lib.atoiAll s.data.toList with
 |ok v=>
  have hn:numO s=some v:=by unfold numO;rw[h]
  refine(Tryz.strconv_Atoi_ok s (by omega) v h w).mono ?_
  rintro e w' ⟨rfl,hw'⟩
  have hb:Below w.heap.size w w':=by
   rcases hw' with rfl|⟨t,rfl⟩
   ·exact Below.refl _ _
   ·exact Lib.bytesWorld_below _ _ _
  exact⟨_,_,rfl,⟨by rw[hn],rfl⟩,hw.below_step hb,hb⟩
 |«syntax»=>
  have hn:numO s=none:=by unfold numO;rw[h]
  refine(Tryz.strconv_Atoi_syntax s (by omega) h _ w h2 (.inr ⟨t,p,rfl⟩)).mono ?_
  rintro e w' ⟨N,rfl,_,_,hb⟩
  exact⟨_,_,rfl,⟨by rw[hn];exact⟨_,_,_,rfl⟩,rfl⟩,hw.below_step hb,hb⟩
 |range=>
  have hn:numO s=none:=by unfold numO;rw[h]
  refine(Tryz.strconv_Atoi_range s (by omega) h _ w h3 (.inr ⟨t',p',rfl⟩)).mono ?_
  rintro e w' ⟨N,rfl,_,_,hb⟩
  exact⟨_,_,rfl,⟨by rw[hn];exact⟨_,_,_,rfl⟩,rfl⟩,hw.below_step hb,hb⟩
end Go.Proofs.YtjhogocabcdjbabGreatDoor
/- msg.Read: the walk -/
namespace Go.Proofs.YtjhogocabcdjbabGreatDoor
open Go Go.RowKit WB
def MrR (L:List HP) (s:ByteArray) (u:Value) (M:List HP):Prop:=
 match mrd s with
 |some xs=> ∃v,u=.tuple #[v,.nilIface]∧M=SL 44 5 msC v xs::L
 |none=>u=.tuple #[.slice none 0 0,errV 70 3]∧M=L
def arr5 (x y z:Int):Nat→List Value
 |0=>[.int .i64 0,.int .i64 0,.int .i64 0,.int .i64 0,.int .i64 0]
 |1=>[.int .i64 x,.int .i64 0,.int .i64 0,.int .i64 0,.int .i64 0]
 |2=>[.int .i64 x,.int .i64 y,.int .i64 0,.int .i64 0,.int .i64 0]
 |_=>[.int .i64 x,.int .i64 y,.int .i64 0,.int .i64 0,.int .i64 z]
def rdP (b4 b3 b2:Nat) (v e:Value) (xs:List Ms):List HP:=[blk b4 (.cells [v].toArray 49 (0,0)),blk b3 (.cells [e].toArray 31 (0,0)),blk b2 (.cells [.slice none 0 0].toArray 49 (0,0)),SL 44 5 msC v xs]
def rdC (s:ByteArray) (b4 b3 b2:Nat) (k:Nat) (M:List HP):Prop:= ∃v xs,M=rdP b4 b3 b2 v .nilIface xs∧parseL ((pcs 43 s).take k)=some xs
def rdX (s:ByteArray) (b4 b3 b2:Nat) (M:List HP):Prop:=(∃v xs,M=rdP b4 b3 b2 v (errV 70 3) xs)∧parseL (pcs 43 s)=none
theorem msr_info:(Tryz.prog.info? 44).map (fun i=>(i.zero,i.size,i.bytes))=some (some (Value.agg #[.int .i64 0,.int .i64 0,.string ⟨#[]⟩,.string ⟨#[]⟩,.int .i64 0]),5,56):=by kernel_rfl
set_option maxRecDepth 100000 in
set_option maxHeartbeats 4000000 in
theorem mread_e (w0:World) (L:List HP) (s:ByteArray) (hs:s.size≤90000) (hT0:Tab w0) (hM0:Lim w0):KE Tryz.prog 160 #[.string s] w0 L (MrR L s):=by
 refine KE.mkM (n:=74) Tryz.func160 rfl Tryz.ntmps160 (by simp) ?_
 intro w hw
 have hT:=hT0.ext (Ext.of_below hw.below)
 have hM:=hM0.ext (Ext.of_below hw.below)
 unfold MrR
 refine Z3 ?_
 refine KO.alloc rfl Tryz.zeroValue49 Y68 rfl ?_;intro b2
 refine KO.alloc rfl Tryz.zeroValue31 Y68 rfl ?_;intro b3
 refine Z0 ?_
 by_cases h0:s=⟨#[]⟩
 ·have e0:mrd s=some []:=by unfold mrd;rw[if_pos h0]
  rw[e0]
  refine Z8 ?_
  refine Z266 ?_
  refine Z2 ?_
  refine K.condT rfl Y51 ?_
  refine Z3 ?_
  refine Z90 ?_
  refine Z4 ?_
  refine KQ.retM2C rfl rfl rfl Tryz.isAgg49 Tryz.isAgg31 Y11 Y21 (fun w' hs=>⟨_,_,rfl,⟨_,rfl,rfl⟩,?_,hs.below⟩)
  exact SL_nil (hw.below_step hs.below)
 refine Z8 ?_
 refine Z266 ?_
 refine Z2 ?_
 refine K.condF rfl Y51 ?_
 refine Z250 ?_
 refine KO.alloc rfl Tryz.zeroValue49 Y68 rfl ?_;intro b4
 refine Z348 ?_
 refine KO.ce (cp:=[]) rfl rfl rfl Tryz.call113 rfl (seq_e w _ s ⟨#[43]⟩) ?_;rintro v' L' ⟨i4,i3,i5,rfl,rfl⟩
 refine KO.nil ?_
 refine KQ.next ?_
 refine K.block ?_
 refine K.conv (L':=itP i4 i3 i5 s ⟨#[43]⟩++rdP b4 b3 b2 (.slice none 0 0) .nilIface []) (fun w hw=>?_) ?_
 ·simp only[rdP,itP,List.cons_append,List.nil_append]at hw ⊢
  exact(SL_nil hw).all Y3
 have hlen:(pcs 43 s).length≤s.size+1:=by unfold pcs;rw[List.length_map,pieces_len];have :=List.count_le_length (a:=43) (l:=s.data.toList);rw[ba_size];omega
 refine K.rangeSeq (rdC s b4 b3 b2) (rdX s b4 b3 b2) (G2:=fun q=>[(5,.string q),(0,.string s),(2,.pointer (some ⟨b2,0,none⟩)),(3,.pointer (some ⟨b3,0,none⟩)),(4,.pointer (some ⟨b4,0,none⟩))]) rfl rfl (by omega) ⟨_,_,rfl,rfl⟩ ?_ ?_ ?_ ?_
 ·intro l N q
  refine KR.reg Y62 (fun a w h=>by exact h) ?_
  refine Z144 ?_
  exact KQ.mid () trivial ⟨rfl,rfl,rfl,rfl,rfl,trivial⟩ (fun _ h=>h)
 ·rintro k q M l N RQ hq ⟨v,xs,rfl,hxs⟩ hno hgo hret
  have hxl:xs.length<100000:=by have :=parseL_len hxs;rw[List.length_take]at this;omega
  have hqs:q.size≤90000:=by have :=pcs_size (List.mem_of_getElem? hq);omega
  simp only[rdP,List.cons_append,List.nil_append]
  repeat(first|(with_reducible refine KR.seq ?_)|(with_reducible refine KR.block ?_))
  refine Z318 ?_
  refine KO.ce (cp:=[]) rfl rfl rfl Tryz.call133 rfl (split_e w _ q 32 (by omega) hM) ?_;rintro v' L' ⟨bq,rfl,rfl⟩
  refine Z302 ?_
  by_cases h5:(pcs 32 q).length=5
  case neg=>
   refine Z318 ?_
   refine Z91 ?_
   refine Z142 ?_
   refine KR.condT rfl Y61 ?_
   refine Z157 ?_
   refine Z263 ?_
   refine KO.nil ?_
   refine Z78 ?_
   refine hret _ _ ⟨⟨_,_,rfl⟩,parseL_none (p:=q) ?_ (List.mem_of_getElem? hq)⟩
   unfold parse1
   split
   ·rename_i h;rw[h]at h5;exact absurd rfl h5
   ·rfl
  refine Z318 ?_
  refine Z91 ?_
  refine Z142 ?_
  refine KR.condF rfl Y61 ?_
  repeat(first|(with_reducible refine KR.seq ?_)|(with_reducible refine KQ.nextR ?_)|(with_reducible refine KR.skip ?_))
  obtain⟨wa,wb,wc,wd,we,hws⟩:∃wa wb wc wd we,pcs 32 q=[wa,wb,wc,wd,we]:=by
   generalize pcs 32 q=l at h5
   match l,h5 with
   |[a,b,c,d,e],_=>exact⟨a,b,c,d,e,rfl⟩
  have hwz:∀x∈[wa,wb,wc,wd,we],x.size≤100000000:=fun x hx=>by have :=pcs_size (c:=32) (s:=q) (p:=x) (by rw[hws];exact hx);omega
  rw[hws]
  refine Z35 ?_
  refine KO.alloc rfl Tryz.zeroValue333 Y68 rfl ?_;intro b7
  refine Z37 ?_
  refine Z35 ?_
  refine KO.bld rfl (by intro w;go_simp;rfl) rfl ?_
  refine Z61 ?_
  repeat(first|(with_reducible refine KQ.nextR ?_)|(with_reducible refine KR.block ?_))
  obtain⟨x,hx⟩:∃x,x=(numO wa).getD 0:=⟨_,rfl⟩
  obtain⟨y,hy⟩:∃x,x=(numO wb).getD 0:=⟨_,rfl⟩
  obtain⟨z,hz⟩:∃x,x=(numO we).getD 0:=⟨_,rfl⟩
  refine KR.loop (fun i:Nat=>[(26,.int .i64 (i:Nat)),(25,.agg [.int .i64 0,.int .i64 1,.int .i64 4].toArray),(7,.pointer (some ⟨b7,0,none⟩)),(6,.slice (some ⟨bq,0,none⟩) 5 5),(5,.string q),(0,.string s),(2,.pointer (some ⟨b2,0,none⟩)),(3,.pointer (some ⟨b3,0,none⟩)),(4,.pointer (some ⟨b4,0,none⟩))])
   (fun i=>blk b7 (.cells (arr5 x y z i).toArray 333 (0,0))::strS (.slice (some ⟨bq,0,none⟩) 5 5) [wa,wb,wc,wd,we]::(rdP b4 b3 b2 v .nilIface xs++N))
   (fun i=>i≤3∧(0<i→numO wa=some x)∧(1<i→numO wb=some y)∧(2<i→numO we=some z)) (fun i=>3-i) 0
   ⟨by omega,fun h=>by omega,fun h=>by omega,fun h=>by omega⟩ ⟨rfl,rfl,rfl,rfl,rfl,rfl,rfl,rfl,rfl,trivial⟩ (fun w hw=>hw.all Y30) ?_
  rintro i ⟨hi,hp1,hp2,hp3⟩
  have hcase:i=0∨i=1∨i=2∨i=3:=by omega
  simp only[rdP,List.cons_append,List.nil_append]
  rcases hcase with rfl|rfl|rfl|rfl
  ·
   refine Z157 ?_
   refine Z31 ?_
   refine Z37 ?_
   refine Z137 ?_
   refine Z35 ?_
   refine KO.idxAg (cs:=[.int .i64 0,.int .i64 1,.int .i64 4]) (i:=0) rfl rfl Tryz.underlying334 Tryz.isAgg3 Tryz.sizeOf3 rfl (by decide) rfl rfl ?_
   refine Z302 ?_
   cases hn:numO wa with
   |none=>
    refine Z345 ?_
    refine Z208 ?_
    refine KO.ce (cp:=[]) rfl rfl rfl Tryz.call136 rfl (atoi_e w _ wa (hwz wa (by simp)) hM) ?_;rintro v' L' ⟨hR,rfl⟩;unfold atoiR at hR;rw[hn]at hR;obtain⟨xx,TT,yy,rfl⟩:=hR
    refine Z64 ?_
    refine Z302 ?_
    refine Z318 ?_
    refine Z227 ?_
    refine Z142 ?_
    refine KR.condT rfl rfl ?_
    refine Z157 ?_
    refine Z263 ?_
    refine KO.nil ?_
    refine Z78 ?_
    refine hret _ _ ⟨⟨_,_,rfl⟩,parseL_none (p:=q) ?_ (List.mem_of_getElem? hq)⟩
    unfold parse1;rw[hws];simp only[];rw[hn]
    all_goals (cases numO wa<;>cases numO wb<;>cases numO we<;>rfl)
   |some vv=>
    have hvx:vv=x:=by rw[hx,hn];rfl
    refine Z345 ?_
    refine Z208 ?_
    refine KO.ce (cp:=[]) rfl rfl rfl Tryz.call136 rfl (atoi_e w _ wa (hwz wa (by simp)) hM) ?_;rintro v' L' ⟨hR,rfl⟩;unfold atoiR at hR;rw[hn]at hR;subst hR
    refine Z64 ?_
    refine Z302 ?_
    refine Z318 ?_
    refine Z97 ?_
    refine Z142 ?_
    refine Z204 ?_
    refine Z305 ?_
    refine KO.idxA (i:=0) rfl rfl Tryz.runUnderlying333 Tryz.sizeOf3 rfl (by decide) rfl ?_
    refine KO.stAt (i:=0) rfl rfl rfl Y68 Y45 rfl Y21 (by rfl) (by simp[arr5]) ?_
    refine Z209 ?_
    refine Z35 ?_
    refine Z23 ?_
    refine Z61 ?_
    subst hvx
    refine KQ.round 1 ⟨by omega,fun h=>?_,fun h=>?_,fun h=>?_⟩ (by decide) ⟨rfl,rfl,rfl,rfl,rfl,rfl,rfl,rfl,rfl,trivial⟩ (fun w hw=>hw.all Y30)
    all_goals first|omega|rfl
  ·
   refine Z157 ?_
   refine Z31 ?_
   refine Z37 ?_
   refine Z137 ?_
   refine Z35 ?_
   refine KO.idxAg (cs:=[.int .i64 0,.int .i64 1,.int .i64 4]) (i:=1) rfl rfl Tryz.underlying334 Tryz.isAgg3 Tryz.sizeOf3 rfl (by decide) rfl rfl ?_
   refine Z302 ?_
   cases hn:numO wb with
   |none=>
    refine Z305 ?_
    refine Z222 ?_
    refine KO.ce (cp:=[]) rfl rfl rfl Tryz.call136 rfl (atoi_e w _ wb (hwz wb (by simp)) hM) ?_;rintro v' L' ⟨hR,rfl⟩;unfold atoiR at hR;rw[hn]at hR;obtain⟨xx,TT,yy,rfl⟩:=hR
    refine Z64 ?_
    refine Z302 ?_
    refine Z318 ?_
    refine Z227 ?_
    refine Z142 ?_
    refine KR.condT rfl rfl ?_
    refine Z157 ?_
    refine Z263 ?_
    refine KO.nil ?_
    refine Z78 ?_
    refine hret _ _ ⟨⟨_,_,rfl⟩,parseL_none (p:=q) ?_ (List.mem_of_getElem? hq)⟩
    unfold parse1;rw[hws];simp only[];rw[hn]
    all_goals (cases numO wa<;>cases numO wb<;>cases numO we<;>rfl)
   |some vv=>
    have hvx:vv=y:=by rw[hy,hn];rfl
    refine Z305 ?_
    refine Z222 ?_
    refine KO.ce (cp:=[]) rfl rfl rfl Tryz.call136 rfl (atoi_e w _ wb (hwz wb (by simp)) hM) ?_;rintro v' L' ⟨hR,rfl⟩;unfold atoiR at hR;rw[hn]at hR;subst hR
    refine Z64 ?_
    refine Z302 ?_
    refine Z318 ?_
    refine Z97 ?_
    refine Z142 ?_
    refine Z204 ?_
    refine Z305 ?_
    refine KO.idxA (i:=1) rfl rfl Tryz.runUnderlying333 Tryz.sizeOf3 rfl (by decide) rfl ?_
    refine KO.stAt (i:=1) rfl rfl rfl Y68 Y45 rfl Y21 (by rfl) (by simp[arr5]) ?_
    refine Z209 ?_
    refine Z35 ?_
    refine Z23 ?_
    refine Z61 ?_
    subst hvx
    refine KQ.round 2 ⟨by omega,fun h=>?_,fun h=>?_,fun h=>?_⟩ (by decide) ⟨rfl,rfl,rfl,rfl,rfl,rfl,rfl,rfl,rfl,trivial⟩ (fun w hw=>hw.all Y30)
    all_goals first|omega|rfl|exact hp1 (by omega)
  ·
   refine Z157 ?_
   refine Z31 ?_
   refine Z37 ?_
   refine Z137 ?_
   refine Z35 ?_
   refine KO.idxAg (cs:=[.int .i64 0,.int .i64 1,.int .i64 4]) (i:=2) rfl rfl Tryz.underlying334 Tryz.isAgg3 Tryz.sizeOf3 rfl (by decide) rfl rfl ?_
   refine Z302 ?_
   cases hn:numO we with
   |none=>
    refine Z305 ?_
    refine Z223 ?_
    refine KO.ce (cp:=[]) rfl rfl rfl Tryz.call136 rfl (atoi_e w _ we (hwz we (by simp)) hM) ?_;rintro v' L' ⟨hR,rfl⟩;unfold atoiR at hR;rw[hn]at hR;obtain⟨xx,TT,yy,rfl⟩:=hR
    refine Z64 ?_
    refine Z302 ?_
    refine Z318 ?_
    refine Z227 ?_
    refine Z142 ?_
    refine KR.condT rfl rfl ?_
    refine Z157 ?_
    refine Z263 ?_
    refine KO.nil ?_
    refine Z78 ?_
    refine hret _ _ ⟨⟨_,_,rfl⟩,parseL_none (p:=q) ?_ (List.mem_of_getElem? hq)⟩
    unfold parse1;rw[hws];simp only[];rw[hn]
    all_goals (cases numO wa<;>cases numO wb<;>cases numO we<;>rfl)
   |some vv=>
    have hvx:vv=z:=by rw[hz,hn];rfl
    refine Z305 ?_
    refine Z223 ?_
    refine KO.ce (cp:=[]) rfl rfl rfl Tryz.call136 rfl (atoi_e w _ we (hwz we (by simp)) hM) ?_;rintro v' L' ⟨hR,rfl⟩;unfold atoiR at hR;rw[hn]at hR;subst hR
    refine Z64 ?_
    refine Z302 ?_
    refine Z318 ?_
    refine Z97 ?_
    refine Z142 ?_
    refine Z204 ?_
    refine Z305 ?_
    refine KO.idxA (i:=4) rfl rfl Tryz.runUnderlying333 Tryz.sizeOf3 rfl (by decide) rfl ?_
    refine KO.stAt (i:=4) rfl rfl rfl Y68 Y45 rfl Y21 (by rfl) (by simp[arr5]) ?_
    refine Z209 ?_
    refine Z35 ?_
    refine Z23 ?_
    refine Z61 ?_
    subst hvx
    refine KQ.round 3 ⟨by omega,fun h=>?_,fun h=>?_,fun h=>?_⟩ (by decide) ⟨rfl,rfl,rfl,rfl,rfl,rfl,rfl,rfl,rfl,trivial⟩ (fun w hw=>hw.all Y30)
    all_goals first|rfl|exact hp1 (by omega)|exact hp2 (by omega)
  ·refine Z157 ?_
   refine Z31 ?_
   refine Z37 ?_
   refine KR.condF rfl rfl ?_
   repeat(first|(with_reducible refine KQ.nextR ?_)|(with_reducible refine KQ.then_exit ?_)|(with_reducible refine KQ.blk_exit ?_)|(with_reducible refine KR.exit ?_))
   refine KR.draw [.read,.pure,.read,.pure,.read,.pure,.pure,.read,.pure,.pure,.read,.pure,.read,.pure,.keep,.write,.write] [0,1,2,3,4,5,6,7,8,9,10,11,12,13,14,15,16] Y62 Y62 Y62 (fun a w h=>by exact hno a w h) ?_
   refine Z282 ?_
   refine KO.idxA (i:=0) rfl rfl Tryz.runUnderlying333 Tryz.sizeOf3 rfl (by decide) rfl ?_
   refine Z17 ?_
   refine KO.idxA (i:=1) rfl rfl Tryz.runUnderlying333 Tryz.sizeOf3 rfl (by decide) rfl ?_
   refine Z17 ?_
   refine Z1 ?_
   refine KO.idx0 (i:=2) rfl rfl Tryz.runUnderlying115 Tryz.sizeOf9 rfl (by decide) rfl ?_
   refine Z335 ?_
   refine Z1 ?_
   refine KO.idx0 (i:=3) rfl rfl Tryz.runUnderlying115 Tryz.sizeOf9 rfl (by decide) rfl ?_
   refine KO.ldE0 (i:=3) (sz:=1) (cf:=strC) (e:=wd) rfl rfl Tryz.isAgg9 Y11 (fun _=>rfl) rfl Y68 Y68 rfl ?_
   refine KO.idxA (i:=4) rfl rfl Tryz.runUnderlying333 Tryz.sizeOf3 rfl (by decide) rfl ?_
   refine Z17 ?_
   refine Z46 ?_
   refine KO.bs1 (z:=(Value.agg #[.int .i64 0,.int .i64 0,.string ⟨#[]⟩,.string ⟨#[]⟩,.int .i64 0])) (sz:=5) (by':=56) rfl rfl Tryz.underlying49 Y62 Y68 Y68 (by decide) (by decide) rfl ?_;intro b58
   refine KO.app (z:=Value.agg #[.int .i64 0,.int .i64 0,.string ⟨#[]⟩,.string ⟨#[]⟩,.int .i64 0]) (sz:=5) (by':=56) rfl rfl rfl Y11 Y21 Tryz.underlying49 msr_info rfl (⟨x,y,wc,wd,z⟩:Ms) Y68 Y68 Y68 (by omega) (by decide) rfl ?_;intro v';refine KO.fact (fun w hw=>SL_form hw) ?_;rintro⟨sa,cp,rfl,_⟩
   refine KO.sto0 rfl rfl rfl Y68 Y42 Y68 Y11 Y68 ?_
   refine Z44 ?_
   refine KQ.conv (fun w hw=>hw.all (M:=rdP b4 b3 b2 (.slice sa (xs++[(⟨x,y,wc,wd,z⟩:Ms)]).length cp) .nilIface (xs++[(⟨x,y,wc,wd,z⟩:Ms)])++N) Y5) ?_
   have hpm:parse1 q=some ⟨x,y,wc,wd,z⟩:=by
    unfold parse1;rw[hws];simp only[];rw[hp1 (by omega),hp2 (by omega),hp3 (by omega)]
   refine hgo _ _ ⟨_,_,rfl,?_⟩
   rw[take_succ_some hq,parseL_snoc hxs,hpm];rfl
 ·rintro b M ⟨v,xs,rfl,hxs⟩
  rw[List.take_length]at hxs
  have hxl:xs.length≤100000:=by have :=parseL_len hxs;omega
  have hms:∀m∈xs,m.body.size≤maxLen∧m.queue.size≤maxLen:=fun m hm=>by
   have :=parseL_size (B:=90000) hxs (fun p hp=>by have :=pcs_size hp;omega) m hm
   unfold maxLen;omega
  have hmr:mrd s=if badI xs=none∧writeS xs=s then some xs else none:=by unfold mrd;rw[if_neg h0,hxs]
  rw[hmr]
  simp only[rdP]
  repeat(first|(with_reducible refine K.seq ?_)|(with_reducible refine KQ.next ?_)|(with_reducible refine KQ.blk_normal ?_))
  refine K.fact (fun w hw=>SL_form (hw.pick (.tail (.tail (.tail (.tail .head)))))) ?_
  rintro⟨sa,cp,rfl,_⟩
  cases hb:badI xs with
  |some kb=>
   rw[if_neg (by simp)]
   refine Z231 ?_
   refine Z282 ?_
   refine KO.ce (cp:=[]) rfl rfl rfl Tryz.call60 rfl (mwrite_e w _ _ xs (fun w' hw'=>RdA.ofSL (fun _=>rfl) Y11 hw') hT hms hxl) ?_;rintro v' L' hR;unfold MwR at hR;rw[hb]at hR;obtain⟨be,rfl,rfl⟩:=hR;unfold atV
   refine Z106 ?_
   refine Z227 ?_
   refine Z131 ?_
   refine Z168 ?_
   refine Z3 ?_
   refine Z263 ?_
   refine Z4 ?_
   refine KQ.retM2C1 Y11 rfl rfl rfl Tryz.isAgg49 Tryz.isAgg31 Y11 Y21 (fun w' hs=>⟨_,_,rfl,⟨Y68,rfl⟩,hw.below_step hs.below,hs.below⟩)
  |none=>
   by_cases hws:writeS xs=s
   ·rw[if_pos ⟨rfl,hws⟩]
    refine Z231 ?_
    refine Z282 ?_
    refine KO.ce (cp:=[]) rfl rfl rfl Tryz.call60 rfl (mwrite_e w _ _ xs (fun w' hw'=>RdA.ofSL (fun _=>rfl) Y11 hw') hT hms hxl) ?_;rintro v' L' hR;unfold MwR at hR;rw[hb]at hR;obtain⟨rfl,rfl⟩:=hR
    refine Z308 ?_
    refine Z264 ?_
    refine Z319 ?_
    refine K.condF rfl (by simp[hws]) ?_
    refine Z250 ?_
    refine Z282 ?_
    refine Z90 ?_
    refine Z5 ?_
    refine KQ.retM2C1 Y11 rfl rfl rfl Tryz.isAgg49 Tryz.isAgg31 Y11 Y21 (fun w' hs=>⟨_,_,rfl,⟨_,rfl,rfl⟩,?_,hs.below⟩)
    exact hw.stack (M:=[SL 44 5 msC (.slice sa xs.length cp) xs]) (hs.all Y4)
   ·rw[if_neg (fun h=>hws h.2)]
    refine Z231 ?_
    refine Z282 ?_
    refine KO.ce (cp:=[]) rfl rfl rfl Tryz.call60 rfl (mwrite_e w _ _ xs (fun w' hw'=>RdA.ofSL (fun _=>rfl) Y11 hw') hT hms hxl) ?_;rintro v' L' hR;unfold MwR at hR;rw[hb]at hR;obtain⟨rfl,rfl⟩:=hR
    refine Z308 ?_
    refine Z264 ?_
    refine Z319 ?_
    refine K.condT rfl (by simp[hws]) ?_
    refine Z3 ?_
    refine Z263 ?_
    refine Z4 ?_
    refine KQ.retM2C1 Y11 rfl rfl rfl Tryz.isAgg49 Tryz.isAgg31 Y11 Y21 (fun w' hs=>⟨_,_,rfl,⟨Y68,rfl⟩,hw.below_step hs.below,hs.below⟩)
 ·rintro b M ⟨⟨v,xs,rfl⟩,hx⟩
  have hmr:mrd s=none:=by unfold mrd;rw[if_neg h0,hx]
  rw[hmr]
  simp only[rdP]
  repeat(first|(with_reducible refine KQ.then_ret ?_)|(with_reducible refine KQ.blk_ret ?_))
  refine KQ.retM2C1 Y21 rfl rfl rfl Tryz.isAgg49 Tryz.isAgg31 Y11 Y11 (fun w' hs=>⟨_,_,rfl,⟨Y68,rfl⟩,hw.below_step hs.below,hs.below⟩)
end Go.Proofs.YtjhogocabcdjbabGreatDoor
/- maps that the call has made, keyed by texts or by numbers -/
namespace WB
open Go Go.RowKit Go.ChangeMaps Go.MapKept
theorem List.map_modify_same (s v:Value):∀(l:List MapEntry) (j:Nat),(l.modify j fun e=>{e with key:=s,val:=v}).map (·.born)=l.map (·.born)
 |[],_=>by simp
 |_::_,0=>by simp
 |_::l,j+1=>by simp[List.map_modify_same s v l j]
structure KeyLaw {κ:Type} (d:TypeDesc) (kv:κ→Value):Prop where
 isKey:∀k,IsKey d (kv k)
 inj:∀a b,kv a=kv b→a=b
theorem strKey:KeyLaw (κ:=ByteArray) .string Value.string:=⟨fun _=>⟨⟩,fun _ _ h=>by cases h;rfl⟩
theorem intKey:KeyLaw (κ:=Int) (.int .i64) (Value.int .i64):=⟨fun _=>rfl,fun _ _ h=>by cases h;rfl⟩
section
variable {κ:Type} [DecidableEq κ]
def getK {β:Type} (m:List (κ×β)) (k:κ):Option β:=match m with
 |[]=>none
 |x::r=>if x.1=k then some x.2 else getK r k
def putK {β:Type} (m:List (κ×β)) (k:κ) (v:β):List (κ×β):=match m with
 |[]=>[(k,v)]
 |x::r=>if x.1=k then(x.1,v)::r else x::putK r k v
def delK {β:Type} (m:List (κ×β)) (k:κ):List (κ×β):=match m with
 |[]=>[]
 |x::r=>if x.1=k then r else x::delK r k
theorem getK_putK {β:Type} (s t:κ) (v:β):∀m:List (κ×β),getK (putK m s v) t=if s=t then some v else getK m t
 |[]=>rfl
 |x::r=>by
  unfold putK
  by_cases h:x.1=s
  ·rw[if_pos h,getK,getK,h];by_cases h2:s=t<;>simp[h2]
  ·rw[if_neg h,getK,getK,getK_putK s t v r]
   by_cases h2:x.1=t
   ·have :¬s=t:=fun e=>h (h2.trans e.symm)
    simp[h2,this]
   ·simp[h2]
variable {d:TypeDesc} {kv:κ→Value}
def esK (kv:κ→Value) (es:List MapEntry) (m:List (κ×Value)):Prop:=es.map (fun e=>(e.key,e.val))=m.map (fun x=>(kv x.1,x.2))
structure esB (kv:κ→Value) (es:List MapEntry) (clk:Nat) (m:List (κ×Value)):Prop where
 ents:esK kv es m
 old:∀e∈es,e.born<clk
 nodup:(es.map (·.born)).Nodup
def omapK (kv:κ→Value) (b:Nat) (m:List (κ×Value)):HP:=ex fun es:Array MapEntry=>ex fun clk:Nat=>sep (pur (esB kv es.toList clk m)) (blk b (.map es clk))
theorem findK (K:KeyLaw d kv) (s:κ):∀(es:List MapEntry) (m:List (κ×Value)) (i:Nat),esK kv es m→
 (getK m s=none∧Instr.findNow d (kv s) es i=some none∧(∀v clk,esK kv (es++[{key:=kv s,val:=v,born:=clk}]) (putK m s v))∧delK m s=m)∨
 ∃j e,getK m s=some e.val∧es[j]? =some e∧e.key=kv s∧Instr.findNow d (kv s) es i=some (some (i+j,e.val))∧
  (∀v,esK kv (es.modify j fun e=>{e with key:=kv s,val:=v}) (putK m s v))∧esK kv (es.eraseIdx j) (delK m s)
 |[],[],i,_=>Or.inl ⟨rfl,rfl,fun v clk=>rfl,rfl⟩
 |[],_::_,_,h=>by simp[esK]at h
 |_::_,[],_,h=>by simp[esK]at h
 |e::es,x::m,i,h=>by
  unfold esK at h
  simp only[List.map_cons,List.cons.injEq,Prod.mk.injEq]at h
  obtain⟨⟨hk,hv⟩,hr⟩:=h
  obtain⟨r,hr1,hr2⟩:=sameNow_of_keys (K.isKey s) (show IsKey d e.key by rw[hk];exact K.isKey x.1)
  by_cases hx:x.1=s
  ·have hrt:r=true:=hr2.2 (by rw[hk,hx])
   refine Or.inr ⟨0,e,by simp[getK,hx,hv],rfl,by rw[hk,hx],?_,fun v=>?_,?_⟩
   ·unfold Instr.findNow
    rw[hr1,hrt];rfl
   ·unfold esK
    simp[putK,hx]
    exact hr
   ·unfold esK
    simp[delK,hx]
    exact hr
  ·have hrf:r=false:=by
    cases r with
    |false=>rfl
    |true=>exact absurd (K.inj _ _ ((hr2.1 rfl).trans hk)) (fun e=>hx e.symm)
   have hf:Instr.findNow d (kv s) (e::es) i=Instr.findNow d (kv s) es (i+1):=by
    conv=>lhs;unfold Instr.findNow
    rw[hr1,hrf]
   rcases findK K s es m (i+1) hr with⟨h1,h2,h3,h4⟩|⟨j,e0,h1,h2,h3,h4,h5,h6⟩
   ·refine Or.inl ⟨by simp[getK,hx,h1],by rw[hf,h2],fun v clk=>?_,by simp[delK,hx,h4]⟩
    have :=h3 v clk
    unfold esK at this ⊢
    simp[putK,hx,hk,hv]at this ⊢
    exact this
   ·refine Or.inr ⟨j+1,e0,by simp[getK,hx,h1],by simpa using h2,h3,by rw[hf,h4];simp;omega,fun v=>?_,?_⟩
    ·have :=h5 v
     unfold esK at this ⊢
     simp[putK,hx,hk,hv]at this ⊢
     exact this
    ·unfold esK at h6 ⊢
     simp[delK,hx,hk,hv]at h6 ⊢
     exact h6
variable {w0 w:World} {L:List HP} {P:Program} {b:Nat} {m:List (κ×Value)}
omit [DecidableEq κ]in
theorem omapK_make (h:St w0 L w):St w0 (omapK kv w.heap.size []::L) (w.alloc (.map #[] 0)):=
 St.exi #[] (St.exi 0 (St.join (St.puri (p:=esB kv (#[]:Array MapEntry).toList 0 []) ⟨rfl,(fun e h=>by cases h),.nil⟩ (h.alloc (.map #[] 0)))))
theorem omapK_look (K:KeyLaw d kv) (h:St w0 (omapK kv b m::L) w) {w1:World} (he:Ext w w1) {t k E:TypeId} (ht:P.underlying t=some (.map k E)) (hk:P.underlying k=some d) {z:Value} (hz:(zeroValue E).run P w1=.ok z w1) (s:κ) (ok:Bool):
 (Instr.lookup t (.map (some b)) (kv s) ok).run P w1=.ok (if ok then .tuple #[(getK m s).getD z,.bool (getK m s).isSome]else(getK m s).getD z) w1:=by
 obtain⟨es,h⟩:=h.exs
 obtain⟨clk,h⟩:=h.exs
 obtain⟨hr,h⟩:=h.split.purs
 have hlt:=h.lt
 obtain⟨_,hb⟩:=h.look
 have hb:w1.heap[b]? =some (.map es clk):=by rw[he.2 b hlt];exact hb
 rcases findK K s _ m 0 hr.ents with⟨h2,h3,_,_⟩|⟨j,e,h2,h3,h4,h5,_,_⟩
 ·cases ok<;>simp[Instr.lookup,run_underlying ht,run_getObj_map hb,run_checkKey hk (K.isKey s),run_findKey hk h3,Result.andThen,h2,hz]
 ·cases ok<;>simp[Instr.lookup,run_underlying ht,run_getObj_map hb,run_checkKey hk (K.isKey s),run_findKey hk h5,Result.andThen,h2]
theorem omapK_put (K:KeyLaw d kv) (h:St w0 (omapK kv b m::L) w) {t k E:TypeId} (ht:P.underlying t=some (.map k E)) (hk:P.underlying k=some d) (s:κ) (v:Value):
 ∃w',(Instr.mapUpdate t (.map (some b)) (kv s) v).run P w=.ok () w'∧St w0 (omapK kv b (putK m s v)::L) w':=by
 obtain⟨es,h⟩:=h.exs
 obtain⟨clk,h⟩:=h.exs
 obtain⟨hr,h⟩:=h.split.purs
 obtain⟨_,hb⟩:=h.look
 have up:∀(o:Obj),St w0 (blk b o::L) {w with heap:=w.heap.setIfInBounds b o}:=fun o=>
  h.upd rfl rfl rfl (by simp) (by have :=h.lt;simp[this]) (fun k hk=>by simp[Array.getElem?_setIfInBounds,Ne.symm hk])
 rcases findK K s _ m 0 hr.ents with⟨_,h3,h4,_⟩|⟨j,e,_,h3,h4,h5,h6,_⟩
 ·refine⟨_,?_,St.exi (es.push {key:=kv s,val:=v,born:=clk}) (St.exi (clk+1) (St.join (St.puri (p:=esB kv (es.push {key:=kv s,val:=v,born:=clk}).toList (clk+1) (putK m s v)) ?_ (up (.map (es.push {key:=kv s,val:=v,born:=clk}) (clk+1))))))⟩
  ·simp[Instr.mapUpdate,run_underlying ht,run_getObj_map hb,run_checkKey hk (K.isKey s),run_findKey hk h3,run_setObj_map _ hb,Result.andThen]
  ·refine⟨by simpa using h4 v clk,fun e he=>?_,?_⟩
   ·rw[Array.toList_push]at he
    rcases List.mem_append.1 he with he|he
    ·have :=hr.old e he;omega
    ·simp at he;subst he;exact Nat.lt_succ_self _
   ·rw[Array.toList_push,List.map_append,List.map_cons,List.map_nil,List.nodup_append]
    refine⟨hr.nodup,by simp,fun a ha b hb=>?_⟩
    obtain⟨e,he,rfl⟩:=List.mem_map.1 ha
    simp at hb;subst hb
    have :=hr.old e he;omega
 ·have hj:es[j]? =some e:=by simpa using h3
  refine⟨_,?_,St.exi (es.modify j fun e=>{e with key:=kv s,val:=v}) (St.exi clk (St.join (St.puri (p:=esB kv (es.modify j fun e=>{e with key:=kv s,val:=v}).toList clk (putK m s v)) ?_ (up (.map (es.modify j fun e=>{e with key:=kv s,val:=v}) clk)))))⟩
  ·simp[Instr.mapUpdate,run_underlying ht,run_getObj_map hb,run_checkKey hk (K.isKey s),run_findKey hk h5,hj,h4,run_keyThatStays (K.isKey s),run_setObj_map _ hb,Result.andThen]
  ·have hm:((es.modify j fun e=>{e with key:=kv s,val:=v}).toList.map (·.born))=es.toList.map (·.born):=by
    rw[Array.toList_modify,List.map_modify_same]
   refine⟨by simpa using h6 v,fun e he=>?_,by rw[hm];exact hr.nodup⟩
   have hb:e.born∈es.toList.map (·.born):=by rw[←hm];exact List.mem_map_of_mem he
   obtain⟨e2,he2,hb2⟩:=List.mem_map.1 hb
   rw[←hb2];exact hr.old e2 he2
omit [DecidableEq κ]in
theorem omapK_len (h:St w0 (omapK kv b m::L) w) {w1:World} (he:Ext w w1) {t k E ty:TypeId} (ht:P.underlying t=some (.map k E)):
 (Builtin.len_ #[t] ty #[.map (some b)]).run P w1=.ok (goInt m.length) w1:=by
 obtain⟨es,h⟩:=h.exs
 obtain⟨clk,h⟩:=h.exs
 obtain⟨hr,h⟩:=h.split.purs
 have hlt:=h.lt
 obtain⟨_,hb⟩:=h.look
 have hb:w1.heap[b]? =some (.map es clk):=by rw[he.2 b hlt];exact hb
 have hl:es.size=m.length:=by have :=congrArg List.length hr.ents;simpa using this
 simp[Builtin.len_,run_underlying ht,run_getObj_map hb,hl]
end
section
variable {κ:Type} [DecidableEq κ] {kd:TypeDesc} {kv:κ→Value}
variable {P:Program} {ops:Array Oper} {d:Bool} {Q:Exit→Act→World→Prop} {n:Nat} {D:List Deferred} {w0:World} {G:Env} {L R:List HP} {l:List (Kd×Oper)} {k:Kd}
 {t:Nat} {ty T KT E:TypeId} {pos:String} {af:Array Edge} {x y u:Operand} {v z:Value} {b:Nat} {m:List (κ×Value)}
omit [DecidableEq κ]in
theorem KO.mkm (kv:κ→Value) (hk:(!d||(k== .keep||k== .write))=true) (ht:Nat.blt t n=true) (h:∀bb,KO P ops d Q n D w0 ((t,.map (some bb))::G) (omapK kv bb []::L) l):
 KO P ops d Q n D w0 G L ((k,⟨some t,.makeMap T none,ty,pos,af,none⟩)::l):=
 KO.keepRun hk (F:=fun bb=>.map (some bb)) (N:=fun bb=>omapK kv bb []::L) (fun a w ha hw=>⟨w.heap.size,w.alloc (.map #[] 0),by simp[execOp,run_makeMap],Ext.alloc w _,omapK_make hw⟩) ht h
theorem KO.lkm (K:KeyLaw kd kv) (s:κ) (hk:(!d||k != .pure)=true) (hx:ev G x=some (.map (some b))) (hy:ev G y=some (kv s)) (hT:P.underlying T=some (.map KT E)) (hK:P.underlying KT=some kd) (hz:∀w,(zeroValue E).run P w=.ok z w) (hp:Pick L (omapK kv b m) R) (ht:Nat.blt t n=true)
 (h:KO P ops d Q n D w0 ((t,(getK m s).getD z)::G) L l):KO P ops d Q n D w0 G L ((k,⟨some t,.lookup T x y false,ty,pos,af,none⟩)::l):=
 KO.rd hk (fun a w w' ha hw e=>by
  have :=omapK_look (P:=P) K (hw.pick hp) e hT hK (hz w') s false
  simp[execOp,ha.eval hx,ha.eval hy,this]) ht h
theorem KO.lkmOk (K:KeyLaw kd kv) (s:κ) (hk:(!d||k != .pure)=true) (hx:ev G x=some (.map (some b))) (hy:ev G y=some (kv s)) (hT:P.underlying T=some (.map KT E)) (hK:P.underlying KT=some kd) (hz:∀w,(zeroValue E).run P w=.ok z w) (hp:Pick L (omapK kv b m) R) (ht:Nat.blt t n=true)
 (h:KO P ops d Q n D w0 ((t,.tuple #[(getK m s).getD z,.bool (getK m s).isSome])::G) L l):KO P ops d Q n D w0 G L ((k,⟨some t,.lookup T x y true,ty,pos,af,none⟩)::l):=
 KO.rd hk (fun a w w' ha hw e=>by
  have :=omapK_look (P:=P) K (hw.pick hp) e hT hK (hz w') s true
  simp[execOp,ha.eval hx,ha.eval hy,this]) ht h
theorem KO.upm (K:KeyLaw kd kv) (s:κ) (hk:(!d||k== .write)=true) (hx:ev G x=some (.map (some b))) (hy:ev G y=some (kv s)) (hu:ev G u=some v) (hT:P.underlying T=some (.map KT E)) (hK:P.underlying KT=some kd) (hp:Pick L (omapK kv b m) R)
 (h:KO P ops d Q n D w0 G (omapK kv b (putK m s v)::R) l):KO P ops d Q n D w0 G L ((k,⟨none,.mapUpdate T x y u,ty,pos,af,none⟩)::l):=
 KO.wrRun hk (fun a w ha hw=>by
  obtain⟨w',hr,hs⟩:=omapK_put (P:=P) K (hw.pick hp) hT hK s v
  exact⟨w',by simp[execOp,ha.eval hx,ha.eval hy,ha.eval hu,hr],hs⟩) h
omit [DecidableEq κ]in
theorem KO.lenM (hk:(!d||k != .pure)=true) (hx:ev G x=some (.map (some b))) (hT:P.underlying T=some (.map KT E)) (hp:Pick L (omapK kv b m) R) (ht:Nat.blt t n=true) (h:KO P ops d Q n D w0 ((t,.int .i64 (m.length:Nat))::G) L l):
 KO P ops d Q n D w0 G L ((k,⟨some t,.call ⟨.builtin .len,#[x],#[T]⟩,ty,pos,af,none⟩)::l):=
 KO.rd hk (fun a w w' ha hw e=>by
  have :=omapK_len (P:=P) (ty:=ty) (hw.pick hp) e hT
  simp[execOp,resolve,invoke,builtin,ha.eval hx,this,goInt]) ht h
end
end WB
/- queues, plain: what is seen of one beside another that has not what one unit did -/
namespace WB
def strip (e:It):It:={e with line:=0}
def ins3 (t:It) (l:List It):List It:=l.filter (fun e=>decide (t.m.pri≤e.m.pri))++t::l.filter (fun e=> !decide (t.m.pri≤e.m.pri))
def get3 (v:Int):List It→List It
 |[]=>[]
 |e::l=>if availB e=true then {e with got:=v}::l else e::get3 v l
def del3:List It→List It
 |[]=>[]
 |e::l=>if availB e=true then l else e::del3 l
def ends3 (u:Int) (back:Bool) (l:List It):List It:=(l.filter fun e=> !endB u back e).map (freeIt u)
def ml (e:It):Ms×Int:=(e.m,e.line)
def Ord (x y:It):Prop:=x.m.id≠y.m.id∧(y.m.pri<x.m.pri∨(x.m.pri=y.m.pri∧x.m.id<y.m.id))
structure QIn (n:Int) (q:Qu):Prop where
 ord:q.l.Pairwise Ord
 ids:∀e∈q.l,0≤e.m.id∧e.m.id<n
 pris:∀e∈q.l,0≤e.m.pri∧e.m.pri≤9
 lines:∀e∈q.l,0≤e.line∧e.line<q.next
 len:q.l.length≤20
 next:0≤q.next∧q.next≤n
theorem take_while_filter {p:It→Bool} {l:List It} (h:l.Pairwise fun x y=>p y=true→p x=true):l.takeWhile p=l.filter p∧l.dropWhile p=l.filter fun e=> !p e:=by
 induction l with
 |nil=>exact⟨rfl,rfl⟩
 |cons a l ih=>
  obtain⟨h1,h2⟩:=List.pairwise_cons.1 h
  obtain⟨i1,i2⟩:=ih h2
  by_cases ha:p a=true
  ·simp[ha,i1,i2]
  ·have hall:∀e∈l,p e=false:=fun e he=>by
    by_cases hp:p e=true
    ·exact absurd (h1 e he hp) ha
    ·simpa using hp
   have e1:l.filter p=[]:=List.filter_eq_nil_iff.2 fun e he=>by simp[hall e he]
   have e2:(l.filter fun e=> !p e)=l:=List.filter_eq_self.2 fun e he=>by simp[hall e he]
   simp[ha,e1,e2]
theorem take_len_while {α:Type} (p:α→Bool):∀l:List α,l.take (l.takeWhile p).length=l.takeWhile p∧l.drop (l.takeWhile p).length=l.dropWhile p
 |[]=>⟨rfl,rfl⟩
 |a::l=>by
  by_cases h:p a=true
  ·simp[h,take_len_while p l]
  ·simp[h]
section
variable {n:Int} {q:Qu} {m:Ms} {u:Int}
end
def getL (v:Int) (l:List It):Option Nat→List It
 |none=>l
 |some k=>l.set k {itAt l k with got:=v}
def oth (u:Int) (l:List It):List It:=l.filter fun e=> !decide (e.put=u)
structure QTwo (u n:Int) (a b:Qu):Prop where
 ha:QIn n a
 hb:QIn n b
 rel:b.l.map strip=oth u (a.l.map strip)
 got:∀e∈a.l,e.got≠u
section
variable {u n:Int} {a b:Qu}
end
end WB
namespace WB
structure QTail (l:List It) (g:List (Int×Go.Value)) (ls:List Int):Prop where
 ord:l.Pairwise Ord
 ids:∀e∈l,0≤e.m.id∧e.m.id<1000
 pris:∀e∈l,0≤e.m.pri∧e.m.pri≤9
 len:ls.length=10
 fresh:∀e∈l,availB e=true→getK g e.m.id=none∧ls.getD e.m.pri.toNat 0≤e.m.id
end WB
/- the document's queue: plain data -/
namespace WB
open Go Go.RowKit
structure Ri where
 m:Ms
 put:Int
 got:Int
instance:Inhabited Ri:=⟨⟨default,0,0⟩⟩
def riC (x:Ri):List Value:=[.int .i64 x.m.id,.int .i64 x.m.pri,.string x.m.body,.string x.m.queue,.int .i64 x.m.house,.int .i64 x.put,.int .i64 x.got]
def ridB (id:Int) (e:Ri):Bool:=decide (e.m.id=id)
def rfind (l:List Ri) (id:Int):Int:=fidx (ridB id) l
def rneg (u:Int):Int:=if u<0 then -1 else u
def rpush (l:List Ri) (m:Ms) (u:Int):List Ri:=l++[⟨m,rneg u,-1⟩]
def rputE (l:List Ri) (m:Ms):Int:=if msRight m=false then 1 else if 0≤rfind l m.id then 9 else if 20≤l.length then 12 else 0
def rput (l:List Ri) (m:Ms) (u:Int):List Ri:=if rputE l m=0 then rpush l m u else l
def ravail (e:Ri):Bool:=decide (e.put<0)&&decide (e.got<0)
def rordP (l:List Ri) (p:Nat):List Nat:=(List.range l.length).filter fun i=>decide ((l.getD i default).m.pri=(p:Int))
def rordN (l:List Ri):Nat→List Nat
 |0=>[]
 |n+1=>rordP l n++rordN l n
def rord (l:List Ri):List Nat:=rordN l 10
def rAt (l:List Ri) (i:Nat):Ri:=l.getD i default
def rgetI (l:List Ri):Option Nat:=(rord l).find? fun i=>ravail (rAt l i)
def rget (l:List Ri) (u:Int):List Ri:=match rgetI l with|none=>l|some i=>if 0≤u then l.set i {rAt l i with got:=u}else l.eraseIdx i
def rgetM (l:List Ri):Ms:=match rgetI l with|none=>zeroMs|some i=>(rAt l i).m
def rgetE (l:List Ri):Int:=match rgetI l with|none=>8|some _=>0
def rtakeI (l:List Ri) (id:Int):Option Nat:=l.findIdx? (ridB id)
def rtake (l:List Ri) (id:Int):List Ri:=match rtakeI l id with|none=>l|some i=>l.eraseIdx i
def rtakeM (l:List Ri) (id:Int):Ms:=match rtakeI l id with|none=>zeroMs|some i=>(rAt l i).m
def rtakeE (l:List Ri) (id:Int):Int:=match rtakeI l id with|none=>7|some _=>0
def rendB (u:Int) (back:Bool) (x:Ri):Bool:=(decide (x.put=u)&&back)||(decide (x.got=u)&& !back)
def rfree (u:Int) (x:Ri):Ri:={x with put:=if x.put=u then -1 else x.put,got:=if x.got=u then -1 else x.got}
def rends (l:List Ri) (u:Int) (back:Bool):List Ri:=if u<0 then l else(l.filter fun e=> !rendB u back e).map (rfree u)
def rthere (l:List Ri):List Ms:=((rord l).filter fun i=>ravail (rAt l i)).map fun i=>(rAt l i).m
def rkept (l:List Ri):List Ms:=((rord l).filter fun i=>decide ((rAt l i).put<0)).map fun i=>(rAt l i).m
end WB
namespace WB
open Go Go.RowKit
def niC (i:Nat):List Value:=[.int .i64 (i:Nat)]
end WB
/- the program's queue beside the document's: plain -/
namespace WB
def toRi (e:It):Ri:=⟨e.m,e.put,e.got⟩
def arrN (l:List Ri):Nat→List Ri
 |0=>[]
 |n+1=>l.filter (fun e=>decide (e.m.pri=(n:Int)))++arrN l n
def arr (l:List Ri):List Ri:=arrN l 10
section
variable {α:Type} {key:α→Int} {xs:List α}
end
def QOrd (x y:It):Prop:=y.m.pri<x.m.pri∨(x.m.pri=y.m.pri∧x.line<y.line)
structure QRel (n:Int) (q:Qu) (l:List Ri):Prop where
 rel:q.l.map toRi=arr l
 ord:q.l.Pairwise QOrd
 lines:∀e∈q.l,0≤e.line∧e.line<q.next
 pris:∀e∈l,0≤e.m.pri∧e.m.pri≤9
 ids:(l.map (·.m.id)).Nodup
 len:(l.length:Nat)≤n
 next:0≤q.next∧q.next≤n
section
variable {n:Int} {q:Qu} {l:List Ri} {m:Ms} {u:Int}
end
end WB
