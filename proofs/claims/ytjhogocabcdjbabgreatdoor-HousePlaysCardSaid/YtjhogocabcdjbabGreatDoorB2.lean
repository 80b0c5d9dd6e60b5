import Derived.ProofKit
import Derived.OpenShut
import Derived.Deep.DeepHandedRow
import Derived.Deep.Slices
import Derived.Lay
import Derived.LaidHandle
import Derived.Lib.LaidTab
import Derived.Lib.SliceRun
import Derived.RangeFuncRecord
import Derived.RangeFuncCalls
import Derived.RangeFuncBound
import Derived.OrdersIn
import Derived.Lib.ItoaLen
import Derived.Lib.Join
import Derived.Lib.SplitLaws
import Derived.Lib.AtoiAll
import Derived.Lib.IndexLaws
import Derived.Lib.IndexBytes
import Derived.Lib.ItoaMem
import Derived.Laws.Strings3
import Derived.Laws.Slices
import Derived.Shelf.SlSortFuncK.WholeK
import Derived.Shelf.GgSortFunc.Tiny
import Derived.Lib.AppendIntMem
import Derived.Lib.CutLaws
import Derived.Lib.Strings
import Derived.Test.YtjhogocabcdjbabGreatDoorB1
set_option linter.unusedSimpArgs false
set_option linter.unusedVariables false
set_option maxRecDepth 100000
set_option maxHeartbeats 8000000
namespace Go.Proofs.YtjhogocabcdjbabGreatDoor
open Tryz
open Go Go.RowKit WB
theorem O3(w w0:World)(L:List HP)(g n cap k:Nat)(xs vs:List Value)(bv:Nat)(h:St w0 (lE 75 3 (.slice (some ⟨g,0,none⟩) n cap) n xs::bA bv (.cells vs.toArray 75 (0,0))::L) w)(hv:vs.length=3)(h1:∀u∈vs,u.oneCell'=true)(Jd:∀u∈xs,u.oneCell'=true)(hn:n<1000000)(hk:k<n)(nG:n+1<=cap):
 Calls prog 268 #[.slice (some ⟨g,0,none⟩) n cap,.int .i64 k,.slice (some ⟨bv,0,none⟩) 1 1] w fun e w'=> ∃v',e=.returned v'/\St w0 (lE 75 3 v' (n+1) (xs.take (k *3)++vs++xs.drop (k *3))::L) w':=by
 obtain⟨i0,hi,yH,qb,BF⟩:=info_parts IY;rcases h.cC with⟨hc,_⟩|⟨g',nM,cur,hc,Ag,yO,kE,fH,vh,jh⟩
 ·simp at hc
 ·simp only[Value.slice.injEq,az,Addr.mk.injEq,and_true,true_and]at hc;obtain⟨rfl,rfl⟩:=hc;have hov:∀o n c o' n' c',(callFunc 361 #[.slice (some ⟨bv,o,none⟩) n c,.slice (some ⟨g,o',none⟩) n' c']).run prog w=.ok (.value (.bool false)) w:=fun o n c o' n' c'=>by
   rw[run_callFunc_extern func361 bC bC bC (e:=Extern.SlicesOverlaps.overlaps #[86,86] #[4]) bC,
    xo 86 4 75 i0 underlying86 hi jh.lZ o n c o' n' c' (by rw[kE];omega)]
   rfl
  have HB:=Lib.hid jh;have oo:((k:Int)==(n:Int))=false:=by simp;omega
  have xW:cap<9223372036854775808:=by unfold maxLen at yO;omega
  have dM:(cur.toList.take (n *3)).length=n *3:=by simp;omega
  have qT:cur.toList.length=cap *3:=by simpa using kE
  have Ep:Nat.min (n+1-k) (n-k)=n-k:=Nat.min_eq_right ae;have hm1:∀u∈(cur.toList.take (n *3)).drop (k *3),u.oneCell'=true:=fun u hu=>Jd u (fH▸List.mem_of_mem_drop hu)
  have Wu:((cur.toList.take (n *3)).drop (k *3)).length=Nat.min (n+1-k) (n-k)*i0.size:=by
   rw[bf,dM,qb,Ep,Nat.sub_mul]
  have nW:=fA (P:=prog) w.drew 86 86 3 75 i0 g ((k+1)*3) (n-k) (cap-(k+1)) ⟨g,k *3,none⟩ (n+1-k) (cap-k) cur 75 _ underlying86 hi jh.drew.look.2 Wu
   (jh.drew.fj fun j u hj=>by
    rw[List.getElem?_drop,List.getElem?_take]at hj;split at hj
    ·simpa using hj
    ·simp at hj) (by rw[Wu,qb,Ep,kE];omega) hm1
  have r7:=jh.drew.setRow (c':=(cur.toList.take ((k+1)*3)++(cur.toList.take (n *3)).drop (k *3)++cur.toList.drop ((k+1)*3+((cur.toList.take (n *3)).drop (k *3)).length)).toArray);have Ai:((cur.toList.take (n *3)).drop (k *3)).length=n *3-k *3:=by rw[bf,dM]
  generalize Ew:cur.toList.take ((k+1)*3)++(cur.toList.take (n *3)).drop (k *3)++cur.toList.drop ((k+1)*3+((cur.toList.take (n *3)).drop (k *3)).length)=C1 at nW r7;have tK:C1.length=cap *3:=by rw[<-Ew];simp only[aW,bu,Ai,bf,qT];omega
  have jg:=fA (P:=prog) (w.drew.setRow g C1.toArray) 86 86 3 75 i0 g (k *3) (n+1-k) (cap-k) ⟨bv,0,none⟩ 1 1 C1.toArray 75 vs underlying86 hi r7.look.2
   Y10 (r7.drop.fj fun j u hj=>by simpa using hj) (by rw[hv];simp[tK];omega) h1
  have vp:=r7.setRow (c':=(C1.take (k *3)++vs++C1.drop (k *3+vs.length)).toArray);have o8:Nat.min 1 (n+1-k)=1:=Nat.min_eq_left ae;rw[o8]at jg;rw[Ep]at nW;have iW:((C1.take (k *3)++vs++C1.drop (k *3+vs.length)).toArray).toList.take ((n+1)*3)=xs.take (k *3)++vs++xs.drop (k *3):=by
   have :=oP cur.toList vs (k *3) 3 (n *3) (cap *3) ae hv ae qT;simp only[fH]at this;rw[hv];have e:(k+1)*3=k *3+3:=by omega
   have e2:(n+1)*3=n *3+3:=by omega
   have e3:(k *3+3+(n *3-k *3))=n *3+3:=by omega
   rw[fH,e,show(xs.drop (k *3)).length=n *3-k *3 by rw[bf,vh],e3]at Ew;rw[<-Ew,e2];exact this
  have wJ:=vp.nz (n:=n+1) (size:=3) (cap:=cap) nG yO (by simp[tK,hv];omega) iW;generalize C1.take (k *3)++vs++C1.drop (k *3+vs.length)=C2 at jg wJ vp iW;have Yx:=Lib.hid nW;have Yw:=Lib.hid jg;have HO:=Lib.hid wJ;clear h jh yO hi yH qb BF kE fH vh Jd h1 hv nW jg wJ r7 vp iW Ew Ai Wu hm1 qT dM Ep o8 tK
  go_enter func268,ntmps268
  go_wp2_with fail
  refine fa [.pure,.pure,.pure,.pure,.pure,.pure,.pure,.pure,.write] [0,1,2,3,4,5,6,7,8] bC bC ?_;simp only[aJ,List.map_nil,item,List.getD_cons_zero,List.getD_cons_succ]
  repeat((with_reducible refine fN (v:=?_) (a':=?_) ?_ ?_ ?_ ?_);rotate_left 2;(rfl);((intro w';go_simp;(try(go_bits;(try go_simp);(try(go_bits;(try go_simp)))));(repeat(first|rewrite [if_pos ae]|rewrite [if_neg ae])))<;>rfl);(go_simp;rfl))
  refine me (a':=?_) (v:=?_) (w':=?_) rfl ?_ ?_ ?_
  rotate_left 3
  ·rw[nK _ _ _ _ rfl (.slice (some ⟨g,(k+1)*3,none⟩) (n-k) (cap-(k+1))) (.slice (some ⟨g,k *3,none⟩) (n+1-k) (cap-k)) rfl rfl Yx.out]
  ·go_simp;rfl
  refine pK ?_
  go_wp2_with (refine uw rfl _ _ _ _ rfl (.slice (some ⟨g,k *3,none⟩) (n+1-k) (cap-k)) (.slice (some ⟨bv,0,none⟩) 1 1) rfl rfl Yw.out ?_;intro K hK;go_simp)
  go_ret
  exact⟨_,rfl,HO.out.lZ.drop⟩
theorem O4(w w0:World)(L:List HP)(g n k:Nat)(cap:Nat)(xs vs:List Value)(bv:Nat)(h:St w0 (lE 75 3 (.slice (some ⟨g,0,none⟩) n cap) n xs::bA bv (.cells vs.toArray 75 (0,0))::L) w)(hv:vs.length=3)(h1:∀u∈vs,u.oneCell'=true)(Jd:∀u∈xs,u.oneCell'=true)(hn:n<1000000)(hk:k<n)(nG:cap<n+1):
 Calls prog 268 #[.slice (some ⟨g,0,none⟩) n cap,.int .i64 k,.slice (some ⟨bv,0,none⟩) 1 1] w fun e w'=> ∃v',e=.returned v'/\St w0 (lE 75 3 v' (n+1) (xs.take (k *3)++vs++xs.drop (k *3))::L) w':=by
 obtain⟨i0,hi,yH,qb,BF⟩:=info_parts IY;rcases h.cC with⟨hc,_⟩|⟨g',nM,cur,hc,Ag,yO,kE,fH,vh,jh⟩
 ·simp at hc
 ·simp only[Value.slice.injEq,az,Addr.mk.injEq,and_true,true_and]at hc;obtain⟨rfl,rfl⟩:=hc;have WK:cap=n:=by omega
  have oo:((k:Int)==(n:Int))=false:=by simp;omega
  have qT:cur.toList.length=cap *3:=by simpa using kE
  have SH:(xs.take (k *3)).length=k *3:=by rw[bu,vh];omega
  have eM:∀(j:Nat) (u:Value),xs[j]? =some u->cur[j]? =some u:=fun j u hj=>by
   rw[<-fH,List.getElem?_take]at hj;split at hj
   ·simpa using hj
   ·simp at hj
  have hr:=oS (P:=prog) w 86 3 86 75 i0 _ .i64 .i64 underlying86 underlying3 hi yH ⟨g,0,none⟩ k cap (xs.take (k *3)) (by rw[SH,qb])
   (jh.fj fun j u hj=>by
    rw[List.getElem?_take]at hj;split at hj
    ·rw[Nat.zero_add];exact eM j u hj
    ·simp at hj) (n+1-k) ae (by rw[qb];omega) ae ae (by rw[BF];exact growslice_fits ae ae) (by rw[BF];omega)
  have Ip:=grownCap_ge w (k+(n+1-k)) cap 75;have hle:=grownCap_le_maxLen w (k+(n+1-k)) cap 75 Vi;have lP:=jh.drew.alloc (.cells ((xs.take (k *3)).toArray++Builtin.zeroCells (Value.agg #[.string ⟨#[]⟩,.string ⟨#[]⟩,.int .i64 0]).cells (n+1-k)++Builtin.zeroCells (Value.agg #[.string ⟨#[]⟩,.string ⟨#[]⟩,.int .i64 0]).cells (grownCap w (k+(n+1-k)) cap 75-(k+(n+1-k)))) 75);have Jc:∀q,(Builtin.zeroCells (Value.agg #[.string ⟨#[]⟩,.string ⟨#[]⟩,.int .i64 0]).cells q).size=q *3:=fun q=>by rw[size_zeroCells];rfl
  generalize hW:w.drew.alloc (.cells ((xs.take (k *3)).toArray++Builtin.zeroCells (Value.agg #[.string ⟨#[]⟩,.string ⟨#[]⟩,.int .i64 0]).cells (n+1-k)++Builtin.zeroCells (Value.agg #[.string ⟨#[]⟩,.string ⟨#[]⟩,.int .i64 0]).cells (grownCap w (k+(n+1-k)) cap 75-(k+(n+1-k)))) 75)=W at hr lP;clear hW;generalize hcp:grownCap w (k+(n+1-k)) cap 75=cp at hr lP Ip hle;clear hcp;have e1:k+(n+1-k)=n+1:=by omega
  rw[e1]at hr Ip;generalize hB:w.heap.size=B at hr;have hB':w.drew.heap.size=B:=hB;rw[hB']at lP;clear hB hB';generalize hZ:Builtin.zeroCells (Value.agg #[.string ⟨#[]⟩,.string ⟨#[]⟩,.int .i64 0]).cells (n+1-k)++Builtin.zeroCells (Value.agg #[.string ⟨#[]⟩,.string ⟨#[]⟩,.int .i64 0]).cells (cp-(k+(n+1-k)))=Z at lP;have hZl:Z.toList.length=(cp-k)*3:=by
   rw[<-hZ];simp only[Array.length_toList,Array.size_append,Jc];omega
  have MR:((xs.take (k *3)).toArray++Builtin.zeroCells (Value.agg #[.string ⟨#[]⟩,.string ⟨#[]⟩,.int .i64 0]).cells (n+1-k)++Builtin.zeroCells (Value.agg #[.string ⟨#[]⟩,.string ⟨#[]⟩,.int .i64 0]).cells (cp-(k+(n+1-k))))=(xs.take (k *3)++Z.toList).toArray:=by
   rw[<-hZ];apply Array.ext';simp
  rw[MR]at lP;clear MR hZ Jc;have Wg:=lP;generalize MR:xs.take (k *3)++Z.toList=C0 at lP;have Jv:C0.length=cp *3:=by rw[<-MR,aW,SH,hZl];omega
  have Ah:Nat.min 1 (n+1-k)=1:=Nat.min_eq_left ae;have Df:St w0 (bA bv (.cells vs.toArray 75 (0,0))::bA B (.cells C0.toArray 75 (0,0))::bA g (.cells cur 75 (0,0))::L) W:=lP.pick (.tail (.tail .head));have nW:=fA (P:=prog) W 86 86 3 75 i0 B (k *3) (n+1-k) (cp-k) ⟨bv,0,none⟩ 1 1 C0.toArray 75 vs underlying86 hi lP.look.2
   (by rw[hv,qb,Ah,Nat.one_mul]) (Df.fj fun j u hj=>by simpa using hj) (by rw[hv];simp[Jv];omega) h1
  have r7:=lP.setRow (c':=(C0.take (k *3)++vs++C0.drop (k *3+vs.length)).toArray);rw[Ah]at nW;generalize Ew:C0.take (k *3)++vs++C0.drop (k *3+vs.length)=C1 at nW r7;have tK:C1.length=cp *3:=by rw[<-Ew];simp only[aW,bu,bf,Jv,hv];omega
  generalize Zc:W.setRow B C1.toArray=W1 at nW r7;clear Zc;have o_:(xs.drop (k *3)).length=(n-k)*3:=by rw[bf,vh];omega
  have o8:Nat.min (n-k) (n-k)=n-k:=Nat.min_self _;have Al:St w0 (bA g (.cells cur 75 (0,0))::bA B (.cells C1.toArray 75 (0,0))::bA bv (.cells vs.toArray 75 (0,0))::L) W1.drew:=(r7.pick (.tail .head)).drew;have jg:=fA (P:=prog) W1.drew 86 86 3 75 i0 B ((k+1)*3) (n-k) (cp-(k+1)) ⟨g,k *3,none⟩ (n-k) (cap-k) C1.toArray 75 (xs.drop (k *3)) underlying86 hi r7.drew.look.2
   (by rw[o_,qb,o8]) (Al.fj fun j u hj=>by rw[List.getElem?_drop]at hj;exact eM _ u hj) (by rw[o_];simp[tK];omega) (fun u hu=>Jd u (List.mem_of_mem_drop hu))
  have vp:=r7.drew.setRow (c':=(C1.take ((k+1)*3)++xs.drop (k *3)++C1.drop ((k+1)*3+(xs.drop (k *3)).length)).toArray);rw[o8]at jg;have iW:((C1.take ((k+1)*3)++xs.drop (k *3)++C1.drop ((k+1)*3+(xs.drop (k *3)).length)).toArray).toList.take ((n+1)*3)=xs.take (k *3)++vs++xs.drop (k *3):=by
   have :=xE (xs.take (k *3)) Z.toList vs (xs.drop (k *3)) (k *3) 3 ((n-k)*3) SH hv o_;simp only[MR]at this;rw[hv]at Ew;rw[Ew]at this;rw[o_,show(k+1)*3=k *3+3 by omega,show(n+1)*3=k *3+3+(n-k)*3 by omega];exact this
  have oq:(C1.take ((k+1)*3)++xs.drop (k *3)++C1.drop ((k+1)*3+(xs.drop (k *3)).length)).length=cp *3:=by
   simp only[aW,bu,bf,tK,vh];omega
  generalize C1.take ((k+1)*3)++xs.drop (k *3)++C1.drop ((k+1)*3+(xs.drop (k *3)).length)=C2 at jg vp iW oq;have wJ:=vp.nz (n:=n+1) (size:=3) (cap:=cp) Ip hle (by simpa using oq) iW;have e9:((n+1-k:Nat):Int)=(n:Int)+1-k:=by omega
  rw[e9]at hr;clear e9;have HR:=Lib.hid hr;have Yx:=Lib.hid nW;have Yw:=Lib.hid jg;have HO:=Lib.hid wJ;have aft:cp<9223372036854775808:=by unfold maxLen at hle;omega
  clear h jh yO hi yH qb BF kE fH vh Jd h1 hv nW jg wJ lP Wg r7 vp iW oq MR Jv Ew tK hr Al Df o_ SH qT eM hZl Ah o8 hle e1 WK
  go_enter func268,ntmps268
  go_wp2_with (first|(at_builtin;refine Lib.wpList_append_run _ rfl _ _ _ _ rfl _ _ rfl rfl _ _ HR.out ?_)|(refine uw rfl _ _ _ _ rfl (.slice (some ⟨B,k *3,none⟩) (n+1-k) (cp-k)) (.slice (some ⟨bv,0,none⟩) 1 1) rfl rfl Yx.out ?_;intro K hK;go_simp))
  refine fa [.pure,.pure,.pure,.pure,.pure,.pure,.pure,.pure,.write] [0,1,2,3,4,5,6,7,8] bC bC ?_;simp only[aJ,List.map_nil,item,List.getD_cons_zero,List.getD_cons_succ]
  repeat((with_reducible refine fN (v:=?_) (a':=?_) ?_ ?_ ?_ ?_);rotate_left 2;(rfl);((intro w';go_simp;(try(go_bits;(try go_simp);(try(go_bits;(try go_simp)))));(repeat(first|rewrite [if_pos ae]|rewrite [if_neg ae])))<;>rfl);(go_simp;rfl))
  refine me (a':=?_) (v:=?_) (w':=?_) rfl ?_ ?_ ?_
  rotate_left 3
  ·rw[nK _ _ _ _ rfl (.slice (some ⟨B,(k+1)*3,none⟩) (n-k) (cp-(k+1))) (.slice (some ⟨g,k *3,none⟩) (n-k) (cap-k)) rfl rfl Yw.out]
  ·go_simp;rfl
  refine pK ?_
  go_wp2_with fail
  go_ret
  exact⟨_,rfl,HO.out.pick (.tail .head) |>.drop.pick (.tail .head) |>.drop⟩
theorem SD(w w0:World)(L:List HP)(v:Value)(l:List Nm)(x:Nm)(k bv n:Nat)(hn:n=l.length)(h:St w0 (lE 75 3 v n (cg l)::bA bv (.cells x.cells.toArray 75 (0,0))::L) w)(hk:k<=l.length)(Eo:l.length<1000000):
 Calls prog 268 #[v,.int .i64 k,.slice (some ⟨bv,0,none⟩) 1 1] w fun e w'=> ∃v',e=.returned v'/\St w0 (lE 75 3 v' (l.length+1) (cg (l.take k++x::l.drop k))::L) w':=by
 subst hn;by_cases hkn:k=l.length
 ·subst hkn;have :=SC w w0 L v l.length (cg l) x.cells bv h rfl x.cells_one Eo;refine this.mono ?_;rintro e w' ⟨v',he,hs⟩;refine⟨v',he,?_⟩;rw[show cg (l.take l.length++x::l.drop l.length)=cg l++x.cells by simp[cg]];exact hs
 ·have dN:k<l.length:=by omega
  rcases h.cC with⟨_,hz,_⟩|⟨g,cap,cur,rfl,Ag,_⟩
  ·omega
  ·rw[<-zS l x k hk];by_cases hr:l.length+1<=cap
   ·exact O3 w w0 L g l.length cap k (cg l) x.cells bv h rfl x.cells_one (xr l) Eo dN hr
   ·exact O4 w w0 L g l.length k cap (cg l) x.cells bv h rfl x.cells_one (xr l) Eo dN ae
theorem uN(x:Nm)(b:Bool)(w:World)(h1:x.name.size<=maxLen)(h2:x.gK.size<=maxLen)(hb:bK x=b):
 Calls prog 267 #[.agg x.cells.toArray] w fun e w'=>e=.returned (.bool b)/\Below w.heap.size w w':=by
 rw[<-hb];exact L0 x w h1 h2
theorem RH(b off:Nat)(c:Array Value)(T:TypeId)(v:Value)(l:List Nm)(x:Nm)(w w0:World)(L:List HP)(h:St w0 (bA b (.cells c T (0,0))::lE 75 3 v l.length (cg l)::L) w)(hr:bK x=false)(h1:x.name.size<=maxLen)(h2:x.gK.size<=maxLen):
 Calls prog 170 #[.pointer (some ⟨b,off,none⟩),.agg x.cells.toArray] w fun e w'=>e=.returned (.iface 70 (.int .i64 1))/\
  St w0 (bA b (.cells c T (0,0))::lE 75 3 v l.length (cg l)::L) w':=by
 have HC:=Lib.hid (fun w=>uN x false w h1 h2 hr);have lP:=h.alloc (.cells x.cells.toArray 75);have HS:=Lib.hid lP;clear h h1 h2 hr lP;obtain⟨a,t,n⟩:=x;simp only[Nm.cells]at HC HS ⊢
 go_enter func170,ntmps170
 go_wp2_with fail
 refine(HC.out _).mono ?_;rintro e w1 ⟨rfl,kz⟩;have Cc:=Lib.hid (HS.out.aA kz);clear kz
 go_wp2_with fail
 go_ret
 exact⟨rfl,Cc.out.drop⟩
theorem N8(b off:Nat)(c:Array Value)(T:TypeId)(v:Value)(l:List Nm)(x:Nm)(w w0:World)(L:List HP)(h:St w0 (bA b (.cells c T (0,0))::lE 75 3 v l.length (cg l)::L) w)(hc:c[off]? =some v)(hr:bK x=true)(h1:x.name.size<=maxLen)(h2:x.gK.size<=maxLen)(hm:E0 l x.name)(hl:20<=l.length)(Bj:l.length<1000000)(hit:fc l x.name (bE l x.name)=false):
 Calls prog 170 #[.pointer (some ⟨b,off,none⟩),.agg x.cells.toArray] w fun e w'=>e=.returned (.iface 70 (.int .i64 12))/\
  St w0 (bA b (.cells c T (0,0))::lE 75 3 v l.length (cg l)::L) w':=by
 have HC:=Lib.hid (fun w=>uN x true w h1 h2 hr);have lP:=h.alloc (.cells x.cells.toArray 75);have HS:=Lib.hid lP;have HF:=Lib.hid (fun(w:World) (h:St w0 (bA b (.cells c T (0,0))::lE 75 3 v l.length (cg l)::L) w)=>pg b off c T (0,0) v l x.name w w0 L h hc Bj hm);have HK:=Lib.hid (fun k (hk:Kh l x.name k)=>lh hk);have HI:=Lib.hid hit;have hv:∃a cap,v=.slice a l.length cap:=by
  rcases h.drop.cC with⟨hv,hz,_⟩|⟨g,cap,_,hv,_⟩
  ·exact⟨none,0,by rw[hv,hz]⟩
  ·exact⟨_,_,hv⟩
 obtain⟨a,cap,rfl⟩:=hv;have Nw:=Lib.hid hc;clear h h1 h2 hr lP hm hit hc;generalize hN:l.length=n at *;have HN:=Lib.hid hN;clear hN;obtain⟨nm,t,hs⟩:=x;simp only[Nm.cells]at HC HS HF HK HI ⊢
 go_enter func170,ntmps170
 go_wp2_with fail
 refine(HC.out _).mono ?_;rintro e w1 ⟨rfl,kz⟩;have Cc:=Lib.hid (HS.out.aA kz);have c0:=Cc.out.cell (off:=0) rfl;clear kz
 go_wp2_with fail
 refine(HF.out _ Cc.out.drop).mono ?_;rintro e w2 ⟨k,hk,rfl,iw⟩;have yo:=Lib.hid (Cc.out.aA iw);rw[HK.out k hk,HI.out];clear iw c0 hk;have c1:w2.cell? ⟨b,off,none⟩=some (.slice a n cap):=yo.out.P2 (.tail .head) Nw.out
 go_wp2_with fail
 go_ret
 exact⟨rfl,yo.out.drop⟩
theorem RG(b off:Nat)(c:Array Value)(T:TypeId)(v:Value)(l:List Nm)(x:Nm)(w w0:World)(L:List HP)(h:St w0 (bA b (.cells c T (0,0))::lE 75 3 v l.length (cg l)::L) w)(hc:c[off]? =some v)(hr:bK x=true)(h1:x.name.size<=maxLen)(h2:x.gK.size<=maxLen)(hm:E0 l x.name)(Bj:l.length<1000000)(hit:fc l x.name (bE l x.name)=true):
 Calls prog 170 #[.pointer (some ⟨b,off,none⟩),.agg x.cells.toArray] w fun e w'=>e=.returned .nilIface/\
  St w0 (bA b (.cells c T (0,0))::lE 75 3 v l.length (cg (l.set (bE l x.name) x))::L) w':=by
 have HC:=Lib.hid (fun w=>uN x true w h1 h2 hr);have lP:=h.alloc (.cells x.cells.toArray 75);have HS:=Lib.hid lP;have HF:=Lib.hid (fun(w:World) (h:St w0 (bA b (.cells c T (0,0))::lE 75 3 v l.length (cg l)::L) w)=>pg b off c T (0,0) v l x.name w w0 L h hc Bj hm);have HK:=Lib.hid (fun k (hk:Kh l x.name k)=>lh hk);have HI:=Lib.hid hit;have aaP:bE l x.name<l.length:=by
  unfold fc at hit;rw[bm]at hit;simpa using hit.1
 have acL:=Lib.hid (FZ l x (bE l x.name) aaP);have hv:∃g cap,v=.slice (some ⟨g,0,none⟩) l.length cap:=by
  rcases h.drop.cC with⟨hv,hz,_⟩|⟨g,cap,_,hv,_⟩
  ·omega
  ·exact⟨_,_,hv⟩
 obtain⟨g,cap,rfl⟩:=hv;have Nw:=Lib.hid hc;clear h h1 h2 hr lP hm hit hc;generalize hN:l.length=n at *;have HN:=Lib.hid hN;clear hN;obtain⟨nm,t,hs⟩:=x;simp only[Nm.cells]at HC HS HF HK HI acL aaP ⊢;generalize hK:bE l nm=k0 at *;clear hK
 go_enter func170,ntmps170
 go_wp2_with fail
 refine(HC.out _).mono ?_;rintro e w1 ⟨rfl,kz⟩;have Cc:=Lib.hid (HS.out.aA kz);have c0:=Cc.out.cell (off:=0) rfl;clear kz
 go_wp2_with fail
 refine(HF.out _ Cc.out.drop).mono ?_;rintro e w2 ⟨k,hk,rfl,iw⟩;have yo:=Lib.hid (Cc.out.aA iw);obtain rfl:=HK.out k hk;rw[HI.out];clear iw c0 hk;have c1:w2.cell? ⟨b,off,none⟩=some (.slice (some ⟨g,0,none⟩) n cap):=yo.out.P2 (.tail .head) Nw.out;have c2:cz w2 ⟨w.heap.size,0,none⟩ [.string nm,.string t,.int .i64 hs]:=yo.out.fj fun j u hj=>by simpa using hj
 obtain⟨w3,hw3,SP⟩:∃w3,(storeVar 75 ⟨g,k *3,none⟩ (.agg #[.string nm,.string t,.int .i64 hs])).run prog w2.drew=.ok () w3/\
  St w0 (bA b (.cells c T (0,0))::lE 75 3 (.slice (some ⟨g,0,none⟩) n cap) n (cg (l.set k ⟨nm,t,hs⟩))::L) w3:=by
  have h4:=(yo.out.drop.pick (.tail .head)).drew;rcases h4.cC with⟨hc,_⟩|⟨g',nM,cur,hc,Ag,yO,kE,fH,vh,jh⟩
  ·simp at hc
  ·simp only[Value.slice.injEq,az,Addr.mk.injEq,and_true,true_and]at hc;obtain⟨rfl,rfl⟩:=hc;refine⟨_,ll jh (by simp[Value.cells]) (by simp[Value.cells];omega) (by simp[Value.cells];exact⟨rfl,rfl,rfl⟩),?_⟩;refine((jh.setRow).nz Ag yO ?_ ?_).lZ
   ·simp[Value.cells];omega
   ·rw[<-acL.out,<-fH];exact Fu cur.toList [.string nm,.string t,.int .i64 hs] (k *3) 3 (n *3) rfl ae ez
 have HW3:=Lib.hid hw3;have HS3:=Lib.hid SP;clear hw3 SP
 go_wp2_with fail
 refine fa [.pure,.pure,.pure,.read,.pure,.read,.pure,.write] [0,1,2,3,4,5,6,7] bC bC ?_;simp only[aJ,List.map_nil,item,List.getD_cons_zero,List.getD_cons_succ]
 repeat((with_reducible refine fN (v:=?_) (a':=?_) ?_ ?_ ?_ ?_);rotate_left 2;(rfl);((intro w';go_simp;(try(go_bits;(try go_simp);(try(go_bits;(try go_simp)))));((skip)))<;>rfl);(go_simp;rfl))
 refine yq (a':=?_) (v:=.slice (some ⟨g,0,none⟩) n cap) (ad:=⟨b,off,none⟩) rfl rfl (fun _=>by simp) c1 ?_ ?_
 rotate_left 1
 ·go_simp;rfl
 repeat((with_reducible refine fN (v:=?_) (a':=?_) ?_ ?_ ?_ ?_);rotate_left 2;(rfl);((intro w';go_simp;(try(go_bits;(try go_simp);(try(go_bits;(try go_simp)))));((skip)))<;>rfl);(go_simp;rfl))
 refine Kn (a':=?_) (cs:=[.string nm,.string t,.int .i64 hs]) (ad:=⟨w.heap.size,0,none⟩) rfl rfl (fun _=>by simp) (fun _=>by simp) c2 ?_ ?_
 rotate_left 1
 ·go_simp;rfl
 repeat((with_reducible refine fN (v:=?_) (a':=?_) ?_ ?_ ?_ ?_);rotate_left 2;(rfl);((intro w';go_simp;(try(go_bits;(try go_simp);(try(go_bits;(try go_simp)))));((skip)))<;>rfl);(go_simp;rfl))
 refine sF (a':=?_) (w':=w3) rfl ?_ ?_ ?_
 rotate_left 1
 ·exact Av rfl rfl HW3.out
 ·go_simp;rfl
 refine pK ?_;clear c1 c2
 go_wp2_with fail
 go_ret
 exact⟨rfl,HS3.out⟩
theorem RF(b off:Nat)(c:Array Value)(T:TypeId)(v:Value)(l:List Nm)(x:Nm)(w w0:World)(L:List HP)(h:St w0 (bA b (.cells c T (0,0))::lE 75 3 v l.length (cg l)::L) w)(hc:c[off]? =some v)(hr:bK x=true)(h1:x.name.size<=maxLen)(h2:x.gK.size<=maxLen)(hm:E0 l x.name)(hl:l.length<20)(hit:fc l x.name (bE l x.name)=false):
 Calls prog 170 #[.pointer (some ⟨b,off,none⟩),.agg x.cells.toArray] w fun e w'=>e=.returned .nilIface/\
  ∃v',St w0 (bA b (.cells (c.setIfInBounds off v') T (0,0))::lE 75 3 v' (l.length+1) (cg (l.take (bE l x.name)++x::l.drop (bE l x.name)))::L) w':=by
 have HC:=Lib.hid (fun w=>uN x true w h1 h2 hr);have lP:=h.alloc (.cells x.cells.toArray 75);have HS:=Lib.hid lP;have HF:=Lib.hid (fun(w:World) (h:St w0 (bA b (.cells c T (0,0))::lE 75 3 v l.length (cg l)::L) w)=>pg b off c T (0,0) v l x.name w w0 L h hc ae hm);have HK:=Lib.hid (fun k (hk:Kh l x.name k)=>lh hk);have HI:=Lib.hid hit;have Ww:bE l x.name<=l.length:=iF _ _;have Yv:=Lib.hid (fun(w:World) (bv:Nat) (L':List HP) (h:St w0 (lE 75 3 v l.length (cg l)::bA bv (.cells x.cells.toArray 75 (0,0))::L') w)=>SD w w0 L' v l x (bE l x.name) bv l.length rfl h Ww ae);have hv:∃a cap,v=.slice a l.length cap:=by
  rcases h.drop.cC with⟨hv,hz,_⟩|⟨g,cap,_,hv,_⟩
  ·exact⟨none,0,by rw[hv,hz]⟩
  ·exact⟨_,_,hv⟩
 obtain⟨sa,cap,rfl⟩:=hv;have Nw:=Lib.hid hc;have wK:off<c.size:=(Array.getElem?_eq_some_iff.1 hc).1;clear h h1 h2 hr lP hm hit hc;obtain⟨nm,t,hs⟩:=x;simp only[Nm.cells]at HC HS HF HK HI Yv Ww ⊢;generalize hK:bE l nm=k0 at *;generalize hN:l.length=n at HF Yv HS Nw Ww hl ⊢;clear hK
 go_enter func170,ntmps170
 go_wp2_with fail
 refine(HC.out _).mono ?_;rintro e w1 ⟨rfl,kz⟩;have Cc:=Lib.hid (HS.out.aA kz);have c0:=Cc.out.cell (off:=0) rfl;clear kz
 go_wp2_with fail
 refine(HF.out _ Cc.out.drop).mono ?_;rintro e w2 ⟨k,hk,rfl,iw⟩;have yo:=Lib.hid (Cc.out.aA iw);obtain rfl:=HK.out k hk;rw[HI.out];clear iw c0 hk;have c1:w2.cell? ⟨b,off,none⟩=some (.slice sa n cap):=yo.out.P2 (.tail .head) Nw.out;have c2:cz w2 ⟨w.heap.size,0,none⟩ [.string nm,.string t,.int .i64 hs]:=yo.out.fj fun j u hj=>by simpa using hj
 go_wp2_with fail
 refine fa [.pure,.pure,.pure,.pure,.read,.pure,.read,.ef,.write,.pure,.pure,.write] [0,1,2,3,4,5,6,9,10,7,8,11] bC bC ?_;simp only[aJ,List.map_nil,item,List.getD_cons_zero,List.getD_cons_succ]
 repeat((with_reducible refine fN (v:=?_) (a':=?_) ?_ ?_ ?_ ?_);rotate_left 2;(rfl);((intro w';go_simp;(try(go_bits;(try go_simp);(try(go_bits;(try go_simp)))));((skip)))<;>rfl);(go_simp;rfl))
 refine yq (a':=?_) (v:=.slice sa n cap) (ad:=⟨b,off,none⟩) rfl rfl (fun _=>by simp) c1 ?_ ?_
 rotate_left 1
 ·go_simp;rfl
 repeat((with_reducible refine fN (v:=?_) (a':=?_) ?_ ?_ ?_ ?_);rotate_left 2;(rfl);((intro w';go_simp;(try(go_bits;(try go_simp);(try(go_bits;(try go_simp)))));((skip)))<;>rfl);(go_simp;rfl))
 refine Kn (a':=?_) (cs:=[.string nm,.string t,.int .i64 hs]) (ad:=⟨w.heap.size,0,none⟩) rfl rfl (fun _=>by simp) (fun _=>by simp) c2 ?_ ?_
 rotate_left 1
 ·go_simp;rfl
 repeat((with_reducible refine fN (v:=?_) (a':=?_) ?_ ?_ ?_ ?_);rotate_left 2;(rfl);((intro w';go_simp;(try(go_bits;(try go_simp);(try(go_bits;(try go_simp)))));((skip)))<;>rfl);(go_simp;rfl))
 refine Fk (a':=?_) (v:=.slice (some ⟨w2.heap.size,0,none⟩) 1 1) (w':=(w2.alloc (.cells #[.string nm,.string t,.int .i64 hs] 75)).drew) rfl ?_ ?_ ?_ ?_
 rotate_left 1
 ·go_simp
 ·exact Ext.alloc w2 _
 ·go_simp;rfl
 have SP:=yo.out.alloc (.cells #[.string nm,.string t,.int .i64 hs] 75);have YQ:St w0 (lE 75 3 (.slice sa n cap) n (cg l)::bA w2.heap.size (.cells [Value.string nm,Value.string t,Value.int .i64 hs].toArray 75 (0,0))::bA w.heap.size (.cells #[.string nm,.string t,.int .i64 hs] 75)::bA b (.cells c T (0,0))::L)
  (w2.alloc (.cells #[.string nm,.string t,.int .i64 hs] 75)).drew:=(SP.pick (.tail (.tail (.tail .head)))).drew
 refine Bv rfl (f:=268) (args:=#[.slice sa n cap,.int .i64 k,.slice (some ⟨w2.heap.size,0,none⟩) 1 1]) (w':=(w2.alloc (.cells #[.string nm,.string t,.int .i64 hs] 75)).drew) ?_ (Yv.out _ _ _ YQ) ?_
 ·go_simp
 rintro e w3 ⟨v',rfl,hs5⟩;refine⟨v',rfl,?_⟩;have tH:∃QU n' nM,v'=.slice QU n' nM:=by
  rcases hs5.cC with⟨hv,_⟩|⟨g,cap,_,hv,_⟩
  ·exact⟨_,_,_,hv⟩
  ·exact⟨_,_,_,hv⟩
 obtain⟨QU,n',nM,rfl⟩:=tH;have hb6:St w0 (bA b (.cells c T (0,0))::lE 75 3 (.slice QU n' nM) (n+1) (cg (l.take k++⟨nm,t,hs⟩::l.drop k))::bA w.heap.size (.cells #[.string nm,.string t,.int .i64 hs] 75)::L) w3:=hs5.pick (.tail (.tail .head));have gP:=ll (P:=prog) (T:=86) (off:=off) (v:=.slice QU n' nM) hb6 (by simp[Value.cells]) (by simp[Value.cells];omega) (by simp[Value.cells];rfl);have hs7:=hb6.setRow (c':=(c.toList.take off++(Value.slice QU n' nM).cells.toList++c.toList.drop (off+(Value.slice QU n' nM).cells.toList.length)).toArray);have e7:(c.toList.take off++(Value.slice QU n' nM).cells.toList++c.toList.drop (off+(Value.slice QU n' nM).cells.toList.length)).toArray=c.setIfInBounds off (.slice QU n' nM):=IC wK;rw[e7]at gP hs7;refine sF (a':=?_) (w':=w3.setRow b (c.setIfInBounds off (.slice QU n' nM))) rfl ?_ ?_ ?_
 rotate_left 1
 ·exact Av rfl rfl gP
 ·go_simp;rfl
 have HS7:=Lib.hid (hs7.pick (.tail (.tail .head))).drop;clear SP YQ hs5 hb6 hs7 gP e7 c1 c2;refine pK ?_
 go_wp2_with fail
 go_ret
 exact⟨rfl,_,HS7.out⟩
theorem RI(b off:Nat)(c:Array Value)(T:TypeId)(v:Value)(l:List Nm)(x:Nm)(w w0:World)(L:List HP)(h:St w0 (bA b (.cells c T (0,0))::lE 75 3 v l.length (cg l)::L) w)(hc:c[off]? =some v)(h1:x.name.size<=maxLen)(h2:x.gK.size<=maxLen)(hm:E0 l x.name)(hl:l.length<=20):
 Calls prog 170 #[.pointer (some ⟨b,off,none⟩),.agg x.cells.toArray] w fun e w'=>e=.returned (dj 70 (cu l x))/\
  ∃v',St w0 (bA b (.cells (c.setIfInBounds off v') T (0,0))::lE 75 3 v' (eE l x).length (cg (eE l x))::L) w':=by
 cases hr:bK x with
 |false=>
  refine(RH b off c T v l x w w0 L h hr h1 h2).mono ?_;rintro e w' ⟨rfl,hs⟩;refine⟨by simp[dj,cu,hr],v,?_⟩;rw[zi hc];simp only[eE,hr,if_true];exact hs
 |true=>
  cases hit:fc l x.name (bE l x.name)with
  |true=>
   refine(RG b off c T v l x w w0 L h hc hr h1 h2 hm ae hit).mono ?_;rintro e w' ⟨rfl,hs⟩;refine⟨by simp[dj,cu,hr,hit],v,?_⟩;rw[zi hc];simp only[eE,hr,hit,if_true,Bool.true_eq_false,if_false,List.length_set];exact hs
  |false=>
   by_cases hf:20<=l.length
   ·refine(N8 b off c T v l x w w0 L h hc hr h1 h2 hm hf ae hit).mono ?_;rintro e w' ⟨rfl,hs⟩;refine⟨by simp[dj,cu,hr,hit,hf],v,?_⟩;rw[zi hc];simp only[eE,hr,hit,hf,if_true,Bool.true_eq_false,Bool.false_eq_true,if_false];exact hs
   ·refine(RF b off c T v l x w w0 L h hc hr h1 h2 hm ae hit).mono ?_;rintro e w' ⟨rfl,v',hs⟩;refine⟨by simp[dj,cu,hr,hit,hf],v',?_⟩;have hk:bE l x.name<=l.length:=iF _ _;have e1:eE l x=l.take (bE l x.name)++x::l.drop (bE l x.name):=by simp[eE,hr,hit,hf]
    rw[e1,show(l.take (bE l x.name)++x::l.drop (bE l x.name)).length=l.length+1 by simp;omega];exact hs
theorem Ml(b off:Nat)(c:Array Value)(T:TypeId)(v:Value)(l:List Nm)(s:aj)(w w0:World)(L:List HP)(h:St w0 (bA b (.cells c T (0,0))::lE 75 3 v l.length (cg l)::L) w)(hc:c[off]? =some v)(hm:E0 l s)(hl:l.length<1000000):
 Calls prog 57 #[.pointer (some ⟨b,off,none⟩),.string s] w fun e w'=>e=.returned (.bool (cP l s))/\Below w.heap.size w w':=by
 have HF:=Lib.hid (pg b off c T (0,0) v l s w w0 L h hc hl hm);have HK:=Lib.hid (fun k (hk:Kh l s k)=>lh hk);have HS:=Lib.hid h;have Nw:=Lib.hid hc;cases hit:fc l s (bE l s)with
 |false=>
  have HI:=Lib.hid hit;have HE:=Lib.hid (show cP l s=false by simp[cP,CU hit]);clear h hm hit hc
  go_enter func57,ntmps57
  go_wp2_with fail
  refine HF.out.mono ?_;rintro e w2 ⟨k,hk,rfl,iw⟩;have Bu:=Lib.hid iw;rw[HK.out k hk,HI.out];clear iw hk
  go_wp2_with fail
  go_ret
  exact⟨fQ HE.out.symm,Bu.out⟩
 |true=>
  have dN:=tJ hit;have hv:∃g cap,v=.slice (some ⟨g,0,none⟩) l.length cap:=by
   rcases h.drop.cC with⟨hv,hz,_⟩|⟨g,cap,_,hv,_⟩
   ·omega
   ·exact⟨_,_,hv⟩
  obtain⟨g,cap,rfl⟩:=hv;have HI:=Lib.hid hit;have HE:=Lib.hid (show cP l s=gQ (eo l (bE l s)).gK by simp[cP,CT hit]);have HN:=Lib.hid (show bE l s<l.length from dN);clear h hm hit hc;generalize hN:l.length=n at HF dN hl;generalize hK:bE l s=k0 at HI HE HN HK dN;clear hK;cases he:gQ (eo l k0).gK with
  |false=>
   have E6:(eo l k0).gK.toList.isEmpty=false:=he;have fX:((eo l k0).gK.toList==[])=false:=by simpa[gQ]using he
   have HE2:=Lib.hid he;have HNN:=Lib.hid hN;clear he hN
   go_enter func57,ntmps57
   go_wp2_with fail
   refine HF.out.mono ?_;rintro e w2 ⟨k,hk,rfl,iw⟩;have Bu:=Lib.hid iw;have yo:=Lib.hid (HS.out.aA iw);obtain rfl:=HK.out k hk;rw[HI.out];clear iw hk;have c1:w2.cell? ⟨b,off,none⟩=some (.slice (some ⟨g,0,none⟩) n cap):=by rw[<-HNN.out];exact yo.out.cell Nw.out
   obtain⟨d0,d1,d2⟩:=nA yo.out.drop HN.out
   go_wp2_with fail
   go_ret
   exact⟨fQ (by rw[HE.out,HE2.out]),Bu.out⟩
  |true=>
   have E6:(eo l k0).gK.toList.isEmpty=true:=he;have fX:(eo l k0).gK.toList=[]:=by simpa[gQ]using he
   have HE2:=Lib.hid he;have HNN:=Lib.hid hN;clear he hN
   go_enter func57,ntmps57
   go_wp2_with fail
   refine HF.out.mono ?_;rintro e w2 ⟨k,hk,rfl,iw⟩;have Bu:=Lib.hid iw;have yo:=Lib.hid (HS.out.aA iw);obtain rfl:=HK.out k hk;rw[HI.out];clear iw hk;have c1:w2.cell? ⟨b,off,none⟩=some (.slice (some ⟨g,0,none⟩) n cap):=by rw[<-HNN.out];exact yo.out.cell Nw.out
   obtain⟨d0,d1,d2⟩:=nA yo.out.drop HN.out
   go_wp2_with fail
   go_ret
   exact⟨fQ (by rw[HE.out,HE2.out]),Bu.out⟩
def Ys (l:List Nm) (s:aj) (w:World) (x i:Value) (wr:World):Prop:=
 ∃(k:Nat) (t:aj),k<=l.length+1/\x=.string t/\i=.int .i64 k/\fg l (l.length+1-k) t=fg l (l.length+1) s/\Below w.heap.size w wr
def qu (l:List Nm) (s:aj) (w:World) (e:Ending) (w':World):Prop:=
 e=.returned (.tuple #[.string (fg l (l.length+1) s).1,.int .i64 (fg l (l.length+1) s).2.1,dj 70 (fg l (l.length+1) s).2.2])/\Below w.heap.size w w'
theorem qu.mk{l:List Nm}{s:aj}{w w':World}{r:aj×Int×Int}(h:r=fg l (l.length+1) s)(hb:Below w.heap.size w w'){v:Value}(hv:v=dj 70 r.2.2):
 qu l s w (.returned (.tuple #[.string r.1,.int .i64 r.2.1,v])) w':=by
 subst hv;rw[h];exact⟨rfl,hb⟩
theorem FG(b off:Nat)(c:Array Value)(T:TypeId)(v:Value)(l:List Nm)(s:aj)(w w0:World)(L:List HP)(h:St w0 (bA b (.cells c T (0,0))::lE 75 3 v l.length (cg l)::L) w)(hc:c[off]? =some v)(hm:∀s,E0 l s)(hl:l.length<1000000):
 Calls prog 144 #[.pointer (some ⟨b,off,none⟩),.string s] w (qu l s w):=by
 have hv:∃sa cap,v=.slice sa l.length cap/\(0<l.length->∃g,sa=some ⟨g,0,none⟩):=by
  rcases h.drop.cC with⟨hv,hz,_⟩|⟨g,cap,_,hv,_⟩
  ·exact⟨none,0,by rw[hv,hz],fun h=>by omega⟩
  ·exact⟨_,_,hv,fun _=>⟨g,rfl⟩⟩
 obtain⟨sa,cap,rfl,Be⟩:=hv;have HF:=Lib.hid (fun(w:World) (t:aj) (h:St w0 (bA b (.cells c T (0,0))::lE 75 3 (.slice sa l.length cap) l.length (cg l)::L) w)=>pg b off c T (0,0) _ l t w w0 L h hc hl (hm t));have HS:=Lib.hid h;have Nw:=Lib.hid hc;have HSA:=Lib.hid Be;have c0:w.cell? ⟨b,off,none⟩=some (.slice sa l.length cap):=h.cell hc;clear h hm hc Be;obtain⟨n,hN⟩:∃n,l.length=n:=⟨_,rfl⟩;rw[hN]at c0 hl;have HN:=Lib.hid hN;clear hN
 go_enter func144,ntmps144
 go_wp2_with fail
 clear c0
 go_loopw [1,16] (fun x i wr=>Ys l s w x i wr) (fun _ i _=>(n+1-(intOf i).toNat))
 case atStart=>exact⟨0,s,by omega,rfl,rfl,rfl,Below.refl _ _⟩
 case round=>
  obtain⟨k,t,hk,rfl,rfl,hr,MM⟩:=hrel;rw[HN.out]at hk;have HR:=Lib.hid hr;have HB:=Lib.hid MM;have Cc:=Lib.hid (HS.out.aA MM);clear hr MM;by_cases dN:k<n+1
  ·obtain⟨m,hm⟩:∃m,n+1-k=m+1:=⟨n-k,by omega⟩;have HM:=Lib.hid (show l.length+1-k=m+1 by rw[HN.out];exact hm);have HM2:=Lib.hid (show l.length+1-(k+1)=m by rw[HN.out];omega);clear hm;cases hit:fc l t (bE l t)with
   |false=>
    have HI:=Lib.hid hit;have HE:=Lib.hid (show(⟨#[]⟩,0,7)=fg l (l.length+1) s by rw[<-HR.out,HM.out,fg,CU hit]);clear hit
    go_wp2_with fail
    refine(HF.out _ _ Cc.out).mono ?_;rintro e w2 ⟨k',Pq,rfl,iw⟩;have Bu:=Lib.hid (HB.out.trans (iw.mono HB.out.size));rw[lh Pq,HI.out];clear iw Pq
    go_wp2_with fail
    go_ret3
    exact qu.mk HE.out Bu.out rfl
   |true=>
    have wN:=tJ hit;obtain⟨g,rfl⟩:=HSA.out ae;have HI:=Lib.hid hit;have HL:=Lib.hid (CT hit);have HLT:=Lib.hid wN;have ajz:bE l t<n:=by rw[<-HN.out];exact wN
    clear hit wN;cases he:gQ (eo l (bE l t)).gK with
    |true=>
     have HE:=Lib.hid (show(t,-1,0)=fg l (l.length+1) s by rw[<-HR.out,HM.out,fg,HL.out];simp only[he,if_true]);have E6:(eo l (bE l t)).gK.toList.isEmpty=true:=he;have fX:(eo l (bE l t)).gK.toList=[]:=by simpa[gQ]using he
     clear he;generalize hK:bE l t=k0 at *;have HK:=Lib.hid hK;clear hK
     go_wp2_with fail
     refine(HF.out _ _ Cc.out).mono ?_;rintro e w2 ⟨k',Pq,rfl,iw⟩;have Bu:=Lib.hid (HB.out.trans (iw.mono HB.out.size));have yo:=Lib.hid (Cc.out.aA iw);rw[lh Pq,HK.out,HI.out];clear iw Pq;have c1:w2.cell? ⟨b,off,none⟩=some (.slice (some ⟨g,0,none⟩) n cap):=by rw[<-HN.out];exact yo.out.cell Nw.out
     obtain⟨d0,d1,d2⟩:=nA yo.out.drop HLT.out
     go_wp2_with fail
     go_ret3
     exact qu.mk HE.out (Bu.out.alloc Bu.out.size _) rfl
    |false=>
     have E6:(eo l (bE l t)).gK.toList.isEmpty=false:=he;have fX:((eo l (bE l t)).gK.toList==[])=false:=by simpa[gQ]using he
     by_cases hh:0<=(eo l (bE l t)).bF
     ·have HE:=Lib.hid (show((eo l (bE l t)).gK,(eo l (bE l t)).bF,0)=fg l (l.length+1) s by rw[<-HR.out,HM.out,fg,HL.out];simp only[he,hh,if_true,Bool.false_eq_true,if_false]);have hd:decide (0<=(eo l (bE l t)).bF)=true:=by simpa using hh
      clear he hh;generalize hK:bE l t=k0 at *;have HK:=Lib.hid hK;clear hK
      go_wp2_with fail
      refine(HF.out _ _ Cc.out).mono ?_;rintro e w2 ⟨k',Pq,rfl,iw⟩;have Bu:=Lib.hid (HB.out.trans (iw.mono HB.out.size));have yo:=Lib.hid (Cc.out.aA iw);rw[lh Pq,HK.out,HI.out];clear iw Pq;have c1:w2.cell? ⟨b,off,none⟩=some (.slice (some ⟨g,0,none⟩) n cap):=by rw[<-HN.out];exact yo.out.cell Nw.out
      obtain⟨d0,d1,d2⟩:=nA yo.out.drop HLT.out
      go_wp2_with fail
      refine fa [.pure,.read,.pure,.read,.pure,.pure,.pure] [0,1,2,3,4,5,6] bC bC ?_;simp only[aJ,List.map_nil,item,List.getD_cons_zero,List.getD_cons_succ]
      repeat((with_reducible refine fN (v:=?_) (a':=?_) ?_ ?_ ?_ ?_);rotate_left 2;(rfl);((intro w';go_simp;(try(go_bits;(try go_simp);(try(go_bits;(try go_simp)))));((skip)))<;>rfl);(go_simp;rfl))
      refine yq (a':=?_) (v:=.string (eo l k0).gK) (ad:=⟨w2.heap.size,1,none⟩) rfl rfl (fun _=>by simp) ai ?_ ?_
      rotate_left 1
      ·go_simp;rfl
      repeat((with_reducible refine fN (v:=?_) (a':=?_) ?_ ?_ ?_ ?_);rotate_left 2;(rfl);((intro w';go_simp;(try(go_bits;(try go_simp);(try(go_bits;(try go_simp)))));((skip)))<;>rfl);(go_simp;rfl))
      refine yq (a':=?_) (v:=.int .i64 (eo l k0).bF) (ad:=⟨w2.heap.size,2,none⟩) rfl rfl (fun _=>by simp) ai ?_ ?_
      rotate_left 1
      ·go_simp;rfl
      repeat((with_reducible refine fN (v:=?_) (a':=?_) ?_ ?_ ?_ ?_);rotate_left 2;(rfl);((intro w';go_simp;(try(go_bits;(try go_simp);(try(go_bits;(try go_simp)))));((skip)))<;>rfl);(go_simp;rfl))
      refine pK ?_
      go_wp2_with fail
      go_ret3
      exact qu.mk HE.out (Bu.out.alloc Bu.out.size _).drew rfl
     ·have HE:=Lib.hid (show fg l m (eo l (bE l t)).gK=fg l (l.length+1) s by rw[<-HR.out,HM.out,fg,HL.out];simp only[he,hh,Bool.false_eq_true,if_false]);have hd:decide (0<=(eo l (bE l t)).bF)=false:=by simpa using hh
      clear he hh;generalize hK:bE l t=k0 at *;have HK:=Lib.hid hK;clear hK
      go_wp2_with fail
      refine(HF.out _ _ Cc.out).mono ?_;rintro e w2 ⟨k',Pq,rfl,iw⟩;have Bu:=Lib.hid (HB.out.trans (iw.mono HB.out.size));have yo:=Lib.hid (Cc.out.aA iw);rw[lh Pq,HK.out,HI.out];clear iw Pq;have c1:w2.cell? ⟨b,off,none⟩=some (.slice (some ⟨g,0,none⟩) n cap):=by rw[<-HN.out];exact yo.out.cell Nw.out
      obtain⟨d0,d1,d2⟩:=nA yo.out.drop HLT.out
      go_wp2_with fail
      go_roundw
      case rel=>exact⟨k+1,(eo l k0).gK,by rw[HN.out];omega,rfl,by go_num,by rw[HM2.out];exact HE.out,Bu.out.alloc Bu.out.size _⟩
      case measure=>simp[intOf];omega
  ·obtain rfl:k=n+1:=by omega
   have HE:=Lib.hid (show(⟨#[]⟩,0,11)=fg l (l.length+1) s by rw[<-HR.out,HN.out,Nat.sub_self];rfl)
   go_wp2_with fail
   go_ret3
   exact qu.mk HE.out HB.out rfl
end Go.Proofs.YtjhogocabcdjbabGreatDoor
namespace WB
open Go Go.RowKit Go.ChangeShapes Go.WideShapes Go.Deep
section
variable {H:Type} {enc:TypeId×Value->H}
theorem y7{C:Checked}{os:Os}{f:FuncId}{fn:Func}{s:OpenSpec}{conds:List PathCond}{apart:Bool}{laid:List (String×DataW Unit)}(modest:Bool)(w0:World)(args:Array Value)(hos:w0.os=os)(hsh:(w0.forCall (fun _ _=>0) ⟨#[],args,[]⟩).Shaped C.prog)(qM:Input.okWideB C.prog (w0.forCall (fun _ _=>0) ⟨#[],args,[]⟩) f ⟨#[],args,[]⟩=true)(aeZ:s.preRow enc C.prog fn conds apart laid (w0.forCall (fun _ _=>0) ⟨#[],args,[]⟩).memory args):
 ∃(w:World) (tape:Tape) (i:Input),w.os=os/\(w.forCall tape i).Shaped C.prog/\i.vars=[]/\Input.okWide C.prog (w.forCall tape i) .any w.heap.size f i/\
  s.preRow enc C.prog fn conds apart laid (w.forCall tape i).memory i.args/\({modest:=modest}:Assume).holds C.prog (lone (Frame.enter C.prog f i.args .normal) [] (w.forCall tape i)):=
 ⟨w0,fun _ _=>0,⟨#[],args,[]⟩,hos,hsh,(Input.okWide_of_okWideB (base:=0) qM).1,(Input.okWide_of_okWideB qM).2,aeZ,by
  simp only[Assume.holds]
  exact⟨by simp,by simp,fun _=>Modest.zero,by simp,by simp⟩⟩
variable {P:Program}
theorem F8(hl:laidOutB P=true){W W':World}(hb:Below W.heap.size W W'):∀{ts:List TypeId} {vs:List Value} {ds:List (DataW H)} {ps:List MemPlace},(ts.all fun t=>P.readableRec t&&decide (t<P.types.size))=true->
 DataW.TrodAll enc P W 0 (fun _=>true) true ts vs ds ps->(∀x∈ps,x.block<W.heap.size)->DataW.TrodAll enc P W' 0 (fun b=>decide (b<W.heap.size)) true ts vs ds ps
 |[],[],[],_,_,h,_=>h
 |t::ts,v::vs,d::ds,ps,hr,⟨p,q,h1,h2,e⟩,dN=>by
  simp only[List.all_cons,bm,decide_eq_true_eq]at hr;exact⟨p,q,Below.trod hl hr.1.1 hr.1.2 h1 hb (fun x hx=>dN x (by rw[e];exact List.mem_append_left _ hx)),F8 hl hb (by simpa using hr.2) h2 (fun x hx=>dN x (by rw[e];exact List.mem_append_right _ hx)),e⟩
theorem p_{α:Type}{p:Nat->α->Prop}:∀(n:Nat),(∀i,i<n->∃x,p i x)->∃l:List α,l.length=n/\∀(i:Nat) (x:α),l[i]? =some x->p i x
 |0,_=>⟨[],rfl,fun i x h=>by simp at h⟩
 |n+1,h=>by
  obtain⟨l,hl,hp⟩:=p_ n fun i hi=>h i ae
  obtain⟨x,hx⟩:=h n ae;refine⟨l++[x],by simp[hl],fun i y hy=>?_⟩;by_cases hi:i<l.length
  ·rw[List.getElem?_append_left hi]at hy;exact hp i y hy
  ·rw[bp ae]at hy;have :i-l.length=0:=by
    rcases Nat.eq_zero_or_pos (i-l.length)with h0|h0
    ·exact h0
    ·rw[cc ez]at hy;simp at hy
   rw[this]at hy;simp only[List.getElem?_cons_zero,az]at hy;rw[<-hy,show i=n by omega];exact hx
def qX {α:Type} (W:World) (sz:Nat) (cf:α->List Value) (v:Value) (xs:List α):Prop:=
 ∃a cap,v=.slice a xs.length cap/\∀(i:Nat) (x:α),xs[i]? =some x->∃ad,a=some ad/\cz W (ad.add (i *sz)) (cf x)
theorem Sf{α:Type}{φ:α->Prop}{cf:α->List Value}{W:World}{t e:TypeId}{v:Value}{d:DataW H}{p:List MemPlace}{r:Reach}{base sz:Nat}(ht:P.underlying t=some (.slice e))(hv:Value.okWide P W r base t v)(h:DataW.Trod enc P W 0 (fun _=>true) true t v d p)(dM:P.cellsOf e=sz)(rd:∀n cs y,DataW.trod enc P W 0 (fun _=>true) true n e cs=some y->∃x:α,φ x/\cs=cf x):
 ∃xs:List α,qX W sz cf v xs/\∀x∈xs,φ x:=by
 obtain⟨a,len,cap,rfl⟩:=okWide_slice ht hv;obtain⟨fuel,hf⟩:=h;rcases open_slice ht hf with⟨kE,_⟩|⟨a',V0,nM,m,n,D,Pl,kE,_,hl,_,hm,_,hi⟩
 ·simp[Value.cells]at kE;obtain⟨rfl,rfl,rfl⟩:=kE;exact⟨[],⟨none,0,rfl,fun i x h=>by simp at h⟩,fun x hx=>by simp at hx⟩
 ·simp[Value.cells]at kE;obtain⟨rfl,rfl,rfl⟩:=kE;have key:∀i,i<len->∃x:α,φ x/\cz W (a'.add (i *sz)) (cf x):=fun i dN=>by
   obtain⟨Dv,hc,htr⟩:=hi i (by rw[hm];simp;omega);obtain⟨x,hx,rfl⟩:=rd n Dv _ htr;obtain⟨_,hlen,eM⟩:=World.cells?_some hc;refine⟨x,hx,fun j c hj=>?_⟩;have wN:=(aw.1 hj).1;rw[<-dM];rw[eM j ae];exact hj
  obtain⟨l,Q6,hp⟩:=p_ len key;refine⟨l,⟨some a',cap,by rw[Q6],fun i x hx=>⟨a',rfl,(hp i x hx).2⟩⟩,fun x hx=>?_⟩;obtain⟨i,hi,rfl⟩:=List.getElem_of_mem hx;exact(hp i _ (ak hi)).1
end
section
variable {H:Type} {enc:TypeId×Value->H} {P:Program} {W:World} {base:Nat} {spare:Nat->Bool} {held:Bool}
theorem Fo{t:TypeId}{fs:Array Field}{n:Nat}{cs:List Value}{y:DataW H×List MemPlace}(hu:P.underlying t=some (.struct fs))(h:DataW.trod enc P W base spare held n t cs=some y){k:Nat}(hk:P.cellsOf t=k):cs.length=k:=by
 obtain⟨_,_,_,_,hl,_⟩:=DataW.trod_struct hu h;rw[hl,hk]
theorem pM{t:TypeId}{fs:Array Field}{n:Nat}{cs:List Value}{y:DataW H×List MemPlace}(hu:P.underlying t=some (.struct fs))(h:DataW.trod enc P W base spare held n t cs=some y)(i off:Nat)(ty:TypeId)(sz:Nat)(hf:(fs[i]?).map (fun f=>(f.offset,f.type))=some (off,ty))(hc:P.cellsOf ty=sz):∃m y',DataW.trod enc P W base spare held m ty ((cs.drop off).take sz)=some y':=by
 obtain⟨xs,m,_,_,_,hx,cU⟩:=DataW.trod_struct hu h;cases K9:fs[i]? with
 |none=>rw[K9]at hf;simp at hf
 |some f=>
  rw[K9]at hf;simp only[Option.map_some,az,Prod.mk.injEq]at hf;obtain⟨rfl,rfl⟩:=hf;have h1:=cU i f K9;have dN:i<xs.length:=by rw[hx];exact(Array.getElem?_eq_some_iff.1 K9).1
  rw[ak dN,hc]at h1;exact⟨m,_,h1⟩
theorem q5{t:TypeId}{fs:Array Field}{n:Nat}{cs:List Value}{y:DataW H×List MemPlace}(hu:P.underlying t=some (.struct fs))(h:DataW.trod enc P W base spare held n t cs=some y)(i off:Nat)(ty:TypeId)(hf:(fs[i]?).map (fun f=>(f.offset,f.type))=some (off,ty))(hc:P.cellsOf ty=1)(hty:P.underlying ty=some .string):∃s:aj,cs[off]? =some (.string s)/\s.size<=maxLen:=by
 obtain⟨m,y',h1⟩:=pM hu h i off ty 1 hf hc;obtain⟨s,e,_,hs⟩:=DataW.trod_string hty h1;refine⟨s,?_,hs⟩;have :=congrArg (fun l=>l[0]?) e;simpa using this
theorem q6{t:TypeId}{fs:Array Field}{n:Nat}{cs:List Value}{y:DataW H×List MemPlace}(hu:P.underlying t=some (.struct fs))(h:DataW.trod enc P W base spare held n t cs=some y)(i off:Nat)(ty:TypeId){k:IntKind}(hf:(fs[i]?).map (fun f=>(f.offset,f.type))=some (off,ty))(hc:P.cellsOf ty=1)(hty:P.underlying ty=some (.int k)):∃z:Int,cs[off]? =some (.int k z)/\(Lit.int k z).wf=true:=by
 obtain⟨m,y',h1⟩:=pM hu h i off ty 1 hf hc;obtain⟨z,e,_,hz⟩:=DataW.trod_int hty h1;refine⟨z,?_,hz⟩;have :=congrArg (fun l=>l[0]?) e;simpa using this
end
open Go Go.RowKit
theorem vg{P:Program}{W:World}:∀{l:List (String×DataW Unit)} {ps:List MemPlace},DataW.LaidVars P W l ps->∀x∈l,∃g t cs fuel p,P.globalNamed x.1=some g/\(P.globals[g]?).map (·.type)=some t/\W.var? P x.1=some cs/\DataW.trod (fun _=>()) P W 0 (fun _=>true) false fuel t cs.toList=some (x.2,p)
 |[],_,_,x,hx=>by cases hx
 |(n,d)::r,ps,h,x,hx=>by
  obtain⟨g,t,cs,fuel,p,q,h1,h2,h3,h4,h5,_⟩:=h;rcases aK.1 hx with rfl|hx
  ·exact⟨g,t,cs,fuel,p,h1,h2,h3,h4⟩
  ·exact vg h5 x hx
theorem Fs{P:Program}{W:World}{name:String}{k:IntKind}{zs:List Int}{l:List (String×DataW Unit)}{g:Nat}{t e:TypeId}{n:Nat}(h:laidMet P l W)(hm:(name,Lib.tabData k zs)∈l)(hg:P.globalNamed name=some g)(hty:(P.globals[g]?).map (·.type)=some t)(ht:P.underlying t=some (.array n e))(he:P.underlying e=some (.int k))(hce:P.cellsOf e=1)(hct:P.cellsOf t=n):Lib.TabIs P W name k zs:=by
 obtain⟨ps,hv,_⟩:=h;obtain⟨g',t',cs,fuel,p,h1,h2,h3,h4⟩:=vg hv _ hm;obtain rfl:=Option.some.inj (hg.symm.trans h1);obtain rfl:=Option.some.inj (hty.symm.trans h2);unfold Lib.TabIs;rw[h3,<-Lib.cells_of_tab ht he hce hct h4]
theorem KO.abx{P:Program}{ops:Array Oper}{d:Bool}{Q:Exit->Act->World->Prop}{n:Nat}{D:List Deferred}{w0:World}{G:Env}{L:List HP}{l:List (Kd×Oper)}{k:Kd}{t:Nat}{ty T T' E:TypeId}{pos:String}{af:Array Edge}{x:Operand}{a:Option Addr}{len cap:Nat}(hx:ev G x=some (.slice a len cap))(hT:P.underlying T=some (.slice E))(ht:Nat.blt t n=true)(h:KO P ops d Q n D w0 ((t,.bool a.isNone)::G) L l):
  KO P ops d Q n D w0 G L ((k,⟨some t,.binOp .eql T x (.const (.slice none 0 0)) T',ty,pos,af,none⟩)::l):=
 KO.val (fun a' w ha=>by
  simp only[execOp,ha.eval hx,show a'.eval (.const (.slice none 0 0))=.slice none 0 0 from rfl]
  simp[go_sem,Lib.run_eql_slice_nil w T E a len cap 0 0 hT]) ht h
open Go
theorem List.dE{α:Type}{l:List α}{i:Nat}{x:α}(h:l[i]? =some x):l.set i x=l:=by
 obtain⟨hi,rfl⟩:=aw.1 h;exact List.set_getElem_self hi
def lu (l:List Nm) (s:aj):Int:=if fc l s (bE l s)=true then 0 else 7
def kh (l:List Nm) (s:aj):List Nm:=if fc l s (bE l s)=true then l.eraseIdx (bE l s)else l
theorem Jz(l:List Nm)(s:aj):(kh l s).length<=l.length:=by
 unfold kh;split
 ·rw[List.length_eraseIdx];split<;>omega
 ·exact aP _
def IW (l:List Nm) (s:aj):Nm:=(lk l s).getD ⟨⟨#[]⟩,⟨#[]⟩,0⟩
def kV (l:List Nm) (x:Nm):Int:=if bK x=false then 1 else if lk l x.name=none/\20<=l.length then 12 else 0
def dJ (l:List Nm) (s:aj):Bool:=match lk l s with|some x=>decide (x.gK=⟨#[]⟩)|none=>false
def Mp (l:List Nm) (s:aj):Option Nat:=l.findIdx? fun x=>decide (x.name=s)
def og (l:List Nm) (s:aj):Int:=match Mp l s with|some _=>0|none=>7
def fU (l:List Nm) (s:aj):List Nm:=match Mp l s with|some k=>l.eraseIdx k|none=>l
def iN (l:List Nm) (x:Nm):List Nm:=if kV l x=0 then fU l x.name++[x]else l
theorem jI(s:aj):gQ s=decide (s=⟨#[]⟩):=by
 unfold gQ;rw[Bool.eq_iff_iff,decide_eq_true_eq,List.isEmpty_iff,ByteArray.toList_eq];constructor
 ·intro h;apply ByteArray.ext;apply Array.ext';simpa using h
 ·rintro rfl;rfl
theorem OV{l:List Nm}{s:aj}{k:Nat}{y:Nm}(hy:l[k]? =some y)(h:y.name=s)(cU:∀(j:Nat) z,j<k->l[j]? =some z->z.name≠s):lk l s=some y:=by
 unfold lk;obtain⟨hk,rfl⟩:=aw.1 hy;rw[List.find?_eq_some_iff_getElem];refine⟨by simpa using h,k,hk,rfl,fun j hj=>?_⟩;have :=cU j l[j] hj (ak _);simp[this]
theorem aac{l:List Nm}{s:aj}(cU:∀(j:Nat) z,l[j]? =some z->z.name≠s):lk l s=none:=by
 unfold lk;rw[List.find?_eq_none];intro x hx;obtain⟨j,hj,rfl⟩:=List.getElem_of_mem hx;simpa using cU j _ (ak hj)
theorem OU{l:List Nm}{s:aj}{k:Nat}{y:Nm}(hy:l[k]? =some y)(h:y.name=s)(cU:∀(j:Nat) z,j<k->l[j]? =some z->z.name≠s):Mp l s=some k:=by
 unfold Mp;obtain⟨hk,rfl⟩:=aw.1 hy;rw[List.findIdx?_eq_some_iff_getElem];refine⟨hk,by simpa using h,fun j hj=>?_⟩;have :=cU j l[j] hj (ak _);simp[this]
theorem Mm{l:List Nm}{s:aj}(cU:∀(j:Nat) z,l[j]? =some z->z.name≠s):Mp l s=none:=by
 unfold Mp;rw[List.findIdx?_eq_none_iff];intro x hx;obtain⟨j,hj,rfl⟩:=List.getElem_of_mem hx;simpa using cU j _ (ak hj)
theorem I3(l:List Nm)(s:aj):(fU l s).length<=l.length:=by
 unfold fU;split
 ·rw[List.length_eraseIdx];split<;>omega
 ·exact aP _
instance adu (s:aj) (l:List aj):Decidable (s∈l):=decidable_of_iff ((l.any fun u=>decide (u=s))=true) ai
def sj (l:List Nm):Nat->List aj->aj->aj×Int×Int
 |0,_,_=>(⟨#[]⟩,0,11)
 |n+1,seen,s=>if s∈seen then(⟨#[]⟩,0,11)else match lk l s with
  |none=>(⟨#[]⟩,0,7)
  |some x=>if x.gK=⟨#[]⟩then(s,-1,0)else if 0<=x.bF then(x.gK,x.bF,0)else sj l n (s::seen) x.gK
structure iX (l rl:List Nm):Prop where
 sorted:dF l
 perm:rl.Perm l
theorem iX.nil:iX [] []:=⟨zf,.refl _⟩
theorem tM{l:List Nm}(h:(l.map Nm.name).Nodup){x:Nm}(hx:x∈l):lk l x.name=some x:=by
 induction l with
 |nil=>cases hx
 |cons a l ih=>
  rw[aJ,bL]at h;rw[eY];rcases aK.1 hx with rfl|hx
  ·rw[if_pos rfl]
  ·rw[if_neg (fun e:a.name=x.name=>h.1 (e▸List.mem_map_of_mem (f:=Nm.name) hx))];exact ih h.2 hx
theorem KW{l m:List Nm}(hp:m.Perm l)(hn:(l.map Nm.name).Nodup)(s:aj):lk m s=lk l s:=by
 have Eo:(m.map Nm.name).Nodup:=(hp.map Nm.name).nodup_iff.2 hn;cases h:lk l s with
 |some x=>
  obtain⟨h1,rfl⟩:=p9 h;exact tM Eo (hp.mem_iff.2 h1)
 |none=>
  cases h2:lk m s with
  |none=>rfl
  |some x=>
   obtain⟨h1,rfl⟩:=p9 h2;rw[tM hn (hp.mem_iff.1 h1)]at h;cases h
theorem iX.nodup{l rl:List Nm}(h:iX l rl):(l.map Nm.name).Nodup:=mg h.sorted
theorem iX.IJ{l rl:List Nm}(h:iX l rl):(rl.map Nm.name).Nodup:=(h.perm.map Nm.name).nodup_iff.2 h.nodup
theorem iX.lk{l rl:List Nm}(h:iX l rl)(s:aj):lk rl s=look l s:=by rw[KW h.perm h.nodup,gk h.sorted]
theorem iX.len{l rl:List Nm}(h:iX l rl):rl.length=l.length:=h.perm.length_eq
theorem oZ(l:List Nm)(s:aj):look l s=none↔fc l s (bE l s)=false:=by
 unfold look;cases fc l s (bE l s)<;>simp
theorem iX.may{l rl:List Nm}(h:iX l rl)(x:Nm):kV rl x=cu l x:=by
 unfold kV cu;rw[h.lk,h.len];cases h1:bK x with
 |false=>simp
 |true=>
  simp only[Bool.true_eq_false,if_false];cases h2:fc l x.name (bE l x.name)with
  |false=>simp[(oZ l x.name).2 h2]
  |true=>rw[if_neg (fun e=>by rw[(oZ l x.name).1 e.1]at h2;cases h2)];simp
theorem iX.local{l rl:List Nm}(h:iX l rl)(s:aj):dJ rl s=cP l s:=by
 unfold dJ cP;rw[h.lk];cases look l s with
 |none=>rfl
 |some x=>simp only;rw[jI]
theorem F7{l:List Nm}{s:aj}:Mp l s=none↔lk l s=none:=by
 unfold Mp WB.lk;rw[List.findIdx?_eq_none_iff,List.find?_eq_none];simp
theorem oF{l:List Nm}(hn:(l.map Nm.name).Nodup)(s:aj):fU l s=l.filter fun x=> !decide (x.name=s):=by
 induction l with
 |nil=>rfl
 |cons a l ih=>
  rw[aJ,bL]at hn;unfold fU Mp;rw[List.findIdx?_cons];by_cases e:a.name=s
  ·subst e;simp only[decide_true,if_true,List.eraseIdx_cons_zero,c_,Bool.not_true,Bool.false_eq_true,if_false];symm;rw[bJ];intro x hx;have :x.name≠a.name:=fun e=>hn.1 (e▸List.mem_map_of_mem (f:=Nm.name) hx)
   simp[this]
  ·have :=ih hn.2;unfold fU Mp at this;simp only[e,decide_false,Bool.false_eq_true,if_false,c_,Bool.not_false,if_true];rw[<-this];cases h:List.findIdx? (fun x:Nm=>decide (x.name=s)) l<;>simp
theorem BO{l:List Nm}(h:dF l)(s:aj):kh l s=l.filter fun x=> !decide (x.name=s):=by
 unfold kh;cases hh:fc l s (bE l s)with
 |false=>
  simp only[Bool.false_eq_true,if_false];symm;rw[bJ];intro x hx;have h1:=(oZ l s).2 hh;rw[gk h]at h1;unfold WB.lk at h1;have :=List.find?_eq_none.1 h1 x hx;simpa using this
 |true=>
  simp only[if_true];have dN:=tJ hh;have he:fy (eo l (bE l s)).name s=0:=by unfold fc at hh;rw[bm]at hh;simpa using hh.2
  have hn:=ov he;rw[<-oF (mg h) s];unfold fU;have hi:Mp l s=some (bE l s):=by
   refine OU (y:=eo l (bE l s)) (by simp[eo,au,dN]) hn fun j z hj hz hzn=>?_
   obtain⟨YX,rfl⟩:=aw.1 hz;have :=List.pairwise_iff_getElem.1 h j (bE l s) YX dN hj;rw[hzn]at this;have e2:l[bE l s]=eo l (bE l s):=by simp[eo,au,dN]
   rw[e2,hn,k9]at this;omega
  rw[hi]
theorem iX.abC{l rl:List Nm}(h:iX l rl)(s:aj):og rl s=lu l s:=by
 unfold og lu;cases h2:fc l s (bE l s)with
 |false=>
  have :Mp rl s=none:=F7.2 (by rw[h.lk];exact(oZ l s).2 h2);rw[this];simp
 |true=>
  cases h3:Mp rl s with
  |none=>
   have :=F7.1 h3;rw[h.lk]at this;rw[(oZ l s).1 this]at h2;cases h2
  |some _=>simp
theorem iX.drop{l rl:List Nm}(h:iX l rl)(s:aj):iX (kh l s) (fU rl s):=by
 rw[BO h.sorted,oF h.IJ];exact⟨List.Pairwise.sublist List.filter_sublist h.sorted,h.perm.filter _⟩
theorem Mx(x:Nm):∀{l:List Nm},dF l->(l.filter (fun y=> !decide (y.name=x.name))++[x]).Perm (qK x l):=by
 intro l h;have h1:(qK x l).filter (fun y=> !decide (y.name=x.name))=l.filter (fun y=> !decide (y.name=x.name)):=by
  refine sR (List.Pairwise.sublist List.filter_sublist (oh h)) (List.Pairwise.sublist List.filter_sublist h) fun s=>?_
  have key:∀m:List Nm,WB.lk (m.filter fun y=> !decide (y.name=x.name)) s=if s=x.name then none else WB.lk m s:=fun m=>by
   induction m with
   |nil=>by_cases e:s=x.name<;>simp[WB.lk]
   |cons a m ih=>
    rw[c_];by_cases e:a.name=x.name
    ·simp only[e,decide_true,Bool.not_true,Bool.false_eq_true,if_false];rw[ih,eY];by_cases e2:s=x.name
     ·simp[e2]
     ·rw[if_neg e2,if_neg e2,if_neg (fun e3=>e2 (e3.symm.trans e))]
    ·simp only[e,decide_false,Bool.not_false,if_true];rw[eY,eY,ih];by_cases e2:s=x.name
     ·subst e2;simp[e]
     ·simp[e2]
  rw[key,key,Eb];by_cases e:s=x.name
  ·simp[e]
  ·rw[if_neg e,if_neg e,if_neg (fun e2=>e e2.symm)]
 have hx:x∈qK x l:=(p9 (show WB.lk (qK x l) x.name=some x by rw[Eb,if_pos rfl])).1;have C_:=mg (oh (x:=x) h);rw[<-h1];generalize qK x l=m at *;clear h1
 induction m with
 |nil=>cases hx
 |cons a m ih=>
  rw[aJ,bL]at C_;rw[c_];by_cases e:a.name=x.name
  ·have hax:a=x:=by
    rcases aK.1 hx with rfl|hx
    ·rfl
    ·exact absurd (e▸List.mem_map_of_mem (f:=Nm.name) hx) C_.1
   subst hax;simp only[decide_true,Bool.not_true,Bool.false_eq_true,if_false];rw[bJ.2]
   ·exact List.perm_append_comm
   ·intro y hy;have :y.name≠a.name:=fun e=>C_.1 (e▸List.mem_map_of_mem (f:=Nm.name) hy)
    simp[this]
  ·simp only[e,decide_false,Bool.not_false,if_true,bz];rcases aK.1 hx with rfl|hx
   ·exact absurd rfl e
   ·exact(ih hx C_.2).cons a
theorem iX.set{l rl:List Nm}(h:iX l rl)(x:Nm):iX (eE l x) (iN rl x):=by
 unfold iN;rw[h.may];by_cases h0:cu l x=0
 ·rw[if_pos h0];have hr:bK x=true:=by
   cases hr:bK x with
   |true=>rfl
   |false=>unfold cu at h0;rw[if_pos hr]at h0;cases h0
  have e1:eE l x=qK x l:=by
   rw[<-FK];unfold cu at h0;unfold eE;rw[if_neg (by simp[hr])]at h0 ⊢;by_cases h2:fc l x.name (bE l x.name)=true
   ·rw[if_pos h2,if_pos h2]
   ·rw[if_neg h2]at h0 ⊢;rw[if_neg h2];by_cases h3:20<=l.length
    ·rw[if_pos h3]at h0;cases h0
    ·rw[if_neg h3]
  rw[e1];refine⟨oh h.sorted,?_⟩;rw[oF h.IJ];exact((h.perm.filter _).append_right _).trans (Mx x h.sorted)
 ·rw[if_neg h0];have e1:eE l x=l:=by
   unfold cu at h0;unfold eE;by_cases hr:bK x=false
   ·rw[if_pos hr]
   ·rw[if_neg hr]at h0 ⊢;by_cases h2:fc l x.name (bE l x.name)=true
    ·rw[if_pos h2]at h0;exact absurd rfl h0
    ·rw[if_neg h2]at h0 ⊢;by_cases h3:20<=l.length
     ·rw[if_pos h3]
     ·rw[if_neg h3]at h0;exact absurd rfl h0
  rw[e1];exact h
theorem NR{l:List Nm}{s:aj}{p:Nat}(hp:1<=p)(h:mc l s p=some s):∀n,(mc l s n).isSome=true:=by
 have hm:∀m,mc l s (p *m)=some s:=fun m=>by
  induction m with
  |zero=>rfl
  |succ m ih=>
   have :=Kl (k:=p) (i:=p *m) (j:=0) ih rfl;rw[Nat.zero_add,h]at this;rw[Nat.mul_succ];exact this
 intro n;cases hw:mc l s n with
 |some _=>rfl
 |none=>
  have :=NS hw (p *n) (Nat.le_mul_of_pos_left n hp);rw[hm n]at this;cases this
theorem CK{l:List Nm}:∀(n:Nat) {s:aj},(mc l s n).isSome=true->fg l n s=(⟨#[]⟩,0,11)
 |0,_,_=>rfl
 |n+1,s,h=>by
  rw[Fg]at h;cases hn:BD l s with
  |none=>rw[hn]at h;cases h
  |some t=>rw[hn]at h;rw[Oh hn];exact CK n h
theorem CI{l rl:List Nm}(hr:iX l rl):∀(n N:Nat) (seen:List aj) (s:aj),n<=N->rl.length+1<=n+seen.length->seen.Nodup->(∀u∈seen,u∈rl.map Nm.name)->(∀u∈seen,∃i,1<=i/\mc l u i=some s)->
 sj rl n seen s=fg l N s
 |0,N,seen,s,_,h2,h3,h4,_=>by
  have :=wj h3 h4;simp at this;omega
 |n+1,N,seen,s,h1,h2,h3,h4,h5=>by
  obtain⟨N,rfl⟩:∃M,N=M+1:=⟨N-1,by omega⟩;rw[sj];by_cases hs:s∈seen
  ·rw[if_pos hs];obtain⟨i,hi,hw⟩:=h5 s hs;exact(CK _ (NR hi hw _)).symm
  ·rw[if_neg hs,hr.lk,fg];cases hk:look l s with
   |none=>rfl
   |some x=>
    simp only;rw[jI];by_cases h6:x.gK=⟨#[]⟩
    ·simp[h6]
    ·simp only[h6,decide_false,Bool.false_eq_true,if_false];by_cases h7:0<=x.bF
     ·simp[h7]
     ·simp only[h7,if_false];have hn:BD l s=some x.gK:=by unfold BD;rw[hk];simp only;rw[jI];simp[h6,h7]
      refine CI hr n N (s::seen) x.gK ae (by rw[List.length_cons];omega) (bL.2 ⟨hs,h3⟩) (fun u hu=>?_) (fun u hu=>?_)
      ·rcases aK.1 hu with rfl|hu
       ·have :=Sj hn;exact(hr.perm.map Nm.name).mem_iff.2 this
       ·exact h4 u hu
      ·rcases aK.1 hu with rfl|hu
       ·exact⟨1,aP _,by rw[mc,mc];exact hn⟩
       ·obtain⟨i,hi,hw⟩:=h5 u hu;exact⟨i+1,by omega,by rw[mc,hw];exact hn⟩
theorem iX.res{l rl:List Nm}(h:iX l rl)(s:aj):sj rl (rl.length+1) [] s=fg l (l.length+1) s:=
 CI h _ _ [] s (by rw[h.len];exact aP _) ai .nil (fun u hu=>by cases hu) (fun u hu=>by cases hu)
theorem iX.all{l rl ys:List Nm}(h:iX l rl)(hp:ys.Perm rl)(hs:ys.Pairwise fun a b=>decide (fy b.name a.name<0)=false):ys=l:=by
 have hn:(ys.map Nm.name).Nodup:=(hp.map Nm.name).nodup_iff.2 h.IJ;have vp:dF ys:=by
  unfold dF;have Eo:ys.Pairwise fun a b=>a.name≠b.name:=by
   have :=List.nodup_iff_pairwise_ne.1 hn
   rwa [List.pairwise_map]at this
  refine(hs.and Eo).imp fun {a b} hab=>?_
  obtain⟨h1,h2⟩:=hab;have h3:¬fy b.name a.name<0:=by simpa using h1
  have h4:fy a.name b.name≠0:=fun e=>h2 (ov e)
  have :=k_ a.name b.name;omega
 exact sR vp h.sorted fun s=>by rw[KW (hp.trans h.perm) h.nodup]
deriving instance DecidableEq for Nm
theorem OF(a b:Nm):(decide (a.name=b.name)&&(decide (a.gK=b.gK)&&(decide (a.bF=b.bF)&&true)))=decide (a=b):=by
 obtain⟨a1,a2,a3⟩:=a;obtain⟨b1,b2,b3⟩:=b;rw[Bool.eq_iff_iff];simp
end WB
namespace Go.Proofs.YtjhogocabcdjbabGreatDoor
open Tryz
open Go Go.RowKit WB
abbrev fb (v:Value) (l:List Nm):HP:=SL 75 3 Nm.cells v l
theorem mF:(prog.info? 75).map (fun i=>(i.zero,i.size,i.bytes))=some (some (Value.agg #[.string ⟨#[]⟩,.string ⟨#[]⟩,.int .i64 0]),3,40):=by kernel_rfl
theorem rm(x:Nm):x.cells.all Value.oneCell'=true:=rfl
section
variable (w0:World) (L R R2:List HP) (b off:Nat) (cs:List Value) (T:TypeId) (v:Value) (l:List Nm) (s:aj) (x:Nm)
theorem W6(hp:bB L (bA b (.cells cs.toArray T (0,0))) R)(hq:bB R (fb v l) R2)(hc:cs[off]? =some v)(hl:l.length<1000000)(hs:dF l):
 KE prog 148 #[.pointer (some ⟨b,off,none⟩),.string s] w0 L (fun u M=>u=.tuple #[.int .i64 (bE l s:Nat),.bool (fc l s (bE l s))]/\M=L):=fun w hw=>
 (pg b off cs.toArray T (0,0) v l s w w0 R2 (hw.ey hp hq) (by simpa using hc) hl (hs.mono s)).mono fun e w' ⟨k,hk,he,hb⟩=>by
  obtain rfl:=lh hk;exact⟨_,_,he,⟨rfl,rfl⟩,hw.aA hb,hb⟩
theorem u_(hp:bB L (bA b (.cells cs.toArray T (0,0))) R)(hq:bB R (fb v l) R2)(hc:cs[off]? =some v)(hl:l.length<1000000)(hs:dF l):
 KE prog 57 #[.pointer (some ⟨b,off,none⟩),.string s] w0 L (fun u M=>u=.bool (cP l s)/\M=L):=fun w hw=>
 (Ml b off cs.toArray T v l s w w0 R2 (hw.ey hp hq) (by simpa using hc) (hs.mono s) hl).mono fun e w' ⟨he,hb⟩=>⟨_,_,he,⟨rfl,rfl⟩,hw.aA hb,hb⟩
theorem L6(hp:bB L (bA b (.cells cs.toArray T (0,0))) R)(hq:bB R (fb v l) R2)(hc:cs[off]? =some v)(hl:l.length<1000000)(hs:dF l):
 KE prog 144 #[.pointer (some ⟨b,off,none⟩),.string s] w0 L (fun u M=>u=.tuple #[.string (fg l (l.length+1) s).1,.int .i64 (fg l (l.length+1) s).2.1,dj 70 (fg l (l.length+1) s).2.2]/\M=L):=fun w hw=>
 (FG b off cs.toArray T v l s w w0 R2 (hw.ey hp hq) (by simpa using hc) hs.mono hl).mono fun e w' ⟨he,hb⟩=>⟨_,_,he,⟨rfl,rfl⟩,hw.aA hb,hb⟩
theorem IX(hp:bB L (bA b (.cells cs.toArray T (0,0))) R)(hq:bB R (fb v l) R2)(hc:cs[off]? =some v)(h1:x.name.size<=maxLen)(h2:x.gK.size<=maxLen)(hl:l.length<=20)(hs:dF l):
 KC prog 170 #[.pointer (some ⟨b,off,none⟩),.agg x.cells.toArray] w0 L (fun u M=>u=dj 70 (cu l x)/\∃v',M=bA b (.cells (cs.set off v').toArray T (0,0))::fb v' (eE l x)::R2):=fun w hw=>
 (RI b off cs.toArray T v l x w w0 R2 (hw.ey hp hq) (by simpa using hc) h1 h2 (hs.mono _) hl).mono fun e w' ⟨he,v',aM⟩=>⟨_,_,he,⟨rfl,v',rfl⟩,by
  rw[List.setIfInBounds_toArray]at aM;exact aM⟩
end
theorem Sl(w0:World)(L:List HP)(v:Value)(xs:List Nm)(k:Nat)(hk:k<xs.length)(hn:xs.length<1000000):
 KC prog 338 #[v,.int .i64 (k:Nat),.int .i64 ((k:Int)+1)] w0 (fb v xs::L) (fun v' L'=>L'=fb v' (xs.eraseIdx k)::L):=by
 refine KC.pre (fun w hw=>qt hw hk) ?_;rintro⟨g,cap,rfl⟩;refine KC.pre (fun w hw=>(jq hw).2.1) fun Ag=>?_
 refine KC.mk (n:=33) func338 rfl ntmps338 ai ?_;refine lg ?_;refine gZ ?_;refine Z1 ?_;refine yj ?_;refine KO.PY (lo:=k) (hi:=k+1) (mx:=xs.length) rfl rfl rfl rfl underlying86 sizeOf75 rfl ae rfl ae ae ae rfl (fun q13=>?_);refine Z0 ?_;refine gY ?_;refine mM ?_;refine K.ct rfl ez ?_;refine qp ?_;refine yj ?_;refine ab3 ?_;refine gZ ?_;refine KO.vD rfl rfl underlying86 sizeOf75 aN ae rfl ?_;refine gZ ?_;refine X3 ?_;refine KO.move (j:=k+1) rfl rfl rfl bB.head rfl Ag underlying86 mF (fun _=>rfl) rm ae ae rfl ?_;refine EJ ?_;refine yj ?_;refine Z1 ?_;refine KO.PX (lo:=k+(xs.length-(k+1))) (hi:=xs.length) rfl rfl rfl underlying86 sizeOf75 rfl rfl ae ae rfl ?_;refine KO.clear rfl rfl bB.head Ag ez ez underlying86 mF (fun _=>rfl) rfl rfl ?_;refine EI ?_;refine kq ?_;refine KQ.aU rfl rfl (fun w' hs=>⟨_,_,rfl,rfl,?_⟩);have e:(List.take (k+(xs.length-(k+1))) (List.take k xs++List.drop (k+1) xs++List.drop (k+(xs.length-(k+1))) xs))=xs.eraseIdx k:=by
  rw[List.take_append_of_le_length ez,List.take_of_length_le ez,List.eraseIdx_eq_take_drop_succ]
 rw[e]at hs;exact hs
theorem Sn(w0:World)(L R R2:List HP)(b off:Nat)(cs:List Value)(T:TypeId)(v:Value)(l:List Nm)(s:aj)(hp:bB L (bA b (.cells cs.toArray T (0,0))) R)(hq:bB R (fb v l) R2)(hc:cs[off]? =some v)(hl:l.length<1000000)(hs:dF l):
 KC prog 237 #[.pointer (some ⟨b,off,none⟩),.string s] w0 L (fun u M=>u=dj 70 (lu l s)/\∃v',M=bA b (.cells (cs.set off v').toArray T (0,0))::fb v' (kh l s)::R2):=by
 refine KC.perm (L':=bA b (.cells cs.toArray T (0,0))::fb v l::R2) (fun w hw=>hw.ey hp hq) ?_;have wK:=(aw.1 hc).1;refine KC.mk (n:=27) func237 rfl ntmps237 ai ?_;refine yb ?_;refine KO.ce (cp:=[]) rfl rfl rfl call148 rfl (W6 w0 _ _ _ b off cs T v l s .head .head hc hl hs) ?_;rintro v' L' ⟨rfl,rfl⟩;refine qQ ?_;refine oJ ?_;cases hh:fc l s (bE l s)with
 |false=>
  have e1:lu l s=7:=by unfold lu;rw[hh];rfl
  have e2:kh l s=l:=by unfold kh;rw[hh];rfl
  refine xa ?_;refine Iu ?_;refine AZ ?_;refine KQ.aU rfl rfl (fun w' hs=>⟨_,_,rfl,⟨?_,v,rfl⟩,?_⟩)
  ·rw[e1];rfl
  ·rw[e2,List.dE hc];exact hs
 |true=>
  have e1:lu l s=0:=by unfold lu;rw[hh];rfl
  have e2:kh l s=l.eraseIdx (bE l s):=by unfold kh;rw[hh];rfl
  have hk:=tJ hh;refine Lz ?_;refine gY ?_;refine XY ?_;refine KO.bO (i:=off) rfl rfl isAgg86 .head rfl hc rfl ?_;refine gZ ?_;refine vO ?_;refine KO.cl (cp:=[]) rfl rfl rfl call338 rfl (KC.jN (.tail .head) (Sl w0 _ v l (bE l s) hk hl)) ?_;rintro v' L' rfl;refine KO.fact (fun _ hs=>bo hs) ?_;rintro⟨a',c',rfl,-⟩;refine XY ?_;refine KO.fu (i:=off) rfl rfl rfl aN Y51 rfl (.tail .head) rfl wK ?_;refine qO ?_;refine KQ.aU rfl rfl (fun w' hs=>⟨_,_,rfl,⟨?_,.slice a' (l.eraseIdx (bE l s)).length c',rfl⟩,?_⟩)
  ·rw[e1];rfl
  ·rw[e2];exact hs
theorem Mg(w0:World)(L:List HP)(v:Value)(xs:List Nm)(hs:∀w,St w0 L w->Src w Nm.cells v xs)(hn:xs.length<1000000):
 KE prog 266 #[v] w0 L (fun u M=>M=fb u xs::L):=by
 refine KE.mk (n:=8) func266 rfl ntmps266 ai ?_;intro w hw;obtain⟨a,cap,rfl,Wq,hc⟩:=hs w hw;refine x6 ?_;cases a with
 |none=>
  obtain rfl:=Wq rfl;refine cW ?_;refine KO.abx rfl underlying86 rfl ?_;refine Br ?_;refine kr ?_;refine KQ.aU rfl rfl (fun w' hs=>⟨_,_,rfl,rfl,cw (hw.aA hs.below),hs.below⟩)
 |some ad=>
  refine cW ?_;refine KO.abx rfl underlying86 rfl ?_;refine Z3 ?_;refine Lz ?_;refine di ?_;refine KO.Rl Nm.cells rfl underlying86 sizeOf75 rfl ?_;intro b5;refine Z1 ?_;refine KO.rH (z:=Value.agg #[.string ⟨#[]⟩,.string ⟨#[]⟩,.int .i64 0]) (sz:=3) (fk:=40) (ys:=xs) rfl rfl rfl .head (fun w' hs=>Src.ext ⟨some ad,cap,rfl,Wq,hc⟩ (Ext.bU hs.below)) underlying86 mF rfl (fun _=>rfl) rm ez ah rfl ?_;intro v';refine kq ?_;refine KQ.aU rfl rfl (fun w' hs=>⟨_,_,rfl,rfl,?_,hs.below⟩);rw[List.nil_append]at hs;exact hw.stack (M:=[fb v' xs]) hs
theorem IZ(w0:World)(L R R2:List HP)(b off:Nat)(cs:List Value)(T:TypeId)(v:Value)(l:List Nm)(hp:bB L (bA b (.cells cs.toArray T (0,0))) R)(hq:bB R (fb v l) R2)(hc:cs[off]? =some v)(hl:l.length<1000000):
 KE prog 169 #[.pointer (some ⟨b,off,none⟩)] w0 L (fun u M=>M=fb u l::L):=by
 refine KE.mk (n:=8) func169 rfl ntmps169 ai ?_;intro w hw;have eM:w.cell? ⟨b,off,none⟩=some v:=by rw[World.cell?,(hw.nD hp).2];simpa using hc
 have Pb:=Src.of hq w (hw.pick hp).drop;refine lg ?_;refine XY ?_;refine KO.sl rfl rfl isAgg86 eM rfl ?_;refine KO.ce (cp:=[]) rfl rfl rfl call266 rfl (Mg w _ v l (fun w' hs=>Pb.ext (Ext.bU hs.below)) hl) ?_;rintro v' L' rfl;refine kq ?_;refine KQ.aU rfl rfl (fun w' hs=>⟨_,_,rfl,rfl,hw.stack (M:=[fb _ l]) hs,hs.below⟩)
end Go.Proofs.YtjhogocabcdjbabGreatDoor
namespace WB
open Go Go.RowKit
def lF (o:Oper):Bool:=match o.op with| .defer _=>false|_=>true
abbrev FR (l:Nat):Fence:=Fence.wide.inRound l
section
variable {P:Program} {ops:Array Oper} {Q:Exit->Act->World->Prop} {l:Nat}
theorem FY{o:Oper}(h:lF o=true):∀c,o.op≠ .defer c:=fun c e=>by unfold lF at h;rw[e]at h;cases h
theorem LW{row:String}{args:Array Value}{w:World}{R:Value->World->Prop}(h:Rows P row args w R):RowsIn (FR l) 0 P row args w R:=fun c cs _=>
 let⟨v,w',r,s⟩:=h c cs;⟨v,w',r,stepsIn_wide.2 s⟩
theorem LI{o:Oper}{a:Act}{N N':Act->World->Prop}{r:Result Next}(hn:∀a w,N a w->N' a w)(h:o.upon P a N Q r):o.uponIn (FR l) 0 P a N' Q r:=by
 cases r with
 |ok x w'=>
  cases x with
  |value v=>exact hn _ _ h
  |skip=>exact hn _ _ h
  |defer d=>exact hn _ _ h
  |enter f args=>
   refine⟨fun _=>by simp[Fence.wide]at *,CallsIn.inRound l (callsIn_wide.2 (h.mono fun e w hh=>?_))⟩;cases e with
   |returned v=>exact hn _ _ hh
   |panicked c=>exact hh
   |outgrown=>exact hh
  |row row args=>exact⟨fun _=>by simp[Fence.wide]at *,(LW h).mono fun v w hh=>hn _ _ hh⟩
  |_=>exact h.elim
 |halt s w'=>
  cases s with
  |panic v=>exact h
  |_=>exact h.elim
theorem y6{o:Oper}{a:Act}{w:World}{N N':Act->World->Prop}(hd:lF o=true)(hn:∀a w,N a w->N' a w)(h:o.wp P a w N Q):o.wpIn (FR l) 0 P a w N' Q:=
 ⟨fun _ _=>trivial,by
  show o.uponIn (FR l) 0 P a N' Q ((o.semAt (some l) a.eval).run P w)
  rw[Oper.semAt_some l _ _ (FY hd)]
  exact LI hn h⟩
theorem qZ(hQ:∀a w,¬Q .outgrown a w):∀{os:List Oper} (_:os.all lF=true) {a:Act} {w:World},wpList P ops Q os a w->wpListIn (FR l) 0 P ops Q os a w
 |[],_,_,_,h=>h
 |o::os,hd,a,w,h=>by
  simp only[List.all_cons,bm]at hd;unfold wpList at h;unfold wpListIn;split
  ·rename_i hw;rw[if_pos hw]at h;rcases h with h|⟨_,a0,w0,h⟩
   ·exact y6 hd.1 (fun a w hh=>qZ hQ hd.2 hh) h
   ·exact absurd h (hQ _ _)
  ·rename_i hw;rw[if_neg hw]at h;exact⟨fun _ _=>trivial,qZ hQ hd.2 h⟩
theorem pJ(hQ:∀a w,¬Q .outgrown a w)(hd:ops.toList.all lF=true):∀{s:List Nat} {a:Act} {w:World},wpOps P ops Q s a w->wpOpsIn (FR l) 0 P ops Q s a w
 |[],_,_,h=>h
 |i::s,a,w,h=>by
  unfold wpOps at h;unfold wpOpsIn;cases ho:ops[i]? with
  |none=>rw[ho]at h;exact pJ hQ hd h
  |some o=>
   rw[ho]at h;simp only at h ⊢;split
   ·rename_i hw;rw[if_pos hw]at h;rcases h with h|⟨_,a0,w0,h⟩
    ·exact y6 (aL.1 hd o (Array.mem_toList_iff.2 (Array.mem_of_getElem? ho))) (fun a w hh=>pJ hQ hd hh) h
    ·exact absurd h (hQ _ _)
   ·rename_i hw;rw[if_neg hw]at h;exact⟨fun _ _=>trivial,pJ hQ hd h⟩
theorem xJ{id:Nat}{a:Act}{w:World}(ks:List Kd)(ord:List Nat)(wM:P.follows .mixedOrders=true)(qM:YE ops ks ord=true)(hQ:∀a w,¬Q .outgrown a w)(hd:ops.toList.all lF=true)(h:ja P ops Q (ord.map (item ops ks)) a w.drew):(Code.region id ops true).wpIn (FR l) 0 P Q a w:=by
 simp only[YE,bm]at qM;obtain⟨hb,ha,cU,dN,hp⟩:=qM;refine wpIn_region_draw fun t=>pJ hQ hd ?_
 have hv:Valid ops (Region.schedule (P.follows .mixedOrders) ops t):=np _ wM _ _ fun i o ho d hd=>by
  have hi:i<ops.size:=(Array.getElem?_eq_some_iff.1 ho).1
  have h1:=aL.1 (aL.1 hb i (cE.2 hi)) d (by
   have :ops.toList.getD i default=o:=by
    simp[Array.getElem?_eq_getElem hi]at ho ⊢;simp[ho]
   rw[this];exact hd)
  simpa[Nat.blt_eq]using h1
 generalize Region.schedule (P.follows .mixedOrders) ops t=l at hv ⊢;refine wA hb ha hv l [] ord rfl (fun x=>?_) hp a _ h;rw[hv.2.1 x];constructor
 ·intro hx;simpa[Nat.blt_eq]using aL.1 dN x hx
 ·intro hx;exact List.contains_iff_mem.1 (aL.1 cU x (cE.2 hx))
end
def KR (l:Nat) (P:Program) (c:Code) (Q:Exit->Act->World->Prop) (n:Nat) (D:List Deferred) (w0:World) (G:Env) (L:List HP):Prop:=
 ∀a w,cD n D G a->St w0 L w->c.wpIn (FR l) 0 P Q a w
section
variable {P:Program} {ops:Array Oper} {Q:Exit->Act->World->Prop} {n l:Nat} {D:List Deferred} {w0:World} {G G':Env} {L L' R:List HP} {c x y:Code} {e:Exit}
theorem KR.Ih{id:Nat}{os:List Oper}(hd:os.all lF=true)(hQ:∀a w,¬Q .outgrown a w)(h:KO P os.toArray false Q n D w0 G L (wr os)):KR l P (.region id os.toArray false) Q n D w0 G L:=fun a w ha hw=>by
 have :=h a w ha hw;simp only[Ko,Ix]at this;exact wpIn_region_lit (qZ hQ hd this)
theorem KR.draw{id:Nat}(ks:List Kd)(ord:List Nat)(wM:P.follows .mixedOrders=true)(qM:YE ops ks ord=true)(hd:ops.toList.all lF=true)(hQ:∀a w,¬Q .outgrown a w)(h:KO P ops true Q n D w0 G L (ord.map (item ops ks))):KR l P (.region id ops true) Q n D w0 G L:=fun a _ ha hw=>
 xJ ks ord wM qM hQ hd (h a _ ha hw.drew)
theorem KR.seq(h:KR l P x (Exit.then (y.wpIn (FR l) 0 P Q) Q) n D w0 G L):KR l P (.seq x y) Q n D w0 G L:=fun a w ha hw=>wpIn_seq (h a w ha hw)
theorem KR.block{id:Nat}(h:KR l P x (Exit.inBlock id Q) n D w0 G L):KR l P (.block id x) Q n D w0 G L:=fun a w ha hw=>wpIn_block (h a w ha hw)
theorem KR.ret(h:KQ Q .ret n D w0 G L):KR l P .ret Q n D w0 G L:=fun a w ha hw=>wpIn_ret (h a w ha hw)
theorem KR.skip(h:KQ Q .normal n D w0 G L):KR l P .skip Q n D w0 G L:=fun a w ha hw=>wpIn_skip (h a w ha hw)
theorem KR.exit{id:Nat}(h:KQ Q (.exit id) n D w0 G L):KR l P (.exit id) Q n D w0 G L:=fun a w ha hw=>wpIn_exit (h a w ha hw)
theorem KR.cond{cd:Operand}{b:Bool}(hc:ev G cd=some (.bool b))(ht:b=true->KR l P x Q n D w0 G L)(hf:b=false->KR l P y Q n D w0 G L):KR l P (.cond cd x y) Q n D w0 G L:=fun a w ha hw=>
 wpIn_cond_split (ha.eval hc) (fun e=>ht e a w ha hw) (fun e=>hf e a w ha hw)
theorem KR.bW{cd:Operand}{b:Bool}(hc:ev G cd=some (.bool b))(hb:b=true)(h:KR l P x Q n D w0 G L):KR l P (.cond cd x y) Q n D w0 G L:=
 KR.cond hc (fun _=>h) (fun e=>by rw[hb]at e;cases e)
theorem KR.ct{cd:Operand}{b:Bool}(hc:ev G cd=some (.bool b))(hb:b=false)(h:KR l P y Q n D w0 G L):KR l P (.cond cd x y) Q n D w0 G L:=
 KR.cond hc (fun e=>by rw[hb]at e;cases e) (fun _=>h)
theorem KQ.u5(h:KR l P y Q n D w0 G L):KQ (Exit.then (y.wpIn (FR l) 0 P Q) Q) .normal n D w0 G L:=h
theorem KR.conv(hs:∀w,St w0 L w->St w0 L' w)(h:KR l P c Q n D w0 G L'):KR l P c Q n D w0 G L:=fun a w ha hw=>h a w ha (hs w hw)
theorem KR.loop{α:Type}(E:α->Env)(H:α->List HP)(φ:α->Prop)(m:α->Nat)(x0:α)(h0:φ x0)(hG:EY G (E x0))(hL:∀w,St w0 L w->St w0 (H x0) w)(round:∀x,φ x->KR l P c (Exit.then (QQ n D w0 E H φ m x) Q) n D w0 (E x) (H x)):KR l P (.loop c) Q n D w0 G L:=fun a w ha hw=>by
 intro b k cs SR hb hr;have key:∀(N:Nat) (x:α) (a:Act) (w:World),m x<N->φ x->cD n D (E x) a->St w0 (H x) w->
  ∃e a' w',Q e a' w'/\ArrivesIn (Machine.fenced P (FR l)) P (lone (b.atR a (.code c::.inLoop c::k)) cs w) b k cs e a' w':=by
  intro N
  induction N with
  |zero=>intro x a w h;omega
  |succ N ih=>
   intro x a w dN hx ha hw;obtain⟨e,a₁,w₁,hq,GH⟩:=round x hx a w ha hw b (.inLoop c::k) cs SR hb hr;cases e with
   |normal=>
    obtain⟨y,hy,Wr,sN,hw'⟩:=hq;obtain⟨e₂,a₂,w₂,hq₂,aa7⟩:=ih y a₁ w₁ ae hy sN hw';exact⟨e₂,a₂,w₂,hq₂,.of_steps (StepsIn.trans GH (.one (fenced_calm hb hr rfl) stepR_inLoop)) aa7⟩
   |exit id=>exact⟨_,a₁,w₁,hq,.pass (x:=.inLoop c) rfl (fun _ _=>.inl ai) GH⟩
   |goto l=>exact⟨_,a₁,w₁,hq,.pass (x:=.inLoop c) rfl (fun _ _=>.inl ai) GH⟩
   |ret=>exact⟨_,a₁,w₁,hq,.pass (x:=.inLoop c) rfl (fun _ _=>.inl ai) GH⟩
   |panic ch=>exact⟨_,a₁,w₁,hq,.pass (x:=.inLoop c) rfl (fun _ _=>.inl ai) GH⟩
   |outgrown=>exact⟨_,a₁,w₁,hq,.pass (x:=.inLoop c) rfl (fun _ _=>.inl ai) GH⟩
 obtain⟨e,a',w',hq,GH⟩:=key (m x0+1) x0 a w (Nat.lt_succ_self _) h0 (ha.sub hG) (hL w hw);exact⟨e,a',w',hq,.of_steps (.one (fenced_calm hb hr rfl) stepR_loop) GH⟩
end
def QV (b:Nat):Deferred:={target:=.collected b,args:=#[]}
theorem St.put{w0 w:World}{L:List HP}{b:Nat}{o:Obj}(h:St w0 (bA b o::L) w)(o':Obj):St w0 (bA b o'::L) (w.putObj b o'):=
 h.upd rfl rfl rfl ai (World.putObj_heap_same h.lt) fun k hk=>World.putObj_heap_other hk
section
variable {P:Program} {f:FuncId} {args:Array Value} {w0:World} {L M M' KL:List HP} {R:Value->List HP->Prop} {fn:Func} {n:Nat} {G:Env} {RE:Ending->World->Prop} {v v1 v2:Value} {t1 t2:Nat} {T T' E E':TypeId} {b1 b2:Nat} {cs Dv:List Value} {fz fz':Nat×Nat}
theorem KE.mkM{c:Code}(hf:P.funcs[f]? =some fn)(hb:fn.body=some c)(hn:fn.ntmps=n)(dM:args.size<=n)(h:∀w,St w0 L w->K P c (bodyPostM Fence.wide 0 P fn fun e w'=> ∃v L',e=.returned v/\R v L'/\St w0 L' w'/\Below w.heap.size w w') n [] w (qm 0 args.toList) []):KE P f args w0 L R:=fun w hw=>by
 subst hn;exact callsIn_wide.1 (callsIn_of_wp_marks (n:=0) hf hb trivial (wpIn_wide.2 (h w hw _ w (cD.enter dM) (St.init w))))
theorem KQ.af9(hr:∀a w,cD n [] G a->St w0 L w->(results fn a.tmps).run P w=.ok v w)(h:∀w,St w0 L w->RE (.returned v) w):KQ (bodyPostM Fence.wide 0 P fn RE) .ret n [] w0 G L:=fun a w ha hw=>by
 show LeavesInM _ _ _ _ _ _ a.defers _ _
 rw[ha.defers];exact⟨v,hr a w ha hw,h w hw⟩
theorem KQ.abt{b:Nat}(hp:bB L (bA b (.deferred (some []))) M)(hr:∀a w,cD n [QV b] G a->St w0 M w->(results fn a.tmps).run P w=.ok v w)(h:∀w,St w0 M w->RE (.returned v) w):KQ (bodyPostM Fence.wide 0 P fn RE) .ret n [QV b] w0 G L:=fun a w ha hw=>by
 show LeavesInM _ _ _ _ _ _ a.defers _ _
 rw[ha.defers];have h1:=hw.pick hp;have h2:=(h1.put (.deferred none)).drop;exact⟨by simp,.inl ⟨b,_,rfl,run_takeDeferred h1.look.2,v,hr a _ ha h2,h _ h2⟩⟩
theorem Ut{D:List Deferred}(hr:fn.results=#[.cell t1 T,.cell t2 T'])(h1:cB G t1=some (.pointer (some ⟨b1,0,none⟩)))(h2:cB G t2=some (.pointer (some ⟨b2,0,none⟩)))(hT:∀w,(isAgg T).run P w=.ok false w)(hT':∀w,(isAgg T').run P w=.ok false w)(hp:bB L (bA b1 (.cells [v1].toArray E fz)) M)(vM:bB L (bA b2 (.cells [v2].toArray E' fz')) M')(a:Act)(w:World)(ha:cD n D G a)(hw:St w0 L w):
 (results fn a.tmps).run P w=.ok (.tuple #[v1,v2]) w:=by
 have l1:(loadVar T ⟨b1,0,none⟩).run P w=.ok v1 w:=gp (hT w) (by rw[World.cell?,(hw.nD hp).2];simp);have l2:(loadVar T' ⟨b2,0,none⟩).run P w=.ok v2 w:=gp (hT' w) (by rw[World.cell?,(hw.nD vM).2];simp);simp[results,hr,Array.getD_eq_getD_getElem?,ha.get _ _ h1,ha.get _ _ h2,asAddr,l1,l2]
theorem KQ.VK(hr:fn.results=#[.cell t1 T,.cell t2 T'])(h1:cB G t1=some (.pointer (some ⟨b1,0,none⟩)))(h2:cB G t2=some (.pointer (some ⟨b2,0,none⟩)))(hT:∀w,(isAgg T).run P w=.ok false w)(hT':∀w,(isAgg T').run P w=.ok false w)(hp:bB L (bA b1 (.cells [v1].toArray E fz)) M)(vM:bB L (bA b2 (.cells [v2].toArray E' fz')) M')(h:∀w,St w0 L w->RE (.returned (.tuple #[v1,v2])) w):
 KQ (bodyPostM Fence.wide 0 P fn RE) .ret n [] w0 G L:=KQ.af9 (fun a w ha hw=>Ut hr h1 h2 hT hT' hp vM a w ha hw) h
theorem KQ.yz{b:Nat}(hd:bB L (bA b (.deferred (some []))) KL)(hr:fn.results=#[.cell t1 T,.cell t2 T'])(h1:cB G t1=some (.pointer (some ⟨b1,0,none⟩)))(h2:cB G t2=some (.pointer (some ⟨b2,0,none⟩)))(hT:∀w,(isAgg T).run P w=.ok false w)(hT':∀w,(isAgg T').run P w=.ok false w)(hp:bB KL (bA b1 (.cells [v1].toArray E fz)) M)(vM:bB KL (bA b2 (.cells [v2].toArray E' fz')) M')(h:∀w,St w0 KL w->RE (.returned (.tuple #[v1,v2])) w):
 KQ (bodyPostM Fence.wide 0 P fn RE) .ret n [QV b] w0 G L:=KQ.abt hd (fun a w ha hw=>Ut hr h1 h2 hT hT' hp vM a w ha hw) h
end
section
variable {P:Program} {Q:Exit->Act->World->Prop} {n:Nat} {D:List Deferred} {w0:World} {G:Env} {L M:List HP}
theorem K.rangeFunc{g:Operand}{ps:Array Tmp}{assign body:Code}{gf:Nat}{cap:Array Value}(hg:ev G g=some (.func (.func gf) #[] cap))(eg:∀args w,(callFunc gf args).run P w=.ok (.enter gf args) w)(h:∀(fn:FuncId) (tm:Array Value) (b l:Nat),cD n D G {tmps:=tm,defers:=D}->∀w,St w0 (bA l (.loop ⟨.ready,none,fn,tm,ps,assign,body,b⟩)::bA b (.deferred (some []))::L) w->
  Calls P gf (#[.func (.yield l) #[] #[]]++cap) w fun e w'=> ∃v L' st pe,e=.returned v/\st≠LoopState.busy/\St w0 (bA l (.loop ⟨st,pe,fn,tm,ps,assign,body,b⟩)::bA b (.deferred (some []))::L') w'/\
   (match pe with|none=>KQ Q .normal n (QV b::D) w0 G (bA b (.deferred (some []))::L')|some c=>K P c Q n (QV b::D) w0 G (bA b (.deferred (some []))::L'))):
 K P (.rangeFunc g ps assign body) Q n D w0 G L:=fun a w ha hw=>by
 refine wpIn_wide.1 (wpIn_rangeFunc (F:=Fence.wide) (n:=0) fun fn _=>?_);have h1:=(hw.alloc (.deferred (some []))).alloc (.loop {state:=.ready,pending:=none,fn,tmps:=a.tmps,params:=ps,assign,body,defers:=w.heap.size});rw[World.size_alloc]at h1;obtain⟨W1,Zc⟩:∃W1,(w.alloc (.deferred (some []))).alloc (.loop {state:=.ready,pending:=none,fn,tmps:=a.tmps,params:=ps,assign,body,defers:=w.heap.size})=W1:=⟨_,rfl⟩;rw[Zc]at h1;refine⟨w.heap.size+1,[QV w.heap.size],W1,{target:=.fn (.func gf) cap,args:=#[.func (.yield (w.heap.size+1)) #[] #[]]},W1,gf,#[.func (.yield (w.heap.size+1)) #[] #[]]++cap,W1,by rw[<-Zc];exact run_enterLoop_outer _ _ _ _ _,?_,?_,?_,fun hh=>by simp[Fence.wide]at hh,?_⟩
 ·simp only[resolve,ha.eval hg];simp[go_sem]
 ·intro _ _;trivial
 ·simp[invoke,go_sem,eg]
 ·refine callsIn_wide.2 ((h fn a.tmps w.heap.size (w.heap.size+1) ⟨ha.size,rfl,ha.get⟩ _ h1).mono ?_);rintro e w' ⟨v,L',st,pe,rfl,gP,hs,hj⟩;have h2:=hs.put (.loop ⟨.exhausted,pe,fn,a.tmps,ps,assign,body,w.heap.size⟩);refine⟨pe,_,run_endLoop hs.look.2 gP,?_⟩;have Zb:cD n (QV w.heap.size::D) G {a with defers:=[QV w.heap.size]++a.defers}:=⟨ha.size,by rw[ha.defers];rfl,ha.get⟩;cases pe with
  |none=>exact hj _ _ Zb h2.drop
  |some c=>exact wpIn_wide.2 (hj _ _ Zb h2.drop)
end
def KY (P:Program) (l:Nat) (x:Value) (w0:World) (L:List HP) (Rt Rf:List HP->Prop):Prop:=
 ∀(N:List HP) (w:World),St w0 (L++N) w->YieldAt Fence.wide 0 P l #[x] w fun e w'=>(e=.returned (.bool true)/\∃L',Rt L'/\St w0 (L'++N) w')\/(e=.returned (.bool false)/\∃L',Rf L'/\St w0 (L'++N) w')
def QS (P:Program) (l:Nat) (body:Code) (R:Ending->World->Prop):Exit->Act->World->Prop:=
 Exit.then (fun a₁ w₁=> ∃w₂,(Instr.beginRound l).run P w₁=.ok () w₂/\body.wpIn (FR l) 0 P (roundPost P l R) a₁ w₂) (fun _ _ _=>False)
section
variable {P:Program} {Q:Exit->Act->World->Prop} {n l:Nat} {D:List Deferred} {w0:World} {G:Env} {L M:List HP} {x:Value} {Rt Rf:List HP->Prop} {R:Ending->World->Prop}
theorem cD.aei{tm:Array Value}{p:Nat}(h:cD n D G {tmps:=tm,defers:=D})(hp:Nat.blt p n=true)(v:Value):cD n [] ((p,v)::G) {tmps:=tm.setIfInBounds p v,defers:=[]}:=by
 have :=h.put p v (by simpa[Nat.blt_eq]using hp);exact⟨this.size,rfl,this.get⟩
theorem KY.mk{fn:FuncId}{tm:Array Value}{p b:Nat}{assign body:Code}(hk:cD n D G {tmps:=tm,defers:=D})(hp:Nat.blt p n=true)(h:∀N,KR l P assign (QS P l body fun e w'=>(e=.returned (.bool true)/\∃L',Rt L'/\St w0 (L'++N) w')\/(e=.returned (.bool false)/\∃L',Rf L'/\St w0 (L'++N) w')) n [] w0 ((p,x)::G)
  (bA l (.loop ⟨.ready,none,fn,tm,#[p],assign,body,b⟩)::(M++N))):
 KY P l x w0 (bA l (.loop ⟨.ready,none,fn,tm,#[p],assign,body,b⟩)::M) Rt Rf:=fun N w hw=>by
 refine⟨fn,_,assign,body,run_yield (args:=#[x]) hw.look.2 rfl,roundIn_of_wpIn (F:=Fence.wide) (n:=0) trivial ?_⟩;exact h N _ w (by simpa using hk.aei hp x) hw
theorem KQ.begin{rc:Loop}{body:Code}(hp:bB L (bA l (.loop rc)) M)(hs:rc.state=.ready)(h:KR l P body (roundPost P l R) n D w0 G (bA l (.loop {rc with state:=.busy})::M)):KQ (QS P l body R) .normal n D w0 G L:=fun a w ha hw=>
 have h1:=hw.pick hp
 ⟨_,run_beginRound h1.look.2 hs,h a _ ha (h1.put _)⟩
theorem KQ.goes{rc:Loop}(hp:bB L (bA l (.loop rc)) M)(h:∀w,St w0 (bA l (.loop {rc with state:=.ready,pending:=none})::M) w->R (.returned (.bool true)) w):KQ (roundPost P l R) .normal n D w0 G L:=fun a w ha hw=>
 have h1:=hw.pick hp
 ⟨_,_,run_endRound none h1.look.2,h _ (h1.put _)⟩
theorem KQ.leaves{rc:Loop}(hp:bB L (bA l (.loop rc)) M)(h:∀w,St w0 (bA l (.loop {rc with state:=.done,pending:=some .ret})::M) w->R (.returned (.bool false)) w):KQ (roundPost P l R) .ret n D w0 G L:=fun a w ha hw=>
 have h1:=hw.pick hp
 ⟨_,_,run_endRound (some .ret) h1.look.2,h _ (h1.put _)⟩
end
def qR (P:Program) (ops:Array Oper) (Q:Exit->Act->World->Prop) (n:Nat) (D:List Deferred) (w0:World) (G:Env) (L:List HP) (os:List Oper):Prop:=
 ∀a w,cD n D G a->St w0 L w->wpListIn Fence.wide 0 P ops Q os a w
section
variable {P:Program} {ops:Array Oper} {Q:Exit->Act->World->Prop} {n l t:Nat} {D:List Deferred} {w0:World} {G:Env} {L M N:List HP} {os:List Oper} {op:Op} {ty T T' E:TypeId} {pos:String} {af:Array Edge} {x y:Operand} {v:Value} {bb:Bool} {b off:Nat}
 {Rt Rf:List HP->Prop}
theorem K.ZM{id:Nat}{os:List Oper}(h:qR P os.toArray Q n D w0 G L os):K P (.region id os.toArray false) Q n D w0 G L:=fun a w ha hw=>wpIn_wide.1 (wpIn_region_lit (h a w ha hw))
theorem qR.nil(h:KQ Q .normal n D w0 G L):qR P ops Q n D w0 G L []:=h
theorem qR.val(hv:∀a w,cD n D G a->St w0 L w->(execOp a.eval ⟨some t,op,ty,pos,af,none⟩).run P w=.ok (.value v) w)(ht:Nat.blt t n=true)(h:qR P ops Q n D w0 ((t,v)::G) L os):qR P ops Q n D w0 G L (⟨some t,op,ty,pos,af,none⟩::os):=fun a w ha hw=>by
 refine wpListIn_plain rfl fun K hK=>⟨fun _ _=>trivial,?_⟩
 show Oper.uponIn _ _ _ _ _ _ _ ((execOp a.eval _).run P w)
 rw[hv a w ha hw];exact hK _ _ (h _ w (iI ha v ht) hw)
theorem qR.mv(hx:ev G x=some v)(ht:Nat.blt t n=true)(h:qR P ops Q n D w0 ((t,v)::G) L os):qR P ops Q n D w0 G L (⟨some t,.move x,ty,pos,af,none⟩::os):=
 qR.val (fun a w ha _=>by simp[execOp,ha.eval hx]) ht h
theorem qR.not(hx:ev G x=some (.bool bb))(ht:Nat.blt t n=true)(h:qR P ops Q n D w0 ((t,.bool (!bb))::G) L os):qR P ops Q n D w0 G L (⟨some t,.unOp .not T x,ty,pos,af,none⟩::os):=
 qR.val (fun a w ha _=>by simp[execOp,ha.eval hx,Op.unary]) ht h
theorem qR.ld{cs:List Value}{fz:Nat×Nat}(hx:ev G x=some (.pointer (some ⟨b,off,none⟩)))(hT:∀w,(isAgg T).run P w=.ok false w)(hp:bB L (bA b (.cells cs.toArray E fz)) M)(hc:cs[off]? =some v)(ht:Nat.blt t n=true)(h:qR P ops Q n D w0 ((t,v)::G) L os):
 qR P ops Q n D w0 G L (⟨some t,.load T x,ty,pos,af,none⟩::os):=
 qR.val (fun a w ha hw=>by
  have eM:w.cell? ⟨b,off,none⟩=some v:=by rw[World.cell?,(hw.nD hp).2];simpa using hc
  simp[execOp,ha.eval hx,Instr.loadAt,Instr.sureAddr,gp (hT w) eM]) ht h
theorem qR.yield{ts:Array TypeId}{dst:Option Nat}(hx:ev G x=some (.func (.yield l) #[] #[]))(hy:ev G y=some v)(hY:KY P l v w0 M Rt Rf)(hs:∀w,St w0 L w->St w0 (M++N) w)(ht:∀L',Rt L'->∀a w,cD n D G a->St w0 (L'++N) w->wpListIn Fence.wide 0 P ops Q os (a.put dst (.bool true)) w)(hf:∀L',Rf L'->∀a w,cD n D G a->St w0 (L'++N) w->wpListIn Fence.wide 0 P ops Q os (a.put dst (.bool false)) w):
 qR P ops Q n D w0 G L (⟨dst,.call ⟨.value x,#[y],ts⟩,ty,pos,af,none⟩::os):=fun a w ha hw=>by
 refine wpListIn_plain rfl fun K hK=>⟨fun _ _=>trivial,?_⟩
 obtain⟨fn,tmps,assign,body,hy',hR⟩:=hY N w (hs w hw);have he:(execOp a.eval ⟨dst,.call ⟨.value x,#[y],ts⟩,ty,pos,af,none⟩).run P w=.ok (.round l fn tmps assign body) w:=by
  simp[execOp,resolve,ha.eval hx,ha.eval hy,Deferred.ofValue,invoke,hy']
 rw[show Oper.semAt Fence.wide.round a.eval ⟨dst,.call ⟨.value x,#[y],ts⟩,ty,pos,af,none⟩=execOp a.eval ⟨dst,.call ⟨.value x,#[y],ts⟩,ty,pos,af,none⟩from rfl,he];refine⟨fun hh=>by simp[Fence.wide]at hh,hR.mono ?_⟩;rintro e w' (⟨rfl,L',h1,h2⟩|⟨rfl,L',h1,h2⟩)
 ·exact hK _ _ (ht L' h1 a w' ha h2)
 ·exact hK _ _ (hf L' h1 a w' ha h2)
theorem qR.NQ{ts:Array TypeId}(hx:ev G x=some (.func (.yield l) #[] #[]))(hy:ev G y=some v)(hY:KY P l v w0 M Rt Rf)(hs:∀w,St w0 L w->St w0 (M++N) w)(hb:Nat.blt t n=true)(ht:∀L',Rt L'->qR P ops Q n D w0 ((t,.bool true)::G) (L'++N) os)(hf:∀L',Rf L'->qR P ops Q n D w0 ((t,.bool false)::G) (L'++N) os):
 qR P ops Q n D w0 G L (⟨some t,.call ⟨.value x,#[y],ts⟩,ty,pos,af,none⟩::os):=
 qR.yield hx hy hY hs (fun L' h a w ha hw=>ht L' h _ w (iI ha _ hb) hw) (fun L' h a w ha hw=>hf L' h _ w (iI ha _ hb) hw)
end
open Go
def ck (n:Int):aj:=⟨(Lib.itoa n).toArray⟩
def cY (xs:List aj) (sep:aj):aj:=⟨(Lib.join (xs.map (·.data.toList)) sep.data.toList).toArray⟩
def o5 (n:Int):Prop:= -9223372036854775808<=n/\n<=9223372036854775807
def sp:aj:=⟨#[32]⟩
def rq (m:Ms):aj:=ck m.id++sp++ck m.pri++sp++m.body++sp++m.queue++sp++ck m.bF
def plus:aj:=⟨#[43]⟩
def cK (xs:List Ms):aj:=cY (xs.map rq) plus
theorem km(s:aj):s.size=s.data.toList.length:=rfl
theorem cL{n:Int}(h:o5 n):(ck n).size<=21:=by
 have :=Lib.itoa_length_le n h.1 h.2;simpa[ck,ByteArray.size]using this
theorem z8(x y:List UInt8)(r:List (List UInt8))(sep:List UInt8):Lib.join (x::y::r) sep=x++sep++Lib.join (y::r) sep:=by
 simp[Lib.join_cons,Lib.joinTail]
theorem Mr(l:List (List UInt8))(x sep:List UInt8)(h:l≠[]):Lib.join (l++[x]) sep=Lib.join l sep++sep++x:=by
 cases l with
 |nil=>exact absurd rfl h
 |cons a r=>rw[bz,Lib.join_cons,Lib.join_cons];simp[Lib.joinTail]
theorem I8(l:List aj)(x sep:aj)(h:l≠[]):cY (l++[x]) sep=cY l sep++sep++x:=by
 unfold cY;rw[aZ,aJ,List.map_nil,Mr _ _ _ Ic];apply ByteArray.ext;apply Array.ext';simp
theorem kX(x sep:aj):cY [x] sep=x:=by
 unfold cY;rw[aJ,List.map_nil,Lib.join_one]
theorem CX(sep:aj):cY [] sep=⟨#[]⟩:=rfl
theorem Mt(x y sep:aj):cY [x,y] sep=x++sep++y:=by
 have :=I8 [x] y sep ai;rw[kX]at this;exact this
theorem gl(x y:aj)(r:List aj)(sep:aj):cY (x::y::r) sep=x++sep++cY (y::r) sep:=by
 unfold cY;rw[aJ,aJ,z8];apply ByteArray.ext;apply Array.ext';simp
theorem jx(sep:aj)(c:Nat):∀(l:List aj),(∀x∈l,x.size<=c)->(cY l sep).size<=l.length *(c+sep.size)
 |[],_=>by rw[CX];exact aH _
 |[x],h=>by
  have :=h x ai;rw[kX];simp;omega
 |x::y::r,h=>by
  have h1:=jx sep c (y::r) fun z hz=>h z (List.mem_cons_of_mem _ hz)
  have h2:=h x ai;rw[gl,aV,aV,List.length_cons,Nat.succ_mul];omega
theorem OY(l:List aj)(sep:aj):(Lib.join (l.map (·.data.toList)) sep.data.toList).length=(cY l sep).size:=by simp[cY,ByteArray.size]
theorem M3(a b c:aj):a++b++c=a++(b++c):=ByteArray.append_assoc
theorem CS{m:Ms}(h:bD m=true):(rq m).size<=100:=by
 obtain⟨h1,h2,h3,h4,h5,h6,h7,h8⟩:=bG h;have a1:=cL (n:=m.id) ⟨by omega,by omega⟩;have a2:=cL (n:=m.pri) ⟨by omega,by omega⟩;have a3:=cL (n:=m.bF) ⟨by omega,by omega⟩;have a4:m.body.size<=12:=by unfold fJ dc at h5;simp at h5;omega
 have a5:m.queue.size<=8:=by unfold cH dc at h6;simp at h6;omega
 have a6:sp.size=1:=rfl;unfold rq;simp only[aV,a6];omega
theorem qY{l:List Ms}(h:∀m∈l,bD m=true):(cK l).size<=l.length *101:=by
 unfold cK;have :=jx plus 100 (l.map rq) (fun x hx=>by obtain⟨m,hm,rfl⟩:=aB.1 hx;exact CS (h m hm));rw[aX]at this;exact this
def jM (xs:List Ms):Option Nat:=xs.findIdx? fun m=> !bD m
def ad1 (xs:List Ms):Int:=match jM xs with|none=>0|some _=>1
def ad0 (xs:List Ms):Int:=match jM xs with|none=> -1|some k=>(k:Int)
def adZ (xs:List Ms):aj:=match jM xs with|none=>cK xs|some _=>⟨#[]⟩
theorem M7{xs:List Ms}(h:∀(j:Nat) m,xs[j]? =some m->bD m=true):jM xs=none:=by
 unfold jM;rw[List.findIdx?_eq_none_iff];intro m hm;obtain⟨j,hj,rfl⟩:=List.getElem_of_mem hm;simp[h j _ (ak hj)]
theorem eV{xs:List Ms}(h:jM xs=none):∀m∈xs,bD m=true:=by
 unfold jM at h;intro m hm;simpa using List.findIdx?_eq_none_iff.1 h m hm
def pieces (c:UInt8):List UInt8->List (List UInt8)
 |[]=>[[]]
 |b::l=>if b=c then[]::pieces c l else match pieces c l with|[]=>[[b]]|p::ps=>(b::p)::ps
theorem wh(c:UInt8):∀l,pieces c l≠[]
 |[]=>by simp[pieces]
 |b::l=>by
  unfold pieces;split
  ·simp
  ·split<;>simp
theorem pieces_eq(c:UInt8)(l:List UInt8):pieces c (c::l)=[]::pieces c l:=by rw[pieces,if_pos rfl]
theorem ny{b c:UInt8}(h:b≠c){l p:List UInt8}{ps:List (List UInt8)}(e:pieces c l=p::ps):pieces c (b::l)=(b::p)::ps:=by rw[pieces,if_neg h,e]
theorem p5{c:UInt8}(r:List UInt8):∀{p:List UInt8},(∀b∈p,b≠c)->pieces c (p++c::r)=p::pieces c r
 |[],_=>pieces_eq c r
 |b::p,h=>ny (h b ai) (p5 r (fun x hx=>h x vP))
theorem od{c:UInt8}:∀{p:List UInt8},(∀b∈p,b≠c)->pieces c p=[p]
 |[],_=>rfl
 |b::p,h=>ny (h b ai) (od (fun x hx=>h x vP))
theorem xj{c:UInt8}{l:List UInt8}(h:Lib.indexByte l c= -1):pieces c l=[l]:=od fun b hb e=>by
 subst e;obtain⟨i,hi,he⟩:=List.getElem_of_mem hb;exact Lib.indexByte_none h i (by rw[ak hi,he])
theorem tx{c:UInt8}{l:List UInt8}{i:Nat}(h:Lib.indexByte l c=i):pieces c l=l.take i::pieces c (l.drop (i+1)):=by
 obtain⟨h1,h2⟩:=Lib.indexByte_some h;obtain⟨dN,he⟩:=aw.1 h1;have e:l=l.take i++c::l.drop (i+1):=by
  rw[<-he,List.getElem_cons_drop,List.take_append_drop]
 have :=p5 (c:=c) (l.drop (i+1)) (p:=l.take i) fun b hb e'=>by
  subst e';obtain⟨j,hj,hb⟩:=List.getElem_of_mem hb;rw[bu]at hj;have YY:j<i:=by omega
  refine h2 j YY ?_;rw[ak ae];simpa using hb
 rw[<-e]at this;exact this
theorem pZ(c:UInt8):∀l,∀p∈pieces c l,∀b∈p,b≠c
 |[],p,hp,b,hb=>by simp[pieces]at hp;subst hp;simp at hb
 |a::l,p,hp,b,hb=>by
  by_cases h:a=c
  ·subst h;rw[pieces_eq]at hp;rcases aK.1 hp with rfl|hp
   ·simp at hb
   ·exact pZ a l p hp b hb
  ·obtain⟨q,qs,e⟩:=List.exists_cons_of_ne_nil (wh c l);rw[ny h e]at hp;rcases aK.1 hp with rfl|hp
   ·rcases aK.1 hb with rfl|hb
    ·exact h
    ·exact pZ c l q (by rw[e];simp) b hb
   ·exact pZ c l p (by rw[e];simp[hp]) b hb
theorem xk{c:UInt8}:∀{ps:List (List UInt8)},ps≠[]->(∀p∈ps,∀b∈p,b≠c)->pieces c (Lib.join ps [c])=ps
 |[],h,_=>absurd rfl h
 |[p],_,h=>by rw[Lib.join_one];exact od (h p ai)
 |p::q::r,_,h=>by
  rw[z8,aR]
  show pieces c (p++c::Lib.join (q::r) [c])=_
  rw[p5 _ (h p ai),xk ai (fun x hx=>h x (List.mem_cons_of_mem _ hx))]
theorem gw(c:UInt8):∀l,(pieces c l).length=l.count c+1
 |[]=>rfl
 |b::l=>by
  by_cases h:b=c
  ·subst h;rw[pieces_eq,List.length_cons,gw];simp
  ·obtain⟨q,qs,e⟩:=List.exists_cons_of_ne_nil (wh c l);have :=gw c l;rw[ny h e];rw[e]at this;rw[List.count_cons_of_ne h];simpa using this
theorem sH(c:UInt8):∀(k:Nat) (l:List UInt8),l.count c=k->Lib.splitK [c] 0 k l=pieces c l
 |0,l,h=>by
  have :Lib.indexByte l c= -1:=by
   rcases Int.lt_or_le (Lib.indexByte l c) 0 with h1|h1
   ·have :=Lib.indexByte_ge l c;omega
   ·obtain⟨i,hi⟩:=Int.eq_ofNat_of_zero_le h1;have :=(Lib.indexByte_some hi).1;exact absurd (ax this) (List.count_eq_zero.1 h)
  rw[xj this];rfl
 |k+1,l,h=>by
  have hm:c∈l:=by
   rcases Decidable.em (c∈l)with hm|hm
   ·exact hm
   ·rw[List.count_eq_zero.2 hm]at h;cases h
  obtain⟨i,hi⟩:∃i:Nat,Lib.indexByte l c=i:=by
   rcases Int.lt_or_le (Lib.indexByte l c) 0 with h1|h1
   ·exfalso;have h2:Lib.indexByte l c= -1:=by have :=Lib.indexByte_ge l c;omega
    obtain⟨j,hj,he⟩:=List.getElem_of_mem hm;exact Lib.indexByte_none h2 j (by rw[ak hj,he])
   ·obtain⟨i,hi⟩:=Int.eq_ofNat_of_zero_le h1;exact⟨i,hi⟩
  have hx:Lib.index l [c]=i:=by rw[Lib.index_one];exact hi
  have oo:¬(Lib.index l [c]== -1)=true:=fun e=>by have :=beq_iff_eq.1 e;omega
  have hc:(l.drop (i+1)).count c=k:=by
   have h1:=gw c l;have h2:=tx hi;rw[h2]at h1;have h3:=gw c (l.drop (i+1));simp at h1;omega
  unfold Lib.splitK;rw[if_neg oo,hx,tx hi];simp only[aE,Nat.add_zero,List.length_cons,List.length_nil,Nat.zero_add];rw[sH c k _ hc]
def toB (l:List UInt8):aj:=⟨l.toArray⟩
theorem GZ(l:List UInt8):(toB l).data.toList=l:=rfl
def dH (c:UInt8) (s:aj):List aj:=(pieces c s.data.toList).map toB
theorem Xq{a b:aj}(h:a.data.toList=b.data.toList):a=b:=by
 apply ByteArray.ext;exact Array.ext' h
theorem FP(c:UInt8)(s:aj):(dH c s).map (·.data.toList)=pieces c s.data.toList:=by
 unfold dH;rw[List.map_map];conv=>rhs;rw[<-List.map_id (pieces c s.data.toList)]
 rfl
theorem F3{xs ys:List aj}(h:xs.map (·.data.toList)=ys.map (·.data.toList)):xs=ys:=by
 have h2:=congrArg (List.map toB) h;rw[List.map_map,List.map_map]at h2;have e:(toB∘fun x:aj=>x.data.toList)=id:=rfl;rw[e,List.map_id,List.map_id]at h2;exact h2
theorem Mc(c:UInt8)(s:aj):Lib.splitB ⟨#[c]⟩ 0 (Lib.countB s ⟨#[c]⟩) s=dH c s:=by
 refine F3 ?_;rw[Lib.splitB_data,FP];have :Lib.countB s ⟨#[c]⟩=s.data.toList.count c:=Lib.count_one c s.data.toList;rw[this];exact sH c _ _ rfl
theorem Sc(c:UInt8)(s:aj):(dH c s).length=Lib.countB s ⟨#[c]⟩+1:=by
 have :Lib.countB s ⟨#[c]⟩=s.data.toList.count c:=Lib.count_one c s.data.toList;rw[this];unfold dH;rw[aX,gw]
theorem Ox{c:UInt8}{s:aj}(h:Lib.indexByte s.data.toList c= -1):dH c s=[s]:=by
 unfold dH;rw[xj h];rfl
theorem Sd{c:UInt8}{s:aj}{i:Nat}(h:Lib.indexByte s.data.toList c=i):dH c s=s.extract 0 i::dH c (s.extract (i+1) s.size):=by
 unfold dH;rw[tx h,aJ];congr 1
 ·exact Xq (Lib.extract_from_zero s i).symm
 ·rw[Lib.extract_to_end]
theorem FO{c:UInt8}{xs:List aj}(h0:xs≠[])(h:∀x∈xs,∀b∈x.data.toList,b≠c):dH c (cY xs ⟨#[c]⟩)=xs:=by
 refine F3 ?_;rw[FP]
 show pieces c (Lib.join (xs.map (·.data.toList)) [c])=_
 exact xk Zo (fun p hp b hb=>by obtain⟨x,hx,rfl⟩:=aB.1 hp;exact h x hx b hb)
theorem Eg{c:UInt8}{s:aj}{i:Nat}(h:Lib.indexByte s.data.toList c=i):i<s.size:=by
 have :=(aw.1 (Lib.indexByte_some h).1).1;rw[km];exact this
theorem CQ(c:UInt8):∀(l:List UInt8) (acc a:Nat),Lib.parseUint10 acc l=.ok a->Lib.parseUint10 acc (l++[c])=Lib.parseUint10 a [c]
 |[],acc,a,h=>by simp only[Lib.parseUint10]at h;injection h with h;subst h;rfl
 |b::l,acc,a,h=>by
  simp only[Lib.parseUint10,bz]at h ⊢;split at h
  ·rename_i h1;split at h
   ·cases h
   ·rename_i h2;split at h
    ·cases h
    ·rename_i h3;rw[if_pos h1,if_neg h2,if_neg h3,CQ c l _ a h];rfl
  ·cases h
theorem sc{d:Nat}(h:d<10):(UInt8.ofNat (48+d)).toNat=48+d:=by simp[UInt8.toNat_ofNat'];omega
theorem CP:∀(u:Nat),u<18446744073709551616->Lib.parseUint10 0 (Lib.decDigits u)=.ok u:=by
 intro u
 induction u using Nat.strongRecOn with
 |_ u ih=>
  intro hu;rw[Lib.decDigits];split
  ·rename_i h;have e:=sc h;simp only[Lib.parseUint10,e];rw[if_pos ae,if_neg ae,if_neg ae];simp only[Lib.NumEnd.ok.injEq];omega
  ·rename_i h;have e:=sc (d:=u%10) ae;rw[CQ _ _ _ _ (ih (u/10) ae ae)];simp only[Lib.parseUint10,e];rw[if_pos ae,if_neg ae,if_neg ae];simp only[Lib.NumEnd.ok.injEq];omega
theorem EA:∀(u:Nat),∀b∈Lib.decDigits u,48<=b.toNat/\b.toNat<=57:=by
 intro u
 induction u using Nat.strongRecOn with
 |_ u ih=>
  intro b hb;rw[Lib.decDigits]at hb;split at hb
  ·rename_i h;rw[List.mem_singleton.1 hb];have :=sc h;omega
  ·rename_i h;rcases aO.1 hb with hb|hb
   ·exact ih (u/10) ae b hb
   ·rw[List.mem_singleton.1 hb];have :=sc (d:=u%10) ae;omega
theorem JB(u:Nat):Lib.decDigits u≠[]:=by
 rw[Lib.decDigits];split<;>simp
theorem M8{n:Int}(h:o5 n):Lib.atoiAll (ck n).data.toList=.ok n:=by
 obtain⟨h1,h2⟩:=h
 show Lib.atoiAll (Lib.itoa n)=_
 rcases Int.lt_or_le n 0 with h0|h0
 ·obtain⟨u,rfl⟩:∃u:Nat,n= -(u:Int):=⟨n.natAbs,by omega⟩;rw[Lib.itoa_neg u ae];have hp:Lib.parseMag (Lib.decDigits u)=.ok u:=by unfold Lib.parseMag;rw[if_neg (JB u)];exact CP u ae
  simp only[Lib.atoiAll];rw[if_pos ah,hp];simp;omega
 ·obtain⟨u,rfl⟩:∃u:Nat,n=(u:Int):=⟨n.toNat,by omega⟩;rw[Lib.itoa_nonneg u];have hp:Lib.parseMag (Lib.decDigits u)=.ok u:=by unfold Lib.parseMag;rw[if_neg (JB u)];exact CP u ae
  have hm:=EA u;have oo:=JB u
  revert hp hm oo
  cases Lib.decDigits u with
  |nil=>intro _ _ h;exact absurd rfl h
  |cons c r=>
   intro hp hm _;have hc:=hm c ai;simp only[Lib.atoiAll];rw[if_neg ae,hp];have :¬c.toNat=45:=by omega
   simp[this];omega
theorem Ga{n:Int}:∀b∈(ck n).data.toList,b.toNat=45\/(48<=b.toNat/\b.toNat<=57):=fun b hb=>by
 have hb:b∈Lib.itoa n:=hb;unfold Lib.itoa at hb;split at hb
 ·rcases aK.1 hb with rfl|hb
  ·exact .inl rfl
  ·exact .inr (EA _ b hb)
 ·exact .inr (EA _ b hb)
section
variable {P:Program} {ops:Array Oper} {d:Bool} {Q:Exit->Act->World->Prop} {n:Nat} {D:List Deferred} {w0:World} {G:Env} {L R:List HP} {l:List (Kd×Oper)} {k:Kd}
 {t:Nat} {ty T:TypeId} {pos:String} {af:Array Edge} {x y z:Operand} {s:aj} {i j:Nat} {a c:Int} {kk kk':IntKind}
theorem KO.Uq(hx:ev G x=some (.string s))(hy:ev G y=some (.int kk a))(hT:P.underlying T=some .string)(ha:a=(i:Int))(hi:i<=s.size)(ht:Nat.blt t n=true)(h:KO P ops d Q n D w0 ((t,.string (s.extract 0 i))::G) L l):
 KO P ops d Q n D w0 G L ((k,⟨some t,.slice T x none (some y) none,ty,pos,af,none⟩)::l):=
 KO.val (fun a' w sN=>by
  subst ha;have :=run_slice_string_to_if (P:=P) w T s kk (i:Int) hT;rw[if_pos ae]at this
  simp[execOp,sN.eval hx,sN.eval hy,run_sliceAt_string w T _ _ _ _ hT,this]) ht h
theorem KO.RC(hx:ev G x=some (.string s))(hy:ev G y=some (.int kk a))(hT:P.underlying T=some .string)(ha:a=(i:Int))(hi:i<=s.size)(ht:Nat.blt t n=true)(h:KO P ops d Q n D w0 ((t,.string (s.extract i s.size))::G) L l):
 KO P ops d Q n D w0 G L ((k,⟨some t,.slice T x (some y) none none,ty,pos,af,none⟩)::l):=
 KO.val (fun a' w sN=>by
  subst ha;have :=run_slice_string_from_if (P:=P) w T s kk (i:Int) hT;rw[if_pos ae]at this
  simp[execOp,sN.eval hx,sN.eval hy,run_sliceAt_string w T _ _ _ _ hT,this]) ht h
theorem KO.K1{cs:List Value}{len:Nat}{E:TypeId}{v:Value}(hx:ev G x=some (.agg cs.toArray))(hy:ev G y=some (.int kk a))(hT:P.underlying T=some (.array len E))(hA:∀w,(isAgg E).run P w=.ok false w)(hs:∀w,(Go.sizeOf E).run P w=.ok 1 w)(ha:a=(i:Int))(hi:i<len)(hv:cs[i]? =some v)(ht:Nat.blt t n=true)(h:KO P ops d Q n D w0 ((t,v)::G) L l):KO P ops d Q n D w0 G L ((k,⟨some t,.index T x y,ty,pos,af,none⟩)::l):=
 KO.val (fun a' w sN=>by
  subst ha;have h1:(0:Int)<=(i:Int)/\(i:Int)<(len:Int):=⟨by omega,by omega⟩;have h2:cs.toArray[i]? =some v:=by simpa using hv
  simp[execOp,sN.eval hx,sN.eval hy,Instr.index,asIntOf,run_underlying hT,h1,hs w,part,hA w,hi,hv]
  ) ht h
end
theorem qX.FX{α:Type}{w0 w:World}{L R:List HP}{E:TypeId}{cf:α->List Value}{sz:Nat}{xs:List α}{v:Value}(dM:∀e,(cf e).length=sz)(hp:bB L (SL E sz cf v xs) R)(hw:St w0 L w):qX w sz cf v xs:=by
 obtain⟨a,cap,h1,h2,h3⟩:=oM.of dM hp w hw;refine⟨a,cap,h1,fun i x hx=>?_⟩;have hl:=(aw.1 hx).1;obtain⟨g,rfl⟩:=h2 ae;exact⟨_,rfl,by rw[Addr.add_lit,Nat.zero_add];exact h3 g rfl i x hx⟩
end WB
namespace Go.Proofs.YtjhogocabcdjbabGreatDoor
open Tryz
open Go Go.RowKit WB
section
variable (w0:World) (L R R2:List HP) (b off:Nat) (cs:List Value) (T:TypeId) (v:Value) (l:List Nm) (s:aj) (x:Nm)
theorem Cv(h1:x.name.size<=maxLen)(h2:x.gK.size<=maxLen):KE prog 171 #[.agg x.cells.toArray] w0 L (fun u M=>u=.bool (bK x)/\M=L):=by
 refine KE.mk (n:=26) func171 rfl ntmps171 ai ?_;intro w hw;obtain⟨xn,xt,xh⟩:=x;refine Z2 ?_;refine KO.box rfl rfl aN rfl ?_;intro b1;refine jL ?_;generalize nW:cH xn=c1;cases c1
 ·refine di ?_;refine A3 ?_;refine KO.ce (cp:=[]) rfl rfl rfl call269 rfl (lj w _ xn h1) ?_;rintro v' L' ⟨rfl,rfl⟩;rw[nW];refine vK ?_;refine vJ ?_;refine NN ?_;refine NN ?_;refine NN ?_;refine Nf ?_;refine vH ?_;refine KQ.aU rfl rfl (fun w' hs=>⟨_,_,rfl,⟨?_,rfl⟩,hw.aA hs.below,hs.below⟩);unfold bK;rw[nW];rfl
 generalize jg:(decide (-1<=xh)&&decide (xh<=3))=c2;cases c2
 ·refine di ?_;refine A3 ?_;refine KO.ce (cp:=[]) rfl rfl rfl call269 rfl (lj w _ xn h1) ?_;rintro v' L' ⟨rfl,rfl⟩;rw[nW];refine qW ?_;refine H5 ?_;refine sA ?_;refine KO.on rfl rfl rfl ?_;refine KO.ce (cp:=[]) rfl rfl rfl call118 rfl (kC w _ xh (-1) 3) ?_;rintro v' L' ⟨rfl,rfl⟩;rw[jg];refine uk ?_;refine vJ ?_;refine NN ?_;refine NN ?_;refine NN ?_;refine Nf ?_;refine vH ?_;refine KQ.aU rfl rfl (fun w' hs=>⟨_,_,rfl,⟨?_,rfl⟩,hw.aA hs.below,hs.below⟩);unfold bK;rw[<-Bool.and_assoc (decide (-1<=xh)),jg];simp
 generalize Jr:cH xt=c3;cases c3
 ·by_cases he:xt=⟨#[]⟩
  ·refine di ?_;refine A3 ?_;refine KO.ce (cp:=[]) rfl rfl rfl call269 rfl (lj w _ xn h1) ?_;rintro v' L' ⟨rfl,rfl⟩;rw[nW];refine qW ?_;refine H5 ?_;refine sA ?_;refine KO.on rfl rfl rfl ?_;refine KO.ce (cp:=[]) rfl rfl rfl call118 rfl (kC w _ xh (-1) 3) ?_;rintro v' L' ⟨rfl,rfl⟩;rw[jg];refine EO ?_;refine Ca ?_;refine A5 ?_;refine KO.on rfl rfl rfl ?_;refine KO.ce (cp:=[]) rfl rfl rfl call269 rfl (lj w _ xt h2) ?_;rintro v' L' ⟨rfl,rfl⟩;rw[Jr];refine lX ?_;refine qW ?_;refine Ca ?_;refine A5 ?_;refine KO.on rfl rfl rfl ?_;refine KO.Ze rfl rfl rfl ?_;rw[show decide (xt=⟨#[]⟩)=true by simp[he]];refine lX ?_;refine qW ?_;refine H5 ?_;refine sA ?_;refine BV ?_;refine lX ?_;refine KO.oW rfl ?_ rfl rfl ?_
   (focus rfl)
   refine lX ?_;refine KO.lB rfl ?_ rfl rfl ?_
   (focus rfl)
   refine ER ?_;refine KQ.aU rfl rfl (fun w' hs=>⟨_,_,rfl,⟨?_,rfl⟩,hw.aA hs.below,hs.below⟩);unfold bK;rw[<-Bool.and_assoc (decide (-1<=xh)),nW,jg,Jr,show gQ xt=true by rw[he];decide+kernel];simp only[Bool.true_and,Bool.false_or];by_cases hh:xh= -1<;>simp[hh]
  ·refine di ?_;refine A3 ?_;refine KO.ce (cp:=[]) rfl rfl rfl call269 rfl (lj w _ xn h1) ?_;rintro v' L' ⟨rfl,rfl⟩;rw[nW];refine qW ?_;refine H5 ?_;refine sA ?_;refine KO.on rfl rfl rfl ?_;refine KO.ce (cp:=[]) rfl rfl rfl call118 rfl (kC w _ xh (-1) 3) ?_;rintro v' L' ⟨rfl,rfl⟩;rw[jg];refine EO ?_;refine Ca ?_;refine A5 ?_;refine KO.on rfl rfl rfl ?_;refine KO.ce (cp:=[]) rfl rfl rfl call269 rfl (lj w _ xt h2) ?_;rintro v' L' ⟨rfl,rfl⟩;rw[Jr];refine lX ?_;refine qW ?_;refine Ca ?_;refine A5 ?_;refine KO.on rfl rfl rfl ?_;refine KO.Ze rfl rfl rfl ?_;rw[show decide (xt=⟨#[]⟩)=false by simp[he]];refine lX ?_;refine B_ ?_;refine lX ?_;refine KO.lB rfl ?_ rfl rfl ?_
   (focus rfl)
   refine lX ?_;refine KO.lB rfl ?_ rfl rfl ?_
   (focus rfl)
   refine ER ?_;refine KQ.aU rfl rfl (fun w' hs=>⟨_,_,rfl,⟨?_,rfl⟩,hw.aA hs.below,hs.below⟩);unfold bK;rw[nW,Jr,show gQ xt=false by rw[jI];simp[he]];simp
 ·refine di ?_;refine A3 ?_;refine KO.ce (cp:=[]) rfl rfl rfl call269 rfl (lj w _ xn h1) ?_;rintro v' L' ⟨rfl,rfl⟩;rw[nW];refine qW ?_;refine H5 ?_;refine sA ?_;refine KO.on rfl rfl rfl ?_;refine KO.ce (cp:=[]) rfl rfl rfl call118 rfl (kC w _ xh (-1) 3) ?_;rintro v' L' ⟨rfl,rfl⟩;rw[jg];refine EO ?_;refine Ca ?_;refine A5 ?_;refine KO.on rfl rfl rfl ?_;refine KO.ce (cp:=[]) rfl rfl rfl call269 rfl (lj w _ xt h2) ?_;rintro v' L' ⟨rfl,rfl⟩;rw[Jr];refine lX ?_;refine vJ ?_;refine NN ?_;refine KO.ZV rfl rfl rfl ?_;refine KO.no rfl rfl rfl rfl ?_;refine lX ?_;refine KO.oW rfl ?_ rfl rfl ?_
  (focus rfl)
  refine ER ?_;refine KQ.aU rfl rfl (fun w' hs=>⟨_,_,rfl,⟨?_,rfl⟩,hw.aA hs.below,hs.below⟩);unfold bK;rw[<-Bool.and_assoc (decide (-1<=xh)),nW,jg,Jr];rfl
theorem Si(hp:bB L (bA b (.cells cs.toArray T (0,0))) R)(hq:bB R (fb v l) R2)(hc:cs[off]? =some v)(hl:l.length<1000000):
 KE prog 172 #[.pointer (some ⟨b,off,none⟩),.string s] w0 L (fun u M=>u=.tuple #[.agg (IW l s).cells.toArray,.bool (lk l s).isSome]/\M=L):=by
 refine KE.mk (n:=24) func172 rfl ntmps172 ai ?_;intro w hw;have eM:w.cell? ⟨b,off,none⟩=some v:=by rw[World.cell?,(hw.nD hp).2];simpa using hc
 obtain⟨sa,cap,rfl,Be⟩:=qX.FX (cf:=Nm.cells) (sz:=3) (E:=75) (fun _=>rfl) hq (hw.pick hp).drop;refine Z2 ?_;refine KO.alloc rfl zeroValue75 aN rfl ?_;intro b4;refine jo ?_;refine Qd ?_;refine KO.sl rfl rfl isAgg86 eM rfl ?_;refine yj ?_;refine oL ?_;refine K.loop (fun k:Nat=>[(0,.pointer (some ⟨b,off,none⟩)),(1,.string s),(4,.pointer (some ⟨b4,0,none⟩)),(11,.slice sa l.length cap),(12,.int .i64 (l.length:Nat)),(13,.int .i64 (k:Nat))]) (fun _=>[bA b4 (.cells [.string ⟨#[]⟩,.string ⟨#[]⟩,.int .i64 0].toArray 75 (0,0))]) (fun k=>k<=l.length/\∀(j:Nat) y,j<k->l[j]? =some y->y.name≠s) (fun k=>l.length-k) 0
  ⟨aH _,fun j y h=>by omega⟩ ⟨rfl,rfl,rfl,rfl,rfl,rfl,trivial⟩ (fun _ h=>h.all Nv) ?_
 rintro k ⟨hk,cU⟩;refine lW ?_;refine K.bn rfl (fun h=>?_) (fun h=>?_)
 ·obtain⟨y,hy⟩:∃e,l[k]? =some e:=⟨l[k],ak ae⟩;obtain⟨ad,rfl,hh⟩:=Be k y hy;obtain⟨yn,yt,yh⟩:=y;refine si ?_;refine T2 ?_;refine KO.vf (cs:=(Nm.cells ⟨yn,yt,yh⟩).toArray) rfl rfl isAgg75 sizeOf75 rfl hh rfl ?_;refine KO.alloc rfl zeroValue75 aN rfl ?_;intro b7;refine B5 ?_;refine rK ?_;refine A3 ?_;refine Z1 ?_;refine EM ?_;refine K.bn rfl (fun h5=>?_) (fun h5=>?_)
  ·refine kO ?_;have hf:lk l s=some ⟨yn,yt,yh⟩:=OV hy h5 cU;refine di ?_;refine B7 ?_;refine KO.oQ rfl rfl rfl aN Y52 aN aQ aN ?_;refine nX ?_;refine KQ.gT rfl rfl isAgg75 br Y52 rfl (fun w' hs=>⟨_,_,rfl,⟨?_,rfl⟩,hw.aA hs.below,hs.below⟩);unfold IW;rw[hf];rfl
  ·refine lY ?_;refine KQ.round (k+1) ⟨by omega,fun j z hj hz=>?_⟩ ae ⟨rfl,rfl,rfl,rfl,rfl,rfl,trivial⟩ (fun _ h=>h.all Y3);by_cases Bk:j=k
   ·subst Bk;rw[hy]at hz;cases hz;exact h5
   ·exact cU j z ae hz
 ·refine Z9 ?_;have hf:lk l s=none:=aac fun j z hz=>cU j z (by have :=(aw.1 hz).1;omega) hz
  refine di ?_;refine X1 ?_;refine B5 ?_;refine kq ?_;refine KQ.gT rfl rfl isAgg75 br Y52 rfl (fun w' hs=>⟨_,_,rfl,⟨?_,rfl⟩,hw.aA hs.below,hs.below⟩);unfold IW;rw[hf];rfl
theorem UA(hp:bB L (bA b (.cells cs.toArray T (0,0))) R)(hq:bB R (fb v l) R2)(hc:cs[off]? =some v)(hl:l.length<1000000)(h1:x.name.size<=maxLen)(h2:x.gK.size<=maxLen):
 KE prog 85 #[.pointer (some ⟨b,off,none⟩),.agg x.cells.toArray] w0 L (fun u M=>u=.int .i64 (kV l x)/\M=L):=by
 refine KE.mk (n:=27) func85 rfl ntmps85 ai ?_;intro w hw;have eM:w.cell? ⟨b,off,none⟩=some v:=by rw[World.cell?,(hw.nD hp).2];simpa using hc
 obtain⟨sa,cap,rfl,Be⟩:=qX.FX (cf:=Nm.cells) (sz:=3) (E:=75) (fun _=>rfl) hq (hw.pick hp).drop;have UK:=fun t=>(Si w0 L R R2 b off cs T (.slice sa l.length cap) l t hp hq hc hl)
 obtain⟨xn,xt,xh⟩:=x;refine Z2 ?_;refine KO.box rfl rfl aN rfl ?_;intro b3;refine jL ?_;generalize hr:bK ⟨xn,xt,xh⟩=r;cases r
 ·refine di ?_;refine B7 ?_;refine KO.ce (cp:=[]) rfl rfl rfl call171 rfl (Cv w _ ⟨xn,xt,xh⟩ h1 h2) ?_;rintro v' L' ⟨rfl,rfl⟩;rw[hr];refine A4 ?_;refine kr ?_;refine KQ.aU rfl rfl (fun w' hs=>⟨_,_,rfl,⟨?_,rfl⟩,hw.aA hs.below,hs.below⟩);unfold kV;rw[hr];rfl
 refine di ?_;refine B7 ?_;refine KO.ce (cp:=[]) rfl rfl rfl call171 rfl (Cv w _ ⟨xn,xt,xh⟩ h1 h2) ?_;rintro v' L' ⟨rfl,rfl⟩;rw[hr];refine BX ?_;refine cW ?_;refine A3 ?_;refine KO.ce (cp:=[]) rfl rfl rfl call172 rfl ((UK xn).kP hw) ?_;rintro v' L' ⟨rfl,rfl⟩;refine LB ?_;refine KO.alloc rfl zeroValue75 aN rfl ?_;intro b5;refine B5 ?_;refine jL ?_;cases hk:lk l xn with
 |some y=>
  refine cW ?_;refine pC ?_;refine BW ?_;refine A6 ?_;refine xf ?_;refine KQ.aU rfl rfl (fun w' hs=>⟨_,_,rfl,⟨?_,rfl⟩,hw.aA hs.below,hs.below⟩);simp[kV,hr,hk]
 |none=>
  by_cases NK:20<=l.length
  ·refine tZ ?_;refine iD ?_;refine KO.on rfl rfl rfl ?_;refine KO.fo (off:=0) rfl runUnderlying88 rfl rfl sizeOf86 rfl ?_;refine KO.on rfl rfl rfl ?_;refine KO.sl rfl rfl isAgg86 eM rfl ?_;refine lX ?_;refine yj ?_;refine lX ?_;refine qG ?_;refine uk ?_;refine Z3 ?_;refine K.bW rfl ez ?_;refine kr ?_;refine KQ.aU rfl rfl (fun w' hs=>⟨_,_,rfl,⟨?_,rfl⟩,hw.aA hs.below,hs.below⟩);simp[kV,hr,hk,NK]
  ·refine tZ ?_;refine iD ?_;refine KO.on rfl rfl rfl ?_;refine KO.fo (off:=0) rfl runUnderlying88 rfl rfl sizeOf86 rfl ?_;refine KO.on rfl rfl rfl ?_;refine KO.sl rfl rfl isAgg86 eM rfl ?_;refine lX ?_;refine yj ?_;refine lX ?_;refine qG ?_;refine uk ?_;refine Z3 ?_;refine K.ct rfl ez ?_;refine Z6 ?_;refine xf ?_;refine KQ.aU rfl rfl (fun w' hs=>⟨_,_,rfl,⟨?_,rfl⟩,hw.aA hs.below,hs.below⟩);simp[kV,hr,hk,NK]
theorem rb(hp:bB L (bA b (.cells cs.toArray T (0,0))) R)(hq:bB R (fb v l) R2)(hc:cs[off]? =some v)(hl:l.length<1000000):
 KE prog 182 #[.pointer (some ⟨b,off,none⟩),.string s] w0 L (fun u M=>u=.bool (dJ l s)/\M=L):=by
 refine KE.mk (n:=19) func182 rfl ntmps182 ai ?_;intro w hw;have UK:=(Si w0 L R R2 b off cs T v l s hp hq hc hl);refine x6 ?_;cases hk:lk l s with
 |some y=>
  obtain⟨yn,yt,yh⟩:=y;have e1:IW l s=⟨yn,yt,yh⟩:=by unfold IW;rw[hk];rfl
  refine gY ?_;refine KO.ce (cp:=[]) rfl rfl rfl call172 rfl (UK.kP hw) ?_;rintro v' L' ⟨rfl,rfl⟩;rw[hk,e1];refine LB ?_;refine KO.alloc rfl zeroValue75 aN rfl ?_;intro b5;refine B5 ?_;refine jo ?_;refine qW ?_;refine Ca ?_;refine A5 ?_;refine lX ?_;refine B6 ?_;refine ER ?_;refine KQ.aU rfl rfl (fun w' hs=>⟨_,_,rfl,⟨?_,rfl⟩,hw.aA hs.below,hs.below⟩);simp[dJ,hk]
 |none=>
  refine gY ?_;refine KO.ce (cp:=[]) rfl rfl rfl call172 rfl (UK.kP hw) ?_;rintro v' L' ⟨rfl,rfl⟩;rw[hk];refine LB ?_;refine KO.alloc rfl zeroValue75 aN rfl ?_;intro b5;refine B5 ?_;refine jo ?_;refine TU ?_;refine KQ.aU rfl rfl (fun w' hs=>⟨_,_,rfl,⟨?_,rfl⟩,hw.aA hs.below,hs.below⟩);simp[dJ,hk]
theorem FA(hp:bB L (bA b (.cells cs.toArray T (0,0))) R)(hq:bB R (fb v l) R2)(hc:cs[off]? =some v)(hl:l.length<900000):
 KC prog 173 #[.pointer (some ⟨b,off,none⟩),.string s] w0 L (fun u M=>u=.int .i64 (og l s)/\∃v',M=bA b (.cells (cs.set off v').toArray T (0,0))::fb v' (fU l s)::R2):=by
 refine KC.perm (L':=bA b (.cells cs.toArray T (0,0))::fb v l::R2) (fun w hw=>hw.ey hp hq) ?_;have wK:=(aw.1 hc).1;refine KC.pre (fun w hw=>bo hw.drop) ?_;rintro⟨sa,cap,rfl,Be⟩;refine KC.mk (n:=41) func173 rfl ntmps173 ai ?_;refine lg ?_;refine Qd ?_;refine KO.bO (i:=off) rfl rfl isAgg86 br rfl hc rfl ?_;refine yj ?_;refine oL ?_;refine K.loop (fun k:Nat=>[(0,.pointer (some ⟨b,off,none⟩)),(1,.string s),(10,.slice sa l.length cap),(11,.int .i64 (l.length:Nat)),(12,.int .i64 (k:Nat))]) (fun _=>bA b (.cells cs.toArray T (0,0))::fb (.slice sa l.length cap) l::R2) (fun k=>k<=l.length/\∀(j:Nat) y,j<k->l[j]? =some y->y.name≠s) (fun k=>l.length-k) 0
  ⟨aH _,fun j y h=>by omega⟩ ⟨rfl,rfl,rfl,rfl,rfl,trivial⟩ (fun _ h=>(h.ey br br).Bo (by with_reducible repeat(exact ud.refl))) ?_
 rintro k ⟨hk,cU⟩;refine lW ?_;refine K.bn rfl (fun h=>?_) (fun h=>?_)
 ·obtain⟨g,rfl⟩:=Be ae;obtain⟨y,hy⟩:∃e,l[k]? =some e:=⟨l[k],ak ae⟩;obtain⟨yn,yt,yh⟩:=y;refine sy ?_;refine acf ?_;refine KO.alloc rfl zeroValue75 aN rfl ?_;intro b6;refine Z8 ?_;refine B5 ?_;refine rK ?_;refine A3 ?_;refine Z1 ?_;refine EM ?_;refine K.bn rfl (fun h5=>?_) (fun h5=>?_)
  ·have hi:=OU hy h5 cU;have e1:og l s=0:=by unfold og;rw[hi]
   have e2:fU l s=l.eraseIdx k:=by unfold fU;rw[hi]
   refine K.fact (fun w hw=>EZ (hw.pick (A:=fb (.slice (some ⟨g,0,none⟩) l.length cap) l) aQ)) ?_;rintro⟨-,xW⟩;refine kO ?_;refine K.sO [.pure,.ef,.pure,.pure,.pure,.read,.pure,.pure,.write,.pure,.pure,.pure,.read,.pure,.pure,.pure,.write,.pure,.pure,.write] [(8,12)] [[0,2,3,4,5,6,7,9,10,11,13,14,1,8,12,15,16,17,18,19],[0,2,3,4,5,6,7,9,10,11,12,13,14,15,1,8,16,17,18,19]] bC bC bC ⟨?_,?_,trivial⟩
   focus
    show KO _ _ _ _ _ _ _ _ _ _
    refine gZ ?_;refine Qd ?_;refine TQ ?_;refine Z1 ?_;refine KO.vD (hi:=k) rfl rfl underlying86 sizeOf75 rfl ae rfl ?_;refine Z1 ?_;refine Qd ?_;refine Z1 ?_;refine vO ?_;refine KO.Rl Nm.cells rfl underlying86 sizeOf75 rfl ?_;intro NM;refine KO.rH (cf:=Nm.cells) (E:=75) (z:=Value.agg #[.string ⟨#[]⟩,.string ⟨#[]⟩,.int .i64 0]) (sz:=3) (fk:=40) (xs:=[]) (ys:=l.take k) rfl rfl rfl br (fun w hw=>(Src.of (E:=75) (sz:=3) (xs:=l) aQ w hw).take k ae) underlying86 mF rfl (fun _=>rfl) rm ez ah rfl ?_;intro v29;rw[List.nil_append];refine KO.fact (fun _ hs=>bo hs) ?_;rintro⟨a8,c8,rfl,-⟩;refine TQ ?_;refine X3 ?_;refine KO.rH (cf:=Nm.cells) (E:=75) (z:=Value.agg #[.string ⟨#[]⟩,.string ⟨#[]⟩,.int .i64 0]) (sz:=3) (fk:=40) (xs:=l.take k) (ys:=l.drop (k+1)) rfl rfl rfl br (fun w hw=>Src.cut (cf:=Nm.cells) (sz:=3) (fun _=>rfl) (Src.of (E:=75) (sz:=3) (cf:=Nm.cells) (v:=.slice (some ⟨g,0,none⟩) l.length cap) (xs:=l) aQ w hw) (k+1) ae xW) underlying86 mF rfl (fun _=>rfl) rm ez ah rfl ?_;intro v37;refine KO.fact (fun _ hs=>bo hs) ?_;rintro⟨a',c',rfl,-⟩;refine Qd ?_;refine KO.fu (i:=off) rfl rfl rfl aN Y51 rfl aQ rfl wK ?_;refine Z0 ?_
   rotate_left
   focus
    show KO _ _ _ _ _ _ _ _ _ _
    refine gZ ?_;refine Qd ?_;refine TQ ?_;refine Z1 ?_;refine KO.vD (hi:=k) rfl rfl underlying86 sizeOf75 rfl ae rfl ?_;refine Z1 ?_;refine Qd ?_;refine TQ ?_;refine Z1 ?_;refine vO ?_;refine X3 ?_;refine KO.Rl Nm.cells rfl underlying86 sizeOf75 rfl ?_;intro NM;refine KO.rH (cf:=Nm.cells) (E:=75) (z:=Value.agg #[.string ⟨#[]⟩,.string ⟨#[]⟩,.int .i64 0]) (sz:=3) (fk:=40) (xs:=[]) (ys:=l.take k) rfl rfl rfl br (fun w hw=>(Src.of (E:=75) (sz:=3) (xs:=l) aQ w hw).take k ae) underlying86 mF rfl (fun _=>rfl) rm ez ah rfl ?_;intro v29;rw[List.nil_append];refine KO.fact (fun _ hs=>bo hs) ?_;rintro⟨a8,c8,rfl,-⟩;refine KO.rH (cf:=Nm.cells) (E:=75) (z:=Value.agg #[.string ⟨#[]⟩,.string ⟨#[]⟩,.int .i64 0]) (sz:=3) (fk:=40) (xs:=l.take k) (ys:=l.drop (k+1)) rfl rfl rfl br (fun w hw=>Src.cut (cf:=Nm.cells) (sz:=3) (fun _=>rfl) (Src.of (E:=75) (sz:=3) (cf:=Nm.cells) (v:=.slice (some ⟨g,0,none⟩) l.length cap) (xs:=l) aQ w hw) (k+1) ae xW) underlying86 mF rfl (fun _=>rfl) rm ez ah rfl ?_;intro v37;refine KO.fact (fun _ hs=>bo hs) ?_;rintro⟨a',c',rfl,-⟩;refine Qd ?_;refine KO.fu (i:=off) rfl rfl rfl aN Y51 rfl aQ rfl wK ?_;refine Z0 ?_
   rotate_left
   all_goals (
    refine di ?_;refine nX ?_;refine KQ.aU rfl rfl (fun w' hs=>⟨_,_,rfl,⟨?_,.slice a' (l.take k++l.drop (k+1)).length c',rfl⟩,?_⟩)
    ·rw[e1]
    ·rw[e2,List.eraseIdx_eq_take_drop_succ];exact(hs.ey br br).Bo mN)
  ·refine lY ?_;refine KQ.round (k+1) ⟨by omega,fun j z hj hz=>?_⟩ ae ⟨rfl,rfl,rfl,rfl,rfl,trivial⟩ (fun _ h=>(h.ey aQ aQ).Bo mN);by_cases Bk:j=k
   ·subst Bk;rw[hy]at hz;cases hz;exact h5
   ·exact cU j z ae hz
 ·have hi:=Mm (l:=l) (s:=s) fun j z hz=>cU j z (by have :=(aw.1 hz).1;omega) hz
  refine yc ?_;refine KQ.aU rfl rfl (fun w' hs=>⟨_,_,rfl,⟨?_,.slice sa l.length cap,rfl⟩,?_⟩)
  ·unfold og;rw[hi]
  ·unfold fU;rw[hi];simp only;rw[List.dE hc];exact hs
theorem RM(hp:bB L (bA b (.cells cs.toArray T (0,0))) R)(hq:bB R (fb v l) R2)(hc:cs[off]? =some v)(hl:l.length<900000)(h1:x.name.size<=maxLen)(h2:x.gK.size<=maxLen):
 KC prog 87 #[.pointer (some ⟨b,off,none⟩),.agg x.cells.toArray] w0 L (fun u M=>u=.int .i64 (kV l x)/\∃v',M=bA b (.cells (cs.set off v').toArray T (0,0))::fb v' (iN l x)::R2):=by
 refine KC.perm (L':=bA b (.cells cs.toArray T (0,0))::fb v l::R2) (fun w hw=>hw.ey hp hq) ?_;have wK:=(aw.1 hc).1;have o_:=I3 l x.name;obtain⟨xn,xt,xh⟩:=x;dsimp only at h1 h2 o_;refine KC.mk (n:=26) func87 rfl ntmps87 ai ?_;refine Z2 ?_;refine KO.box rfl rfl aN rfl ?_;intro b3;refine jo ?_;refine B7 ?_;refine KO.ce (cp:=[]) rfl rfl rfl call85 rfl (UA w0 _ _ _ b off cs T v l ⟨xn,xt,xh⟩ (.tail .head) (.tail .head) hc ae h1 h2) ?_;rintro v' L' ⟨rfl,rfl⟩;refine jo ?_;refine tY ?_;refine K.bn rfl (fun h=>?_) (fun h=>?_)
 ·refine xd ?_;refine KQ.aU rfl rfl (fun w' hs=>⟨_,_,rfl,⟨rfl,v,rfl⟩,?_⟩);unfold iN;rw[if_neg h,List.dE hc];exact(hs.ey aQ aQ).Bo mN
 ·have h0:kV l ⟨xn,xt,xh⟩=0:=by simpa using h
  refine qp ?_;refine A3 ?_;refine KO.cl (cp:=[]) rfl rfl rfl call173 rfl (KC.yC aQ aQ (FA w0 _ _ _ b off cs T v l xn .head .head hc hl)) ?_;rintro v' L' ⟨rfl,v2,rfl⟩;refine KO.fact (fun _ hs=>bo hs.drop) ?_;rintro⟨a',c',rfl,-⟩;refine Z0 ?_;have jg:(cs.set off (.slice a' (fU l xn).length c'))[off]? =some (.slice a' (fU l xn).length c'):=by rw[List.getElem?_set_self wK]
  refine K.draw [.pure,.pure,.pure,.pure,.read,.read,.ef,.write,.pure,.pure,.write] [0,1,2,3,4,5,6,7,8,9,10] bC bC ?_;refine gZ ?_;refine Qd ?_;refine KO.bO (i:=off) rfl rfl isAgg86 br rfl jg rfl ?_;refine Qp ?_;refine KO.sw (z:=(Value.agg #[.string ⟨#[]⟩,.string ⟨#[]⟩,.int .i64 0])) (sz:=3) (fk:=40) rfl rfl underlying86 bC aN aN ah ah rfl ?_;intro NM;refine KO.app (z:=Value.agg #[.string ⟨#[]⟩,.string ⟨#[]⟩,.int .i64 0]) (sz:=3) (fk:=40) rfl rfl rfl aQ br underlying86 mF rfl (⟨xn,xt,xh⟩:Nm) aN aN aN ae ah rfl ?_;intro v';refine KO.fact (fun _ hs=>bo hs) ?_;rintro⟨a2,c2,rfl,-⟩;refine Qd ?_;refine KO.fu (i:=off) rfl rfl rfl aN Y51 rfl aQ rfl (by simpa using wK) ?_;refine qO ?_;refine KQ.aU rfl rfl (fun w' hs=>⟨_,_,rfl,⟨by rw[h0],.slice a2 (fU l xn++[(⟨xn,xt,xh⟩:Nm)]).length c2,rfl⟩,?_⟩);unfold iN;rw[if_pos h0];rw[List.set_set]at hs;exact(hs.ey br br).Bo mN
end
end Go.Proofs.YtjhogocabcdjbabGreatDoor
namespace WB
open Go Go.RowKit Go.Sort Go.Shelf Go.Proofs
section
variable {w0 w:World} {L R:List HP} {E:TypeId} {α:Type} [Inhabited α] {cf:α->List Value} {k:Nat} {xs ys:List α} {v:Value} {g n cap:Nat}
theorem Dl(hk:∀x,(cf x).length=k)(xs:List α)(j:Nat)(hj:j<xs.length *k):(xs.flatMap cf)[j]? =some (flatK cf k xs.toArray)[j]! :=by
 have xV:0<k:=by rcases Nat.eq_zero_or_pos k with h|h;· subst h;simp at hj
                 ·exact h
 have hd:j/k<xs.length:=(Nat.div_lt_iff_lt_mul xV).2 hj;have hm:j%k<k:=Nat.mod_lt _ xV;rw[get_flatK _ _ _ _ (by simpa using hj)];have :=flat_get cf k hk default xs (j/k) (j%k) hd hm;rw[Nat.div_add_mod']at this;rw[this];have e1:xs.toArray[j/k]! =xs.getD (j/k) default:=by simp[au,hd]
 rw[e1,ak (by rw[hk];exact hm),List.getElem!_eq_getElem?_getD,ak (by rw[hk];exact hm)];rfl
theorem C6(hk:∀x,(cf x).length=k)(h:St w0 (SL E k cf (.slice (some ⟨g,0,none⟩) n cap) xs::R) w):HoldsK cf k w g 0 xs.toArray:=by
 obtain⟨rfl,h2,_,cur,h4,h5,h6⟩:=jq h;intro j hj;have YY:j<xs.length *k:=by simpa using hj
 have hl:=h6.look.2;refine⟨?_,?_⟩
 ·rw[Nat.zero_add,World.cell?,hl];have :=Dl (cf:=cf) hk xs j YY;rw[<-h5,List.getElem?_take,if_pos YY]at this;simpa using this
 ·rw[World.frozen?,hl];simp
theorem St.grow(h:St w0 L w)(q:Nat)(os:Array Obj):St w0 L (Sort.grow (Sort.ahead w q) os):=h.aA (Lib.below_grow w.heap.size w (aP _) q os)
theorem St.sorted(hk:∀x,(cf x).length=k)(h:St w0 (SL E k cf (.slice (some ⟨g,0,none⟩) n cap) xs::R) w)(hl:ys.length=xs.length)(q:Nat)(os:Array Obj):
 St w0 (SL E k cf (.slice (some ⟨g,0,none⟩) n cap) ys::R) (Sort.grow (putRowK cf k (Sort.ahead w q) g 0 ys.toArray) os):=by
 obtain⟨rfl,h2,h3,cur,h4,h5,h6⟩:=jq h;have hlk:=h6.look.2;have hle:xs.length *k<=cap *k:=Nat.mul_le_mul_right _ h2;have YM:St w0 (bA g (.cells (putCells id 0 (flatK cf k ys.toArray) cur) E (0,0))::R) (putRowK cf k (Sort.ahead w q) g 0 ys.toArray):=by
  refine h6.upd rfl rfl rfl (by simp[putRowK]) ?_ ?_
  ·simp[putRowK,putRow,mapBlock,Array.getElem?_modify,hlk,onCells]
  ·intro b hb;simp[putRowK,putRow,mapBlock,Array.getElem?_modify,Ne.symm hb]
 have hs:(putCells id 0 (flatK cf k ys.toArray) cur).size=cap *k:=by simp[putCells,h4]
 have hr:=Ig (cf:=cf) (sz:=k) (xs:=ys) YM ae h3 hs ?_
 ·rw[hl]at hr;exact hr.grow 0 os
 ·apply List.ext_getElem?;intro j;rw[List.getElem?_take];by_cases hj:j<ys.length *k
  ·rw[if_pos hj,Dl hk ys j hj];have hjc:j<cur.size:=by rw[h4];rw[hl]at hj;omega
   simp[putCells,hjc,hj]
  ·rw[if_neg hj,cc (by rw[pd hk];omega)]
end
section
variable {P:Program} {ρ:Ren} {α:Type} [Inhabited α]
def QR (P:Program) (f:Nat) (cf:α->List Value) (k:Nat) (lt:α->α->Bool) (Bs:Nat):Prop:=
 ∀(W:World) (g n c:Nat) (dk:Array α),dk.size=n->W.cell? ⟨Bs,0,none⟩=some (.slice (some ⟨g,0,none⟩) n c)->HoldsK cf k W g 0 dk->∀i j:Nat,i<n->j<n->
  Calls P f #[.int .i64 i,.int .i64 j,.pointer (some ⟨Bs,0,none⟩)] W fun e w'=>e=.returned (.bool (lt dk[i]! dk[j]!))/\∃q,w'=W.drewN q
theorem Fv(Lg:LaysGg.n6 P ρ)(t E T:TypeId)(i ie:TypeInfo)(hi:P.info? t=some i)(hd:i.desc=.slice E)(hpk:P.packed t=false)(WD:P.info? E=some ie)(ke:Nat)(hke:∀w,(Extern.Rtype.kind E).run P w=.ok ke w)(cf:α->List Value)(k:Nat)(hk:∀x,(cf x).length=k)(r7:ie.size=k)(afH:∀w,(isAgg E).run P w=.ok true w)(h1:∀x,(cf x).all Value.oneCell'=true)(lt:α->α->Bool)(hO:SWO lt)(f:Nat)(eg:∀args w,(callFunc f args).run P w=.ok (.enter f args) w)(s1 s2 s9:Nat)(hf1:P.funcs.findIdx? (·.name== "internal/reflectlite"++ ".Swapper$"++toString (1:Nat))=some s1)(hf2:P.funcs.findIdx? (·.name== "internal/reflectlite"++ ".Swapper$"++toString (2:Nat))=some s2)(hK:∀n,2<=n->Lib.swapperK n ie ke=9)(hf9:P.funcs.findIdx? (·.name== "internal/reflectlite"++ ".Swapper$"++toString (9:Nat))=some s9)(hx:∀args W,(callFunc s9 args).run P W=((Extern.ReflectliteSwapper.swap false args).run P W).andThen fun v w'=>.ok (.value v) w')(w0:World)(L:List HP)(v:Value)(xs:List α)(Bs:Nat)(aaK:QR P f cf k lt Bs)(dM:xs.length<1000000):
 KC P (ρ.f 6) #[.iface t v,.func (.func f) #[] #[.pointer (some ⟨Bs,0,none⟩)]] w0 (SL E k cf v xs::bA Bs (.cells [v].toArray T (0,0))::L)
  (fun u M=>u=.tuple #[]/\∃ys:List α,ys.Perm xs/\(ys.Pairwise fun a b=>lt b a=false)/\M=SL E k cf v ys::bA Bs (.cells [v].toArray T (0,0))::L):=fun w hw=>by
 obtain⟨a,cap,rfl,ha⟩:=bo hw;by_cases h2:2<=xs.length
 ·obtain⟨g,rfl⟩:=ha ae;have hH:=C6 hk hw;obtain⟨GK,hBl⟩:=hw.drop.look;have hBs:w.cell? ⟨Bs,0,none⟩=some (.slice (some ⟨g,0,none⟩) xs.length cap):=by rw[World.cell?,hBl];rfl
  have kG:Bs<w.heap.size:=hw.drop.lt;obtain⟨-,-,-,cur,-,-,h6⟩:=jq hw;have Bm:Bs≠g:=h6.ne.symm;have jh:g<w.heap.size:=h6.lt;have hLR:LessReadsK P f #[.pointer (some ⟨Bs,0,none⟩)] cf k lt g 0 xs.toArray.size w:=by
   intro m os dk hs p q hp hq;have e:sortWorldK cf k w g 0 m dk os=putRowK cf k (Sort.grow (Sort.ahead w m) os) g 0 dk:=by
    unfold sortWorldK;rw[putRowK_grow _ _ (Sort.ahead w m) _ g 0 _ jh]
   have hHg:HoldsK cf k (Sort.grow (Sort.ahead w m) os) g 0 xs.toArray:=holdsK_grow _ _ _ _ g 0 _ jh (holdsK_ahead _ _ _ _ _ _ _ hH);refine aaK _ g xs.length cap dk (by simpa using hs) ?_ ?_ p q (by simpa using hp) (by simpa using hq)
   ·rw[e,cell?_putRowK_other _ _ _ g 0 dk _ (by exact Bm),cell?_grow _ _ _ (by exact kG)];exact hBs
   ·rw[e];exact holdsK_putRowK _ _ _ g 0 _ dk hHg hs
  have hc:=Any.sort_Slice_cells_sorted Lg t E i ie hi hd hpk WD ke hke cf k hk r7 afH (fun x u hu=>aL.1 (h1 x) u hu) lt hO f _ eg g 0 cap xs.toArray Vg ez s9 (by rw[hK _ Vg];exact hf9) false hx w hLR hH jh;have jg:Calls P (ρ.f 6) #[.iface t (.slice (some ⟨g,0,none⟩) xs.length cap),.func (.func f) #[] #[.pointer (some ⟨Bs,0,none⟩)]] w fun e w'=>e=.returned (.tuple #[])/\∃d' n os,PermIn 0 xs.toArray.size xs.toArray d'/\SortedIn lt 0 xs.toArray.size d'/\w'=Sort.grow (putRowK cf k (Sort.ahead w n) g 0 d') os:=by
   simpa using hc
  refine jg.mono ?_;rintro e w' ⟨rfl,d',q,os,⟨Bl,-,hp⟩,C4,rfl⟩;have o_:d'.toList.length=xs.length:=by simpa using Bl
  refine⟨_,_,rfl,⟨rfl,d'.toList,?_,?_,rfl⟩,?_⟩
  ·have e1:(d'.extract 0 xs.toArray.size).toList=d'.toList:=by rw[<-Bl];simp
   have e2:(xs.toArray.extract 0 xs.toArray.size).toList=xs:=by simp
   rw[e1,e2]at hp;exact hp
  ·rw[List.pairwise_iff_getElem];intro p q hp hq QZ;have :=C4 p q (aH _) QZ (by rw[o_]at hq;simpa using hq);simp only[Array.length_toList]at hp hq;rw[getElem!_pos d' q hq,getElem!_pos d' p hp]at this;simpa using this
  ·have :=hw.sorted (ys:=d'.toList) hk o_ q os;simpa using this
 ·have hf:P.funcs.findIdx? (·.name== "internal/reflectlite"++ ".Swapper$"++toString (Lib.swapperK xs.length ie ke))=some (if xs.length=0 then s1 else s2):=by
   by_cases h0:xs.length=0
   ·rw[if_pos h0,show Lib.swapperK xs.length ie ke=1 by rw[h0];rfl];exact hf1
   ·rw[if_neg h0,show Lib.swapperK xs.length ie ke=2 by rw[show xs.length=1 by omega];rfl];exact hf2
  refine(Any.sort_Slice_tiny Lg t E i ie hi hd hpk WD ke hke a xs.length cap ae _ hf (.func f) #[] _ w).mono ?_;rintro e w' ⟨rfl,os,rfl⟩;refine⟨_,_,rfl,⟨rfl,xs,.refl _,?_,rfl⟩,?_⟩
  ·match xs,h2 with
   |[],_=>exact .nil
   |[a],_=>simp
   |a::b::r,h=>exact absurd ai h
  ·exact hw.grow 0 os
end
end WB
namespace Go.Proofs.YtjhogocabcdjbabGreatDoor
open Tryz
open Go Go.RowKit WB
def VX (seen:List aj) (m:List (aj×Value)):Prop:= ∀t,(gj m t).getD (.bool false)=.bool (decide (t∈seen))
theorem OP{seen:List aj}{m:List (aj×Value)}(h:VX seen m)(s:aj):VX (s::seen) (iU m s (.bool true)):=by
 intro t;rw[sb];by_cases e:s=t
 ·subst e;simp
 ·rw[if_neg e,h t];simp[Ne.symm e]
section
variable (w0:World) (L R R2:List HP) (b off:Nat) (cs:List Value) (T:TypeId) (v:Value) (l:List Nm) (s:aj) (x:Nm)
theorem IG(hp:bB L (bA b (.cells cs.toArray T (0,0))) R)(hq:bB R (fb v l) R2)(hc:cs[off]? =some v)(hl:l.length<1000000):
 KE prog 181 #[.pointer (some ⟨b,off,none⟩),.string s] w0 L (fun u M=>u=.tuple #[.string (sj l (l.length+1) [] s).1,.int .i64 (sj l (l.length+1) [] s).2.1,.int .i64 (sj l (l.length+1) [] s).2.2]/\M=L):=by
 refine KE.mk (n:=37) func181 rfl ntmps181 ai ?_;intro w hw;have UK:=fun t=>(Si w0 L R R2 b off cs T v l t hp hq hc hl)
 refine iz ?_;refine Z8 ?_;refine oK ?_;refine KO.ZZ (Value.string) rfl rfl ?_;intro TC;refine Hf ?_;refine K.loop (fun k:List aj×aj×List (aj×Value)=>[(0,.pointer (some ⟨b,off,none⟩)),(1,.string k.2.1),(7,.map (some TC))]) (fun k=>[bP Value.string TC k.2.2]) (fun k=>VX k.1 k.2.2/\k.1.Nodup/\(∀u∈k.1,u∈l.map Nm.name)/\sj l (l.length+1-k.1.length) k.1 k.2.1=sj l (l.length+1) [] s) (fun k=>l.length+1-k.1.length) ([],s,[])
  ⟨fun t=>by simp[gj],.nil,(fun u h=>by cases h),rfl⟩ ⟨rfl,rfl,rfl,trivial⟩ (fun _ h=>h.all Nv) ?_
 rintro⟨seen,t,m⟩ ⟨hm,C_,wF,qL⟩;dsimp only at hm C_ wF qL ⊢;have hlen:seen.length<=l.length:=by
  have :=wj C_ wF;simpa using this
 obtain⟨q,wH⟩:∃q,l.length+1-seen.length=q+1:=⟨l.length-seen.length,by omega⟩;rw[wH,sj]at qL;refine K.block ?_;refine lO ?_;refine KO.zW dD _ rfl rfl rfl underlying351 underlying9 zeroValue4 br rfl ?_;refine Z3 ?_;rw[hm t];refine K.cond rfl (fun h=>?_) (fun h=>?_)
 ·have hts:t∈seen:=by simpa using h
  rw[if_pos hts]at qL;refine iz ?_;refine J3 ?_;refine KQ.rj rfl rfl rfl rfl (fun w' hs=>⟨_,_,rfl,⟨?_,rfl⟩,hw.aA hs.below,hs.below⟩);rw[<-qL]
 have hts:¬t∈seen:=by simpa using h
 rw[if_neg hts]at qL;refine BT ?_;refine KO.Yz dD _ rfl rfl rfl rfl underlying351 underlying9 br ?_;refine Z0 ?_;refine gY ?_;refine KO.ce (cp:=[]) rfl rfl rfl call172 rfl ((UK t).kP hw) ?_;rintro v' L' ⟨rfl,rfl⟩;refine LB ?_;refine KO.alloc rfl zeroValue75 aN rfl ?_;intro b8;refine B5 ?_;refine jL ?_;cases hk:lk l t with
 |none=>
  rw[hk]at qL;refine cW ?_;refine A4 ?_;refine iz ?_;refine J3 ?_;refine KQ.rj rfl rfl rfl rfl (fun w' hs=>⟨_,_,rfl,⟨?_,rfl⟩,hw.aA hs.below,hs.below⟩);rw[<-qL]
 |some y=>
  obtain⟨yn,yt,yh⟩:=y;rw[hk]at qL;simp only at qL;have e1:IW l t=⟨yn,yt,yh⟩:=by unfold IW;rw[hk];rfl
  rw[e1];refine cW ?_;refine BX ?_;refine di ?_;refine Ca ?_;refine EG ?_;refine EM ?_;by_cases h5:yt=⟨#[]⟩
  ·rw[if_pos h5]at qL;refine K.bW rfl (by simpa using h5) ?_;refine m_ ?_;refine A_ ?_;refine nX ?_;refine KQ.rj rfl rfl rfl rfl (fun w' hs=>⟨_,_,rfl,⟨?_,rfl⟩,hw.aA hs.below,hs.below⟩);rw[<-qL]
  rw[if_neg h5]at qL;refine K.ct rfl (by simpa using h5) ?_;refine qP ?_;refine H5 ?_;refine sP ?_;refine qG ?_;refine Z3 ?_;by_cases h6:0<=yh
  ·rw[if_pos h6]at qL;refine K.bW rfl (by simpa using h6) ?_;refine kO ?_;refine K.draw [.pure,.read,.pure,.read,.pure,.pure,.pure] [0,1,2,3,4,5,6] bC bC ?_;refine Ca ?_;refine EG ?_;refine H5 ?_;refine sP ?_;refine A_ ?_;refine nX ?_;refine KQ.rj rfl rfl rfl rfl (fun w' hs=>⟨_,_,rfl,⟨?_,rfl⟩,hw.aA hs.below,hs.below⟩);rw[<-qL]
  rw[if_neg h6]at qL;refine K.ct rfl (by simpa using h6) ?_;refine Nb ?_;refine di ?_;refine Ca ?_;refine EG ?_;refine He ?_;have jy:t∈l.map Nm.name:=by
   obtain⟨h1,h2⟩:=p9 hk;exact aB.2 ⟨_,h1,h2⟩
  refine KQ.round (t::seen,yt,iU m t (.bool true)) ⟨OP hm t,bL.2 ⟨hts,C_⟩,fun u hu=>?_,?_⟩ ?_ ⟨rfl,rfl,rfl,trivial⟩ (fun _ h=>h.all Y3)
  ·rcases aK.1 hu with rfl|hu
   ·exact jy
   ·exact wF u hu
  ·dsimp only;rw[<-qL,List.length_cons,show l.length+1-(seen.length+1)=q by omega]
  ·dsimp only;rw[List.length_cons];omega
theorem ZE:Go.Sort.SWO (fun a b:Nm=>decide (fy a.name b.name<0)):={
 irrefl:=fun x=>by simp[k9]
 trans:=fun x y z h1 h2=>by
  simp only[decide_eq_true_eq]at *;exact nL h1 h2
 ntrans:=fun x y z h1 h2=>by
  simp only[decide_eq_false_iff_not,Int.not_lt]at *;have a1:=k_ x.name y.name;have a2:=k_ y.name z.name;have a3:=k_ x.name z.name;rcases Decidable.em (fy x.name z.name<0)with h|h
  ·exfalso;by_cases e:fy y.name x.name=0
   ·rw[ov e]at h2;omega
   ·have :=nL (show fy y.name x.name<0 by omega) h;omega
  ·omega}
noncomputable def svT:TypeInfo:=(prog.info? 86).get bC
noncomputable def svE:TypeInfo:=(prog.info? 75).get bC
theorem svK(n:Nat)(h2:2<=n):Lib.swapperK n svE 25=9:=by
 have a:svE.hasPointers=true:=by kernel_rfl
 have b:svE.bytes=40:=by kernel_rfl
 have c:(n==0)=false:=by simp;omega
 have d:(n==1)=false:=by simp;omega
 simp[Lib.swapperK,a,b,c,d]
theorem DD:∀x y:List UInt8,Op.bytesLess x y=decide (Lib.compareBytes x y<0)
 |[],[]=>rfl
 |[],_::_=>by simp[Op.bytesLess,Lib.compareBytes]
 |_::_,[]=>by simp[Op.bytesLess,Lib.compareBytes]
 |a::x,b::y=>by
  unfold Op.bytesLess Lib.compareBytes;rw[DD x y];by_cases h1:a<b
  ·simp[h1]
  ·by_cases h2:b<a
   ·have h3:a≠b:=fun h=>by subst h;exact h1 h2
    simp[h1,h2,h3]
   ·have h3:a=b:=UInt8.le_antisymm (UInt8.not_lt.1 h2) (UInt8.not_lt.1 h1);subst h3;simp[h1]
theorem VT(Bs:Nat):QR prog 194 Nm.cells 3 (fun a b:Nm=>decide (fy a.name b.name<0)) Bs:=by
 intro W g n c dk hn hs hH i j hi hj;have ci:=(hH.cell (i:=i) (c:=0) ae ae).1;have cj:=(hH.cell (i:=j) (c:=0) ae ae).1;generalize dk[i]! =a at *;generalize dk[j]! =d at *;simp only[Nm.cells,List.getElem!_cons_zero,Nat.zero_add,Nat.add_zero]at ci cj;have e:Op.bytesLess a.name.toList d.name.toList=decide (fy a.name d.name<0):=by rw[DD,Lib.toList_data,Lib.toList_data];rfl
 clear hH
 go_enter func194,ntmps194
 go_wp2
 go_quiet (fail)
 go_wp2
 go_ret
 exact⟨rfl,nq,rfl⟩
theorem RJ(w0:World)(L:List HP)(v:Value)(xs:List Nm)(Bs:Nat)(dM:xs.length<1000000):
 KC prog 127 #[.iface 86 v,.func (.func 194) #[] #[.pointer (some ⟨Bs,0,none⟩)]] w0 (fb v xs::bA Bs (.cells [v].toArray 86 (0,0))::L)
  (fun u M=>u=.tuple #[]/\∃ys:List Nm,ys.Perm xs/\(ys.Pairwise fun a b=>decide (fy b.name a.name<0)=false)/\M=fb v ys::bA Bs (.cells [v].toArray 86 (0,0))::L):=
 Fv Tryz.laysGg6 86 75 86 svT svE bC bC bC bC 25 (fun _=>by kernel_rfl) Nm.cells 3 (fun _=>rfl) bC (fun _=>by kernel_rfl) rm _ ZE 194 (fun args w=>call194 args w)
  307 308 315 bC bC svK bC (fun args W=>run_callFunc_extern func315 bC bC bC (e:=Extern.ReflectliteSwapper.swap false) bC args W) w0 L v xs Bs (VT Bs) dM
theorem DZ(hp:bB L (bA b (.cells cs.toArray T (0,0))) R)(hq:bB R (fb v l) R2)(hc:cs[off]? =some v)(hl:l.length<900000):
 KE prog 108 #[.pointer (some ⟨b,off,none⟩)] w0 L (fun u M=> ∃ys:List Nm,ys.Perm l/\(ys.Pairwise fun a b=>decide (fy b.name a.name<0)=false)/\M=fb u ys::L):=by
 refine KE.mk (n:=15) func108 rfl ntmps108 ai ?_;intro w hw;have eM:w.cell? ⟨b,off,none⟩=some v:=by rw[World.cell?,(hw.nD hp).2];simpa using hc
 have Pb:=Src.of hq w (hw.pick hp).drop;refine Z2 ?_;refine oK ?_;refine KO.Rl Nm.cells rfl underlying86 sizeOf75 rfl ?_;intro b4;refine Z1 ?_;refine Qd ?_;refine KO.sl rfl rfl isAgg86 eM rfl ?_;refine KO.rH (z:=Value.agg #[.string ⟨#[]⟩,.string ⟨#[]⟩,.int .i64 0]) (sz:=3) (fk:=40) (ys:=l) rfl rfl rfl br (fun w' hs=>Pb.ext (Ext.bU hs.below)) underlying86 mF rfl (fun _=>rfl) rm ez ah rfl ?_;intro v9;rw[List.nil_append];refine KO.fact (fun _ hs=>bo hs) ?_;rintro⟨a9,c9,rfl,-⟩;refine KO.alloc rfl zeroValue86 aN rfl ?_;intro b3;refine KO.oQ rfl rfl rfl aN Y51 aN br aN ?_;refine rK ?_;refine KO.ld rfl rfl isAgg86 br aN rfl ?_;refine EU ?_;refine Hh ?_;refine KO.cl rfl rfl rfl call127 rfl (KC.yC aQ br (RJ w _ _ l b3 ae)) ?_;rintro v' L' ⟨rfl,ys,om,iq,rfl⟩;refine rK ?_;refine KO.ld rfl rfl isAgg86 aQ aN rfl ?_;refine kq ?_;refine KQ.aU rfl rfl (fun w' hs=>⟨_,_,rfl,⟨ys,om,iq,rfl⟩,?_,hs.below⟩);rw[<-om.length_eq]at hs ⊢;exact hw.stack (M:=[fb _ ys]) (hs.all Y6)
end
end Go.Proofs.YtjhogocabcdjbabGreatDoor
namespace WB
def toRi (e:It):Ri:=⟨e.m,e.put,e.gC⟩
def jj (l:List Ri):Nat->List Ri
 |0=>[]
 |n+1=>l.filter (fun e=>decide (e.m.pri=(n:Int)))++jj l n
def arr (l:List Ri):List Ri:=jj l 10
theorem BA:∀l:List Ri,(List.range l.length).map (lp l)=l:=fun l=>by
 refine List.ext_getElem ai fun i h1 h2=>?_
 simp[lp,au,h2]
theorem DE(l:List Ri):∀n,jj l n=(l3 l n).map (lp l)
 |0=>rfl
 |n+1=>by
  rw[jj,l3,aZ,DE l n];congr 1
  conv=>lhs;rw[<-BA l]
  rw[List.filter_map];rfl
theorem AT(l:List Ri):arr l=(eW l).map (lp l):=DE l 10
theorem IF(l:List Ri):eO l=((arr l).filter fE).map (·.m):=by
 rw[AT,List.filter_map,List.map_map];rfl
theorem LZ(l:List Ri):iL l=((arr l).filter fun e=>decide (e.put<0)).map (·.m):=by
 rw[AT,List.filter_map,List.map_map];rfl
theorem Og(l:List Ri):(arr l).find? fE=(l5 l).map (lp l):=by
 rw[AT,List.find?_map];rfl
theorem AU{l:List Ri}{e:Ri}:∀{n},e∈jj l n->e∈l/\e.m.pri<n
 |0,h=>by simp[jj]at h
 |n+1,h=>by
  rcases aO.1 h with h|h
  ·obtain⟨h1,h2⟩:=aF.1 h;simp at h2;exact⟨h1,by omega⟩
  ·have :=AU h;exact⟨this.1,by omega⟩
theorem Hb{f:Ri->Ri}(hf:∀e,(f e).m.pri=e.m.pri)(l:List Ri):∀n,jj (l.map f) n=(jj l n).map f
 |0=>rfl
 |n+1=>by
  rw[jj,jj,aZ,Hb hf l n,List.filter_map];congr 2;exact List.filter_congr fun e _=>by simp[hf]
theorem xH(p:Ri->Bool)(l:List Ri):∀n,jj (l.filter p) n=(jj l n).filter p
 |0=>rfl
 |n+1=>by
  rw[jj,jj,bY,xH p l n,dm,dm];congr 1;exact List.filter_congr fun e _=>Bool.and_comm _ _
theorem Lx{f:Ri->Ri}(hf:∀e,(f e).m.pri=e.m.pri)(l:List Ri):arr (l.map f)=(arr l).map f:=Hb hf l 10
theorem tU(p:Ri->Bool)(l:List Ri):arr (l.filter p)=(arr l).filter p:=xH p l 10
theorem DG(l:List Ri)(h0:∀e∈l,0<=e.m.pri):∀n:Nat,(jj l n).Perm (l.filter fun e=>decide (e.m.pri<(n:Int)))
 |0=>by
  rw[jj,List.filter_eq_nil_iff.2 fun e he=>by have :=h0 e he;simp;omega]
 |n+1=>by
  rw[jj];have h1:=List.filter_append_perm (fun e:Ri=>decide (e.m.pri=(n:Int))) (l.filter fun e=>decide (e.m.pri<((n+1:Nat):Int)));rw[dm,dm]at h1;have e1:(l.filter fun e=>decide (e.m.pri=(n:Int))&&decide (e.m.pri<((n+1:Nat):Int)))=l.filter fun e=>decide (e.m.pri=(n:Int)):=List.filter_congr fun e _=>by
   rw[Bool.eq_iff_iff];simp;omega
  have e2:(l.filter fun e=>(!decide (e.m.pri=(n:Int)))&&decide (e.m.pri<((n+1:Nat):Int)))=l.filter fun e=>decide (e.m.pri<(n:Int)):=List.filter_congr fun e _=>by
   rw[Bool.eq_iff_iff];simp;omega
  rw[e1,e2]at h1;exact((DG l h0 n).append_left _).trans h1
theorem nN{l:List Ri}(h:∀e∈l,0<=e.m.pri/\e.m.pri<=9):(arr l).Perm l:=by
 have :=DG l (fun e he=>(h e he).1) 10;rw[bJ.2 fun e he=>by have :=h e he;simp;omega]at this;exact this
theorem DF(l:List Ri)(x:Ri)(p:Nat)(hp:x.m.pri=p):∀n,jj (l++[x]) n=if n<=p then jj l n else(jj l n).filter (fun e=>decide (x.m.pri<=e.m.pri))++x::(jj l n).filter (fun e=> !decide (x.m.pri<=e.m.pri))
 |0=>by simp[jj]
 |n+1=>by
  rw[jj,jj,DF l x p hp n,bY];by_cases h1:n+1<=p
  ·rw[if_pos h1,if_pos ae];have :([x].filter fun e=>decide (e.m.pri=(n:Int)))=[]:=by simp;omega
   rw[this,List.append_nil]
  ·rw[if_neg h1];by_cases h2:n<=p
   ·have YU:n=p:=by omega
    subst YU;have e1:([x].filter fun e=>decide (e.m.pri=(n:Int)))=[x]:=by simp[hp]
    rw[if_pos h2,e1,bY,bY];have a1:((l.filter fun e=>decide (e.m.pri=(n:Int))).filter fun e=>decide (x.m.pri<=e.m.pri))=l.filter fun e=>decide (e.m.pri=(n:Int)):=bJ.2 fun e he=>by have :=(aF.1 he).2;simp at this ⊢;omega
    have a2:((l.filter fun e=>decide (e.m.pri=(n:Int))).filter fun e=> !decide (x.m.pri<=e.m.pri))=[]:=List.filter_eq_nil_iff.2 fun e he=>by have :=(aF.1 he).2;simp at this ⊢;omega
    have a3:((jj l n).filter fun e=>decide (x.m.pri<=e.m.pri))=[]:=List.filter_eq_nil_iff.2 fun e he=>by have :=(AU he).2;simp;omega
    have a4:((jj l n).filter fun e=> !decide (x.m.pri<=e.m.pri))=jj l n:=bJ.2 fun e he=>by have :=(AU he).2;simp;omega
    rw[a1,a2,a3,a4];simp
   ·have e1:([x].filter fun e=>decide (e.m.pri=(n:Int)))=[]:=by simp;omega
    rw[if_neg h2,e1,List.append_nil,bY,bY];have a1:((l.filter fun e=>decide (e.m.pri=(n:Int))).filter fun e=>decide (x.m.pri<=e.m.pri))=l.filter fun e=>decide (e.m.pri=(n:Int)):=bJ.2 fun e he=>by have :=(aF.1 he).2;simp at this ⊢;omega
    have a2:((l.filter fun e=>decide (e.m.pri=(n:Int))).filter fun e=> !decide (x.m.pri<=e.m.pri))=[]:=List.filter_eq_nil_iff.2 fun e he=>by have :=(aF.1 he).2;simp at this ⊢;omega
    rw[a1,a2];simp
theorem P_(l:List Ri)(x:Ri)(h:0<=x.m.pri/\x.m.pri<=9):arr (l++[x])=(arr l).filter (fun e=>decide (x.m.pri<=e.m.pri))++x::(arr l).filter (fun e=> !decide (x.m.pri<=e.m.pri)):=by
 have :=DF l x x.m.pri.toNat ae 10;rw[if_neg ae]at this;exact this
section
variable {α:Type} {key:α->Int} {xs:List α}
theorem key_inj(h:(xs.map key).Nodup){i j:Nat}{a b:α}(ha:xs[i]? =some a)(hb:xs[j]? =some b)(hk:key a=key b):i=j:=by
 obtain⟨hi,rfl⟩:=aw.1 ha;obtain⟨hj,rfl⟩:=aw.1 hb;have hn:=List.pairwise_iff_getElem.1 h;rcases Nat.lt_trichotomy i j with dN|rfl|dN
 ·exact absurd (by rw[List.getElem_map,List.getElem_map];exact hk) (hn i j (by simpa using hi) (by simpa using hj) dN)
 ·rfl
 ·exact absurd (by rw[List.getElem_map,List.getElem_map];exact hk.symm) (hn j i (by simpa using hj) (by simpa using hi) dN)
theorem V4(h:(xs.map key).Nodup){a b:α}(ha:a∈xs)(hb:b∈xs)(hk:key a=key b):a=b:=by
 obtain⟨i,hi,rfl⟩:=List.getElem_of_mem ha;obtain⟨j,hj,rfl⟩:=List.getElem_of_mem hb;have :=key_inj h (ak hi) (ak hj) hk;subst this;rfl
theorem zj(h:(xs.map key).Nodup)(f:α->α){k:Nat}{e:α}(he:xs[k]? =some e):xs.set k (f e)=xs.map fun x=>if key x=key e then f x else x:=by
 refine List.ext_getElem? fun j=>?_
 rw[List.getElem?_set,aG];have hk:=(aw.1 he).1;by_cases hj:k=j
 ·subst hj;rw[if_pos rfl,if_pos hk,he];simp
 ·rw[if_neg hj];cases hx:xs[j]? with
  |none=>rfl
  |some a=>
   have :¬key a=key e:=fun hh=>hj (key_inj h he hx hh.symm)
   simp[this]
theorem kf(h:(xs.map key).Nodup){k:Nat}{e:α}(he:xs[k]? =some e):xs.eraseIdx k=xs.filter fun x=> !decide (key x=key e):=by
 induction xs generalizing k with
 |nil=>simp at he
 |cons a l ih=>
  rw[aJ,bL]at h;cases k with
  |zero=>
   simp at he;subst he;rw[List.eraseIdx_zero,List.tail_cons,c_,if_neg ai];refine(bJ.2 fun x hx=>?_).symm;have :¬key x=key a:=fun hh=>h.1 (hh▸List.mem_map_of_mem (f:=key) hx)
   simp[this]
  |succ k=>
   simp at he;rw[List.eraseIdx_cons_succ,ih h.2 he,c_,if_pos];have :¬key a=key e:=fun hh=>h.1 (hh▸List.mem_map_of_mem (f:=key) (ax he))
   simp[this]
end
def Ki (x y:It):Prop:=y.m.pri<x.m.pri\/(x.m.pri=y.m.pri/\x.line<y.line)
structure ej (n:Int) (q:Qu) (l:List Ri):Prop where
 rel:q.l.map toRi=arr l
 ord:q.l.Pairwise Ki
 lines:∀e∈q.l,0<=e.line/\e.line<q.next
 rk:∀e∈l,0<=e.m.pri/\e.m.pri<=9
 ids:(l.map (·.m.id)).Nodup
 len:(l.length:Nat)<=n
 next:0<=q.next/\q.next<=n
section
variable {n:Int} {q:Qu} {l:List Ri} {m:Ms} {u:Int}
theorem ej.I4(h:ej n q l):q.l.length=l.length:=by
 have :=congrArg List.length h.rel;rw[aX,(nN h.rk).length_eq]at this;exact this
theorem ej.mem(h:ej n q l){e:It}(he:e∈q.l):toRi e∈l:=by
 have :toRi e∈arr l:=by rw[<-h.rel];exact List.mem_map_of_mem he
 exact(nN h.rk).mem_iff.1 this
theorem ej.R4(h:ej n q l):(q.l.map (·.m.id)).Nodup:=by
 have h1:(q.l.map (·.m.id))=(arr l).map (·.m.id):=by rw[<-h.rel,List.map_map];rfl
 rw[h1];exact(((nN h.rk).map _).nodup_iff).2 h.ids
theorem ej.cmp(h:ej n q l)(m:Ms)(u:Int){e:It}(he:e∈q.l):jK e (eG q m u)<0↔m.pri<=e.m.pri:=by
 have :=h.lines e he;unfold jK Dw eG;dsimp only;split<;>omega
theorem ej.push(h:ej n q l)(m:Ms)(u:Int):(dr q m u).l=q.l.filter (fun e=>decide (m.pri<=e.m.pri))++eG q m u::q.l.filter (fun e=> !decide (m.pri<=e.m.pri)):=by
 have hc:(q.l.takeWhile fun e=>decide (jK e (eG q m u)<0))=q.l.takeWhile fun e=>decide (m.pri<=e.m.pri):=by
  have :∀l:List It,(∀e∈l,e∈q.l)->(l.takeWhile fun e=>decide (jK e (eG q m u)<0))=l.takeWhile fun e=>decide (m.pri<=e.m.pri):=by
   intro l
   induction l with
   |nil=>intro _;rfl
   |cons a l ih=>
    intro hl;have e1:decide (jK a (eG q m u)<0)=decide (m.pri<=a.m.pri):=decide_eq_decide.2 (h.cmp m u (hl a ai));simp only[List.takeWhile_cons,e1,ih fun e he=>hl e (by simp[he])]
  exact this q.l fun _ h=>h
 obtain⟨t1,t2⟩:=ng (fun e:It=>decide (m.pri<=e.m.pri)) q.l
 obtain⟨f1,f2⟩:=n5 (p:=fun e:It=>decide (m.pri<=e.m.pri)) (l:=q.l) (h.ord.imp fun {x y} hxy hy=>by
  unfold Ki at hxy;simp at hy ⊢;omega)
 unfold dr sQ;dsimp only;rw[hc,t1,t2,f1,f2]
theorem ej.oD(h:ej n q l)(hp:0<=m.pri/\m.pri<=9)(hid:∀e∈l,e.m.id≠m.id)(u:Int):ej (n+1) (dr q m u) (eT l m u):=by
 have Bj:∀e∈(dr q m u).l,e=eG q m u\/e∈q.l:=fun e he=>by
  rw[h.push]at he;simp only[aO,aK,aF]at he;rcases he with⟨a,_⟩|a|⟨a,_⟩
  ·exact .inr a
  ·exact .inl a
  ·exact .inr a
 have Em:(dr q m u).next=q.next+1:=rfl
 refine⟨?_,?_,fun e he=>?_,fun e he=>?_,?_,?_,by have :=h.next;rw[Em];omega⟩
 ·rw[h.push,aZ,aJ];unfold eT;rw[P_ l _ hp,<-h.rel,List.filter_map,List.filter_map];have :toRi (eG q m u)=⟨m,sY u,-1⟩:=by
   unfold toRi eG sY;dsimp only;rw[show max u (-1)=if u<0 then -1 else u by split<;>omega]
  rw[this];rfl
 ·rw[h.push,List.pairwise_append,List.pairwise_cons];refine⟨h.ord.sublist List.filter_sublist,⟨fun e he=>?_,h.ord.sublist List.filter_sublist⟩,fun a ha b hb=>?_⟩
  ·obtain⟨h1,h2⟩:=aF.1 he;simp at h2;left;unfold eG;dsimp only;omega
  ·obtain⟨h1,h2⟩:=aF.1 ha;have i1:=h.lines a h1;simp at h2;rcases aK.1 hb with rfl|hb
   ·unfold Ki eG;dsimp only;omega
   ·obtain⟨h3,h4⟩:=aF.1 hb;simp at h4;left;omega
 ·rw[Em];rcases Bj e he with rfl|h1
  ·have :=h.next;unfold eG;dsimp only;omega
  ·have :=h.lines e h1;omega
 ·rcases aO.1 he with h1|h1
  ·exact h.rk e h1
  ·rw[List.mem_singleton]at h1;subst h1;exact hp
 ·unfold eT;rw[aZ,List.nodup_append];refine⟨h.ids,by simp,fun a ha b hb=>?_⟩;obtain⟨e,he,rfl⟩:=aB.1 ha;simp at hb;subst hb;exact hid e he
 ·unfold eT;have :=h.len;simp;omega
theorem ej.part(h:ej n q l){ql:List It}{l':List Ri}(hs:(ql.map ml).Sublist (q.l.map ml))(hr:ql.map toRi=arr l')(wF:(l'.map (·.m)).Sublist (l.map (·.m))):ej n ⟨ql,q.next⟩ l':=by
 have hm:∀e∈ql,∃e'∈q.l,e'.m=e.m/\e'.line=e.line:=fun e he=>by
  obtain⟨e',h1,h2⟩:=aB.1 (hs.subset (List.mem_map_of_mem (f:=ml) he));exact⟨e',h1,by simpa[ml]using h2⟩
 refine⟨hr,?_,fun e he=>?_,fun e he=>?_,?_,?_,h.next⟩
 ·have h1:(q.l.map ml).Pairwise fun x y=>y.1.pri<x.1.pri\/(x.1.pri=y.1.pri/\x.2<y.2):=List.pairwise_map.2 h.ord
  have h2:=h1.sublist hs;rw[List.pairwise_map]at h2;exact h2
 ·obtain⟨e',h1,_,h2⟩:=hm e he;rw[<-h2];exact h.lines e' h1
 ·obtain⟨e',h1,h2⟩:=aB.1 (wF.subset (List.mem_map_of_mem (f:=(·.m)) he));have :=h.rk e' h1;rw[h2]at this;exact this
 ·have h1:=h.ids;have e1:∀l:List Ri,l.map (·.m.id)=(l.map (·.m)).map (·.id):=fun l=>by rw[List.map_map];rfl
  rw[e1]at h1 ⊢;exact h1.sublist (wF.map _)
 ·have :=wF.length_le;have :=h.len;simp at *;omega
theorem ej.le(h:ej n q l){k:Int}(hk:n<=k):ej k q l:=⟨h.rel,h.ord,h.lines,h.rk,h.ids,by have :=h.len;omega,by have :=h.next;omega⟩
theorem ej.find(h:ej n q l):(q.l.find? gA).map toRi=(l5 l).map (lp l):=by
 rw[<-Og,<-h.rel,List.find?_map];rfl
theorem PL{l:List It}{p:It->Bool}:l.find? p=(l.findIdx? p).map (o4 l):=by
 cases hf:l.findIdx? p with
 |none=>rw[List.find?_eq_none.2 fun x hx=>by simpa using List.findIdx?_eq_none_iff.1 hf x hx];rfl
 |some k=>
  obtain⟨h1,h2,h3⟩:=List.findIdx?_eq_some_iff_getElem.1 hf;rw[Option.map_some,j_ (ak h1)];exact List.find?_eq_some_iff_getElem.2 ⟨h2,k,h1,rfl,fun j hj=>by simpa using h3 j hj⟩
theorem ej.get(h:ej n q l)(u:Int):l6 q=kK l/\l7 q=qy l/\ej n (lz q u) (oA l u):=by
 have hf:=h.find;rw[PL]at hf;unfold l6 l7 lz kK qy oA;change((uY q).map (o4 q.l)).map toRi=_ at hf;cases hq:uY q with
 |none=>
  rw[hq]at hf;cases hr:l5 l with
  |none=>exact⟨rfl,rfl,h⟩
  |some i=>rw[hr]at hf;simp at hf
 |some k=>
  rw[hq]at hf;cases hr:l5 l with
  |none=>rw[hr]at hf;simp at hf
  |some i=>
   rw[hr]at hf;simp only[Option.map_some,az]at hf;obtain⟨hk,_,_⟩:=List.findIdx?_eq_some_iff_getElem.1 hq;have he:q.l[k]? =some (o4 q.l k):=by rw[j_ (ak hk)];exact ak hk
   have kD:i<l.length:=by
    obtain⟨j,hj,S4⟩:=List.getElem_of_mem (List.mem_of_find?_eq_some hr);exact rS Y25
   have hi:l[i]? =some (lp l i):=by rw[pW (ak kD)];exact ak kD
   have sr:(o4 q.l k).m=(lp l i).m:=by rw[<-hf];rfl
   refine⟨sr,rfl,?_⟩;dsimp only;by_cases hu:u<0
   ·rw[if_pos hu,if_neg ae];refine h.part ((List.eraseIdx_sublist _ _).map _) ?_ ((List.eraseIdx_sublist _ _).map _);rw[kf (key:=fun x:It=>x.m.id) h.R4 he,kf (key:=fun x:Ri=>x.m.id) h.ids hi,tU,<-h.rel,List.filter_map,<-sr];rfl
   ·rw[if_neg hu,if_pos ae];have e1:(q.l.set k {o4 q.l k with gC:=u})=q.l.map fun x=>if x.m.id=(o4 q.l k).m.id then {x with gC:=u}else x:=zj (key:=fun x:It=>x.m.id) h.R4 (fun x=>{x with gC:=u}) he
    have e2:(l.set i {lp l i with gC:=u})=l.map fun x=>if x.m.id=(lp l i).m.id then {x with gC:=u}else x:=zj (key:=fun x:Ri=>x.m.id) h.ids (fun x=>{x with gC:=u}) hi
    refine h.part ?_ ?_ ?_
    ·rw[e1,List.map_map];have :(ml∘fun x:It=>if x.m.id=(o4 q.l k).m.id then {x with gC:=u}else x)=ml:=by funext x;simp only[Function.comp];split<;>rfl
     rw[this];exact .refl _
    ·rw[e1,e2,Lx (fun e=>by split<;>rfl),<-h.rel,List.map_map,List.map_map,<-sr];congr 1;funext x;simp only[Function.comp];unfold toRi;split
     ·rfl
     ·rfl
    ·rw[e2,List.map_map];have :((fun x:Ri=>x.m)∘fun x:Ri=>if x.m.id=(lp l i).m.id then {x with gC:=u}else x)=fun x=>x.m:=by funext x;simp only[Function.comp];split<;>rfl
     rw[this];exact .refl _
theorem ej.has(h:ej n q l)(id:Int):tu q id=decide (0<=ri l id):=by
 have h1:ri l id=oH (sZ id) l:=rfl;rw[h1,nJ,Bool.eq_iff_iff,List.any_eq_true];unfold tu;rw[List.any_eq_true];constructor
 ·rintro⟨e,he,hb⟩;exact⟨toRi e,h.mem he,hb⟩
 ·rintro⟨e,he,hb⟩;have :=(nN h.rk).mem_iff.2 he;rw[<-h.rel]at this;obtain⟨x,hx,rfl⟩:=aB.1 this;exact⟨x,hx,hb⟩
theorem ej.take(h:ej n q l)(id:Int):pX q id=sW l id/\kS q id=sX l id/\ej n (eF q id) (dR l id):=by
 unfold pX kS eF sW sX dR;cases hq:oB q id with
 |none=>
  cases hr:pT l id with
  |none=>exact⟨rfl,rfl,h⟩
  |some i=>
   obtain⟨hi,hb,_⟩:=List.findIdx?_eq_some_iff_getElem.1 hr;have :=(nN h.rk).mem_iff.2 (List.getElem_mem hi);rw[<-h.rel]at this;obtain⟨x,hx,V9⟩:=aB.1 this;have h2:=List.findIdx?_eq_none_iff.1 hq x hx;rw[<-V9]at hb;have :K2 id x=true:=hb;rw[this]at h2;simp at h2
 |some k=>
  obtain⟨hk,hkb,_⟩:=List.findIdx?_eq_some_iff_getElem.1 hq;have he:q.l[k]? =some (o4 q.l k):=by rw[j_ (ak hk)];exact ak hk
  have aaR:(o4 q.l k).m.id=id:=by rw[j_ (ak hk)];simpa[K2]using hkb
  have jy:=h.mem (ax he);cases hr:pT l id with
  |none=>
   have h2:=List.findIdx?_eq_none_iff.1 hr _ jy;have :sZ id (toRi (o4 q.l k))=true:=by unfold sZ toRi;simp[aaR]
   rw[this]at h2;simp at h2
  |some i=>
   obtain⟨kD,hib,_⟩:=List.findIdx?_eq_some_iff_getElem.1 hr;have hi:l[i]? =some (lp l i):=by rw[pW (ak kD)];exact ak kD
   have afk:(lp l i).m.id=id:=by rw[pW (ak kD)];simpa[sZ]using hib
   have Da:toRi (o4 q.l k)=lp l i:=V4 (key:=fun x:Ri=>x.m.id) h.ids jy (ax hi) (by show(o4 q.l k).m.id=_;rw[aaR,afk]);have sr:(o4 q.l k).m=(lp l i).m:=by rw[<-Da];rfl
   refine⟨sr,rfl,?_⟩;dsimp only;refine h.part ((List.eraseIdx_sublist _ _).map _) ?_ ((List.eraseIdx_sublist _ _).map _);rw[kf (key:=fun x:It=>x.m.id) h.R4 he,kf (key:=fun x:Ri=>x.m.id) h.ids hi,tU,<-h.rel,List.filter_map,<-sr];rfl
theorem ej.ends(h:ej n q l)(u:Int)(back:Bool):ej n (fw q u back) (dL l u back):=by
 unfold fw dL;by_cases hu:u<0
 ·rw[if_pos hu,if_pos hu];exact h
 ·rw[if_neg hu,if_neg hu];refine h.part ?_ ?_ ?_
  ·rw[List.map_map];exact(List.filter_sublist).map _
  ·rw[Lx (f:=fB u) (fun _=>rfl),tU,<-h.rel,List.filter_map,List.map_map,List.map_map];rfl
  ·rw[List.map_map];exact(List.filter_sublist).map _
theorem ej.there(h:ej n q l):eX q=eO l:=by
 rw[IF,<-h.rel,List.filter_map,List.map_map];rfl
theorem ej.kept(h:ej n q l):ig q=iL l:=by
 rw[LZ,<-h.rel,List.filter_map,List.map_map];rfl
theorem ej.gN(h:ej n q l)(m:Ms):jC q m=iK l m:=by
 unfold jC iK;rw[h.has,h.I4];by_cases h2:0<=ri l m.id<;>simp[h2]
theorem ej.fresh(h:ej n q l){id:Int}(hf:¬0<=ri l id):∀e∈l,e.m.id≠id:=fun e he hh=>by
 have h1:ri l id=oH (sZ id) l:=rfl;have :l.any (sZ id)=true:=List.any_eq_true.2 ⟨e,he,by simp[sZ,hh]⟩;rw[<-nJ,<-h1]at this;exact hf (by simpa using this)
theorem ej.put(h:ej n q l)(m:Ms)(u:Int):ej (n+1) (lU q m u) (q_ l m u):=by
 unfold lU q_;rw[h.gN];by_cases h0:iK l m=0
 ·rw[if_pos h0,if_pos h0];have hr:bD m=true:=by
   cases hm:bD m with
   |true=>rfl
   |false=>unfold iK at h0;rw[hm]at h0;simp at h0
  have hf:¬0<=ri l m.id:=fun hh=>by unfold iK at h0;rw[hr]at h0;simp[hh]at h0
  obtain⟨_,_,h3,h4,_⟩:=bG hr;exact h.oD ⟨h3,h4⟩ (h.fresh hf) u
 ·rw[if_neg h0,if_neg h0];exact h.le ae
theorem FJ:ej 0 ⟨[],0⟩ []:=⟨rfl,.nil,(fun _ h=>by cases h),(fun _ h=>by cases h),by simp,by simp,by decide,by decide⟩
end
open Go
def fx (s:aj):Option Int:=match Lib.atoiAll s.data.toList with| .ok v=>some v|_=>none
def fS (p:aj):Option Ms:=
 match dH 32 p with
 |[a,b,c,d,e]=>match fx a,fx b,fx e with|some x,some y,some z=>some ⟨x,y,c,d,z⟩|_,_,_=>none
 |_=>none
def eQ:List aj->Option (List Ms)
 |[]=>some []
 |p::ps=>match fS p,eQ ps with|some m,some ms=>some (m::ms)|_,_=>none
def wx (s:aj):Option (List Ms):=
 if s=⟨#[]⟩then some []else match eQ (dH 43 s)with|none=>none|some xs=>if jM xs=none/\cK xs=s then some xs else none
theorem xl{p:aj}:∀{ps:List aj} {xs:List Ms},eQ ps=some xs->eQ (ps++[p])=(fS p).map fun m=>xs++[m]
 |[],xs,h=>by
  simp only[eQ,az]at h;subst h;simp only[List.nil_append,eQ];cases fS p<;>rfl
 |q::ps,xs,h=>by
  simp only[eQ]at h;cases h1:fS q with
  |none=>rw[h1]at h;simp at h
  |some m=>
   rw[h1]at h;cases h2:eQ ps with
   |none=>rw[h2]at h;simp at h
   |some ms=>
    rw[h2]at h;simp only[az]at h;subst h;have ih:=xl (p:=p) h2;simp only[bz,eQ,h1,ih];cases fS p<;>rfl
theorem lD{p:aj}(hp:fS p=none):∀{ps:List aj},p∈ps->eQ ps=none
 |[],h=>by cases h
 |q::ps,h=>by
  rcases aK.1 h with rfl|h
  ·simp only[eQ,hp]
  ·simp only[eQ,lD hp h];cases fS q<;>rfl
theorem zM:∀{xs:List Ms} {f:Ms->aj},(∀m∈xs,fS (f m)=some m)->eQ (xs.map f)=some xs
 |[],_,_=>rfl
 |m::xs,f,h=>by
  simp only[aJ,eQ,h m ai,zM (fun x hx=>h x (List.mem_cons_of_mem _ hx))]
theorem tA:∀{ps:List aj} {xs:List Ms},eQ ps=some xs->xs.length=ps.length
 |[],xs,h=>by simp only[eQ,az]at h;subst h;rfl
 |q::ps,xs,h=>by
  simp only[eQ]at h;cases h1:fS q with
  |none=>rw[h1]at h;simp at h
  |some m=>
   rw[h1]at h;cases h2:eQ ps with
   |none=>rw[h2]at h;simp at h
   |some ms=>
    rw[h2]at h;simp only[az]at h;subst h;simp[tA h2]
theorem vd{s:aj}(h:gB s=true):∀b∈s.data.toList,b≠32/\b≠43:=fun b hb=>by
 unfold gB at h;have :=aL.1 h b hb;constructor<;>(rintro rfl;revert this;decide)
theorem mS{n:Int}:∀b∈(ck n).data.toList,b≠32/\b≠43:=fun b hb=>by
 have :=Ga b hb;constructor<;>(rintro rfl;revert this;decide)
theorem AP{s:aj}(h:fJ s=true):gB s=true:=by unfold fJ dc at h;simp at h;exact h.2.2
theorem i_{s:aj}(h:cH s=true):gB s=true:=by unfold cH dc at h;simp at h;exact h.2.2
theorem wo(m:Ms):rq m=cY [ck m.id,ck m.pri,m.body,m.queue,ck m.bF] sp:=by
 rw[gl,gl,gl,Mt];unfold rq;simp only[M3]
theorem jD{n:Int}(h:o5 n):fx (ck n)=some n:=by unfold fx;rw[M8 h]
theorem Me{m:Ms}(h:bD m=true):fS (rq m)=some m:=by
 obtain⟨h1,h2,h3,h4,h5,h6,h7,h8⟩:=bG h;have hb:=vd (AP h5);have hq:=vd (i_ h6);have :dH 32 (rq m)=[ck m.id,ck m.pri,m.body,m.queue,ck m.bF]:=by
  rw[wo];refine FO ai fun x hx b WQ=>?_
  simp only[aK,List.not_mem_nil,or_false]at hx;rcases hx with rfl|rfl|rfl|rfl|rfl
  ·exact(mS b WQ).1
  ·exact(mS b WQ).1
  ·exact(hb b WQ).1
  ·exact(hq b WQ).1
  ·exact(mS b WQ).1
 unfold fS;rw[this];simp only[jD (n:=m.id) ⟨by omega,by omega⟩,jD (n:=m.pri) ⟨by omega,by omega⟩,jD (n:=m.bF) ⟨by omega,by omega⟩]
theorem mQ{sep:aj}:∀{l:List aj} {b:UInt8},b∈(cY l sep).data.toList->b∈sep.data.toList\/∃x∈l,b∈x.data.toList
 |[],b,h=>by rw[CX]at h;simp at h
 |[x],b,h=>by rw[kX]at h;exact .inr ⟨x,by simp,h⟩
 |x::y::r,b,h=>by
  rw[gl]at h;simp only[ByteArray.data_append,Array.toList_append,aO]at h;rcases h with(h|h)|h
  ·exact .inr ⟨x,by simp,h⟩
  ·exact .inl h
  ·rcases mQ h with h|⟨z,hz,h⟩
   ·exact .inl h
   ·exact .inr ⟨z,List.mem_cons_of_mem _ hz,h⟩
theorem OL{m:Ms}(h:bD m=true):∀b∈(rq m).data.toList,b≠43:=fun b hb=>by
 obtain⟨h1,h2,h3,h4,h5,h6,h7,h8⟩:=bG h;rw[wo]at hb;rcases mQ hb with hb|⟨x,hx,hb⟩
 ·have :b=32:=by simpa[sp]using hb
  subst this;decide
 ·simp only[aK,List.not_mem_nil,or_false]at hx;rcases hx with rfl|rfl|rfl|rfl|rfl
  ·exact(mS b hb).2
  ·exact(mS b hb).2
  ·exact(vd (AP h5) b hb).2
  ·exact(vd (i_ h6) b hb).2
  ·exact(mS b hb).2
theorem FQ{xs:List Ms}(h:jM xs=none)(h0:xs≠[]):eQ (dH 43 (cK xs))=some xs:=by
 have hr:=eV h;have :dH 43 (cK xs)=xs.map rq:=by
  unfold cK;refine FO Zo fun x hx=>?_
  obtain⟨m,hm,rfl⟩:=aB.1 hx;exact OL (hr m hm)
 rw[this];exact zM fun m hm=>Me (hr m hm)
theorem Sq(m:Ms):1<=(rq m).size:=by
 unfold rq;simp only[aV];have :sp.size=1:=rfl;omega
theorem LG{xs:List Ms}(h0:xs≠[]):cK xs≠⟨#[]⟩:=by
 cases xs with
 |nil=>exact absurd rfl h0
 |cons m r=>
  intro h;have h1:=congrArg ByteArray.size h;have h2:=Sq m;unfold cK at h1;rw[aJ]at h1;cases r with
  |nil=>rw[List.map_nil,kX]at h1;have :(⟨#[]⟩:aj).size=0:=rfl;omega
  |cons m' r=>rw[aJ,gl]at h1;simp only[aV]at h1;have :(⟨#[]⟩:aj).size=0:=rfl;omega
theorem wq{xs:List Ms}(h:jM xs=none):wx (cK xs)=some xs:=by
 unfold wx;by_cases h0:xs=[]
 ·subst h0;rfl
 ·rw[if_neg (LG h0),FQ h h0];simp[h]
theorem rr{s:aj}{xs:List Ms}(h:wx s=some xs):jM xs=none/\cK xs=s:=by
 unfold wx at h;split at h
 ·rename_i h0;simp only[az]at h;subst h;exact⟨rfl,h0.symm⟩
 ·split at h
  ·cases h
  ·split at h
   ·rename_i h1;simp only[az]at h;subst h;exact h1
   ·cases h
theorem oc(c:UInt8):∀l,∀p∈pieces c l,p.length<=l.length
 |[],p,hp=>by simp[pieces]at hp;subst hp;exact aP _
 |a::l,p,hp=>by
  by_cases h:a=c
  ·subst h;rw[pieces_eq]at hp;rcases aK.1 hp with rfl|hp
   ·simp
   ·have :=oc a l p hp;simp;omega
  ·obtain⟨q,qs,e⟩:=List.exists_cons_of_ne_nil (wh c l);rw[ny h e]at hp;rcases aK.1 hp with rfl|hp
   ·have :=oc c l q (by rw[e];simp);simp;omega
   ·have :=oc c l p (by rw[e];simp[hp]);simp;omega
theorem jc{c:UInt8}{s p:aj}(h:p∈dH c s):p.size<=s.size:=by
 unfold dH at h;obtain⟨q,hq,rfl⟩:=aB.1 h;have :=oc c _ q hq;rw[km,km,GZ];exact this
theorem FT{p:aj}{m:Ms}(h:fS p=some m):m.body.size<=p.size/\m.queue.size<=p.size:=by
 unfold fS at h;split at h
 ·rename_i a b c d e hp;split at h
  ·simp only[az]at h;subst h;exact⟨jc (c:=32) (by rw[hp];simp),jc (c:=32) (by rw[hp];simp)⟩
  ·cases h
 ·cases h
theorem xm{B:Nat}:∀{ps:List aj} {xs:List Ms},eQ ps=some xs->(∀p∈ps,p.size<=B)->∀m∈xs,m.body.size<=B/\m.queue.size<=B
 |[],xs,h,_,m,hm=>by simp only[eQ,az]at h;subst h;cases hm
 |q::ps,xs,h,hB,m,hm=>by
  simp only[eQ]at h;cases h1:fS q with
  |none=>rw[h1]at h;simp at h
  |some m'=>
   rw[h1]at h;cases h2:eQ ps with
   |none=>rw[h2]at h;simp at h
   |some ms=>
    rw[h2]at h;simp only[az]at h;subst h;rcases aK.1 hm with rfl|hm
    ·have :=FT h1;have :=hB q ai;omega
    ·exact xm h2 (fun p hp=>hB p (List.mem_cons_of_mem _ hp)) m hm
theorem tz(c:UInt8)(s:aj):(dH c s).length<=s.size+1:=by
 unfold dH;rw[aX,gw];have :=List.count_le_length (a:=c) (l:=s.data.toList);rw[km];omega
theorem IK{m:Ms}(h:bD m=true):m.body.size<=maxLen/\m.queue.size<=maxLen:=by
 obtain⟨h1,h2,h3,h4,h5,h6,h7,h8⟩:=bG h;have a4:m.body.size<=12:=by unfold fJ dc at h5;simp at h5;omega
 have a5:m.queue.size<=8:=by unfold cH dc at h6;simp at h6;omega
 unfold maxLen;omega
structure QB (n:Nat) (q:Qu):Prop where
 ord:q.l.Pairwise Ki
 lines:∀e∈q.l,0<=e.line/\e.line<q.next
 rk:∀e∈q.l,0<=e.m.pri/\e.m.pri<=9
 len:q.l.length<=n
 next:0<=q.next/\q.next<=n
 ids:∀e∈q.l,0<=e.m.id/\e.m.id<=1099511627776
section
variable {n:Nat} {q:Qu} {m:Ms} {u:Int}
theorem QB.nil:QB n ⟨[],0⟩:=⟨.nil,(fun _ h=>by cases h),(fun _ h=>by cases h),by simp,fZ,(fun _ h=>by cases h)⟩
theorem QB.le(h:QB n q){k:Nat}(hk:n<=k):QB k q:=⟨h.ord,h.lines,h.rk,Nat.le_trans h.len hk,(by have :=h.next;omega),h.ids⟩
theorem QB.cmp(h:QB n q)(m:Ms)(u:Int){e:It}(he:e∈q.l):jK e (eG q m u)<0↔m.pri<=e.m.pri:=by
 have :=h.lines e he;unfold jK Dw eG;dsimp only;split<;>omega
theorem QB.ok(h:QB n q)(hn:n<100000):Yt q:=by
 have Bj:=h.len;refine⟨by omega,fun e he=>?_,⟨h.next.1,by have :=h.next;omega⟩,fun m u i j a b hij ha hb dN=>?_⟩
 ·have h1:=h.rk e he;have h2:=h.lines e he;have h3:=h.next
  unfold pO small;omega
 ·have ma:=ax ha;have mb:=ax hb;rw[h.cmp m u ma];rw[h.cmp m u mb]at dN;rcases Nat.lt_or_ge i j with wN|Ip
  ·obtain⟨hi,rfl⟩:=aw.1 ha;obtain⟨hj,rfl⟩:=aw.1 hb;have :=List.pairwise_iff_getElem.1 h.ord i j hi hj wN;unfold Ki at this;omega
  ·obtain rfl:i=j:=by omega
   rw[ha]at hb;cases hb;exact dN
theorem QB.push(h:QB n q)(m:Ms)(u:Int):(dr q m u).l=q.l.filter (fun e=>decide (m.pri<=e.m.pri))++eG q m u::q.l.filter (fun e=> !decide (m.pri<=e.m.pri)):=by
 have hc:(q.l.takeWhile fun e=>decide (jK e (eG q m u)<0))=q.l.takeWhile fun e=>decide (m.pri<=e.m.pri):=by
  have :∀l:List It,(∀e∈l,e∈q.l)->(l.takeWhile fun e=>decide (jK e (eG q m u)<0))=l.takeWhile fun e=>decide (m.pri<=e.m.pri):=by
   intro l
   induction l with
   |nil=>intro _;rfl
   |cons a l ih=>
    intro hl;have e1:decide (jK a (eG q m u)<0)=decide (m.pri<=a.m.pri):=decide_eq_decide.2 (h.cmp m u (hl a ai));simp only[List.takeWhile_cons,e1,ih fun e he=>hl e (by simp[he])]
  exact this q.l fun _ h=>h
 obtain⟨t1,t2⟩:=ng (fun e:It=>decide (m.pri<=e.m.pri)) q.l
 obtain⟨f1,f2⟩:=n5 (p:=fun e:It=>decide (m.pri<=e.m.pri)) (l:=q.l) (h.ord.imp fun {x y} hxy hy=>by
  unfold Ki at hxy;simp at hy ⊢;omega)
 unfold dr sQ;dsimp only;rw[hc,t1,t2,f1,f2]
theorem QB.oD(h:QB n q)(hp:0<=m.pri/\m.pri<=9)(hi:0<=m.id/\m.id<=1099511627776)(u:Int):QB (n+1) (dr q m u):=by
 have Bj:∀e∈(dr q m u).l,e=eG q m u\/e∈q.l:=fun e he=>by
  rw[h.push]at he;simp only[aO,aK,aF]at he;rcases he with⟨a,_⟩|a|⟨a,_⟩
  ·exact .inr a
  ·exact .inl a
  ·exact .inr a
 have Em:(dr q m u).next=q.next+1:=rfl
 refine⟨?_,fun e he=>?_,fun e he=>?_,?_,(by have :=h.next;rw[Em];omega),fun e he=>?_⟩
 ·rw[h.push,List.pairwise_append,List.pairwise_cons];refine⟨h.ord.sublist List.filter_sublist,⟨fun e he=>?_,h.ord.sublist List.filter_sublist⟩,fun a ha b hb=>?_⟩
  ·obtain⟨h1,h2⟩:=aF.1 he;simp at h2;left;unfold eG;dsimp only;omega
  ·obtain⟨h1,h2⟩:=aF.1 ha;have i1:=h.lines a h1;simp at h2;rcases aK.1 hb with rfl|hb
   ·unfold Ki eG;dsimp only;omega
   ·obtain⟨h3,h4⟩:=aF.1 hb;simp at h4;left;omega
 ·rw[Em];rcases Bj e he with rfl|h1
  ·have :=h.next;unfold eG;dsimp only;omega
  ·have :=h.lines e h1;omega
 ·rcases Bj e he with rfl|h1
  ·exact hp
  ·exact h.rk e h1
 ·have :=h.len;unfold dr;dsimp only;have h2:=Ck q.l (eG q m u);simp;omega
 ·rcases Bj e he with rfl|h1
  ·exact hi
  ·exact h.ids e h1
theorem QB.part(h:QB n q){ql:List It}(hs:(ql.map ml).Sublist (q.l.map ml)):QB n ⟨ql,q.next⟩:=by
 have hm:∀e∈ql,∃e'∈q.l,e'.m=e.m/\e'.line=e.line:=fun e he=>by
  obtain⟨e',h1,h2⟩:=aB.1 (hs.subset (List.mem_map_of_mem (f:=ml) he));exact⟨e',h1,by simpa[ml]using h2⟩
 refine⟨?_,fun e he=>?_,fun e he=>?_,?_,h.next,fun e he=>?_⟩
 ·have h1:(q.l.map ml).Pairwise fun x y=>y.1.pri<x.1.pri\/(x.1.pri=y.1.pri/\x.2<y.2):=List.pairwise_map.2 h.ord
  have h2:=h1.sublist hs;rw[List.pairwise_map]at h2;exact h2
 ·obtain⟨e',h1,_,h2⟩:=hm e he;rw[<-h2];exact h.lines e' h1
 ·obtain⟨e',h1,h2,_⟩:=hm e he;rw[<-h2];exact h.rk e' h1
 ·have :=hs.length_le;have :=h.len;simp at *;omega
 ·obtain⟨e',h1,h2,_⟩:=hm e he;rw[<-h2];exact h.ids e' h1
theorem QB.take(h:QB n q)(id:Int):QB n (eF q id):=by
 unfold eF;split
 ·exact h
 ·exact h.part ((List.eraseIdx_sublist _ _).map _)
theorem VD{l:List It}{k:Nat}{x:It}(h:∀e,l[k]? =some e->ml x=ml e):(l.set k x).map ml=l.map ml:=by
 apply List.ext_getElem?;intro j;rw[aG,aG,List.getElem?_set];by_cases e:k=j
 ·subst e;rw[if_pos rfl];by_cases hk:k<l.length
  ·rw[if_pos hk,Option.map_some,ak hk,Option.map_some,h _ (ak hk)]
  ·rw[if_neg hk,cc ae]
 ·rw[if_neg e]
theorem QB.get(h:QB n q)(u:Int):QB n (lz q u):=by
 unfold lz;split
 ·exact h
 ·split
  ·exact h.part ((List.eraseIdx_sublist _ _).map _)
  ·refine h.part ?_;rw[VD fun e he=>by rw[j_ he];rfl];exact .refl _
theorem QB.ends(h:QB n q)(u:Int)(b:Bool):QB n (fw q u b):=by
 unfold fw;split
 ·exact h
 ·refine h.part ?_;rw[List.map_map,show ml∘qj u=ml from rfl];exact List.filter_sublist.map _
theorem QB.put(h:QB n q)(m:Ms)(u:Int):QB (n+1) (lU q m u):=by
 unfold lU;split
 ·rename_i h0;unfold jC at h0;cases hr:bD m with
  |false=>rw[if_pos hr]at h0;cases h0
  |true=>
   have h1:=bG hr;exact h.oD ⟨h1.2.2.1,h1.2.2.2.1⟩ ⟨h1.1,h1.2.1⟩ u
 ·exact h.le (Nat.le_succ n)
end
open Go Go.RowKit
def Vl (a c:Int):Int:=IntKind.u64.wrap ((BitVec.ofInt 64 a^^^BitVec.ofInt 64 c).toNat:Nat)
def VV (a c:Int):Int:=IntKind.u64.wrap (a *c)
theorem wrap_u64(n:Int):0<=IntKind.u64.wrap n/\IntKind.u64.wrap n<=18446744073709551615:=by
 have e:IntKind.u64.wrap n=n%18446744073709551616:=by simp[IntKind.wrap,IntKind.bits,IntKind.signed]
 rw[e];omega
section
variable {P:Program} {ops:Array Oper} {d:Bool} {Q:Exit->Act->World->Prop} {n:Nat} {D:List Deferred} {w0:World} {G:Env} {L R:List HP} {l:List (Kd×Oper)} {k:Kd}
 {t:Nat} {op:Op} {ty T T' E:TypeId} {pos:String} {af:Array Edge} {x y z:Operand} {a c r:Int} {kk yk:IntKind}
theorem KO.adY(hx:ev G x=some (.int .u64 a))(hy:ev G y=some (.int .u64 c))(ht:Nat.blt t n=true)(h:KO P ops d Q n D w0 ((t,.int .u64 (Vl a c))::G) L l):
 KO P ops d Q n D w0 G L ((k,⟨some t,.binOp .xor T x y T',ty,pos,af,none⟩)::l):=
 KO.val (fun a' w ha=>by simp[execOp,ha.eval hx,ha.eval hy,eqGuard_at_int,binOp_xor,Op.intBits,Vl];rfl) ht h
theorem KO.aex(hx:ev G x=some (.int .u64 a))(hy:ev G y=some (.int .u64 c))(ht:Nat.blt t n=true)(h:KO P ops d Q n D w0 ((t,.int .u64 (VV a c))::G) L l):
 KO P ops d Q n D w0 G L ((k,⟨some t,.binOp .mul T x y T',ty,pos,af,none⟩)::l):=
 KO.val (fun a' w ha=>by simp[execOp,ha.eval hx,ha.eval hy,eqGuard_at_int,binOp_mul,Op.intArith,VV]) ht h
theorem KO.Ay{ad:Addr}(hx:ev G x=some (.pointer (some ad)))(hT:P.underlying T=some (.pointer E))(ht:Nat.blt t n=true)(h:KO P ops d Q n D w0 ((t,.bool false)::G) L l):
 KO P ops d Q n D w0 G L ((k,⟨some t,.binOp .eql T x (.const (.pointer none)) T',ty,pos,af,none⟩)::l):=
 KO.val (fun a w ha=>by
  simp only[execOp,ha.eval hx,show a.eval (.const (.pointer none))=.pointer none from rfl]
  simp[go_sem,hT]) ht h
theorem KO.BL(hx:ev G x=some (.pointer none))(hT:P.underlying T=some (.pointer E))(ht:Nat.blt t n=true)(h:KO P ops d Q n D w0 ((t,.bool true)::G) L l):
 KO P ops d Q n D w0 G L ((k,⟨some t,.binOp .eql T x (.const (.pointer none)) T',ty,pos,af,none⟩)::l):=
 KO.val (fun a w ha=>by
  simp only[execOp,ha.eval hx,show a.eval (.const (.pointer none))=.pointer none from rfl]
  simp[go_sem,hT]) ht h
theorem KO.aeg(hx:ev G x=some (.int .u64 a))(hy:ev G y=some (.int yk 3))(ht:Nat.blt t n=true)(h:KO P ops d Q n D w0 ((t,.int .u64 (a/8))::G) L l):
 KO P ops d Q n D w0 G L ((k,⟨some t,.binOp .shr T x y T',ty,pos,af,none⟩)::l):=
 KO.val (fun a' w ha=>by simp[execOp,ha.eval hx,ha.eval hy,eqGuard_at_int,binOp_shr,shift_shr_u64]) ht h
theorem KO.b2u(hx:ev G x=some (.int .u8 a))(hs:(P.underlying T).isSome=true)(hd:P.underlying T'=some (.int .u64))(h0:0<=a/\a<=18446744073709551615)(ht:Nat.blt t n=true)(h:KO P ops d Q n D w0 ((t,.int .u64 a)::G) L l):
 KO P ops d Q n D w0 G L ((k,⟨some t,.convert T T' x,ty,pos,af,none⟩)::l):=
 KO.val (fun a' w ha=>by
  have :=run_convert_int (P:=P) w T T' .u8 a hs Y26;simp[Program.intKind,hd,Ul h0.1 h0.2]at this
  simp[execOp,ha.eval hx,this]) ht h
theorem KO.min2{ts:Array TypeId}(hx:ev G x=some (.int .i64 a))(hy:ev G y=some (.int .i64 c))(hr:min a c=r)(ht:Nat.blt t n=true)(h:KO P ops d Q n D w0 ((t,.int .i64 r)::G) L l):
 KO P ops d Q n D w0 G L ((k,⟨some t,.call ⟨.builtin .min,#[x,y],ts⟩,ty,pos,af,none⟩)::l):=
 KO.val (fun a' w ha=>by
  subst hr;simp[execOp,resolve,invoke,builtin,ha.eval hx,ha.eval hy,Builtin.min_,Builtin.min2]
  rw[Int.min_def];split<;>split<;>first|rfl|omega) ht h
theorem KO.div(hx:ev G x=some (.int .i64 a))(hy:ev G y=some (.int .i64 c))(hc:0<c)(MP:0<=a)(WW:a<=9223372036854775807)(ht:Nat.blt t n=true)(h:KO P ops d Q n D w0 ((t,.int .i64 (a/c))::G) L l):
 KO P ops d Q n D w0 G L ((k,⟨some t,.binOp .quo T x y T',ty,pos,af,none⟩)::l):=
 KO.val (fun a' w ha=>by
  have e:a.tdiv c=a/c:=Int.tdiv_eq_ediv_of_nonneg MP;have h1:0<=a/c:=Int.ediv_nonneg MP ae;have h2:a/c<=a:=Int.ediv_le_self _ MP;have h3:c≠0:=by omega
  simp[execOp,ha.eval hx,ha.eval hy,eqGuard_at_int,binOp_quo,Op.intDiv,h3,e,Fc (by omega : -9223372036854775808<=a/c) ae]) ht h
theorem KO.rem(hx:ev G x=some (.int .i64 a))(hy:ev G y=some (.int .i64 c))(hc:0<c)(MP:0<=a)(ht:Nat.blt t n=true)(h:KO P ops d Q n D w0 ((t,.int .i64 (a%c))::G) L l):
 KO P ops d Q n D w0 G L ((k,⟨some t,.binOp .rem T x y T',ty,pos,af,none⟩)::l):=
 KO.val (fun a' w ha=>by
  have e:a.tmod c=a%c:=Int.tmod_eq_emod_of_nonneg MP;have h3:c≠0:=by omega
  simp[execOp,ha.eval hx,ha.eval hy,eqGuard_at_int,binOp_rem,Op.intDiv,h3,e]) ht h
end
def p7 (c:UInt8) (s:aj):Prop:= ∀b∈s.data.toList,b≠c
theorem dO{c:UInt8}{a b:aj}(ha:p7 c a)(hb:p7 c b):p7 c (a++b):=fun x hx=>by
 rw[show(a++b).data.toList=a.data.toList++b.data.toList by simp]at hx;rcases aO.1 hx with h|h
 ·exact ha x h
 ·exact hb x h
def cZ (c:UInt8) (s:aj):aj×aj×Bool:=(toB (Lib.cut s.data.toList [c]).1,toB (Lib.cut s.data.toList [c]).2.1,(Lib.cut s.data.toList [c]).2.2)
def bZ (c:UInt8):aj:=⟨#[c]⟩
def aed (n:Int) (b:UInt8):Int:=VV (Vl n (b.toNat:Nat)) 1099511628211
def LN (l:List UInt8):Int:=l.foldl aed 14695981039346656037
def xK (s:aj):Int:=LN s.data.toList/8
theorem ze(l:List UInt8):0<=LN l/\LN l<=18446744073709551615:=by
 unfold LN;rcases List.eq_nil_or_concat l with rfl|⟨r,b,rfl⟩
 ·decide
 ·rw[List.concat_eq_append,List.foldl_append];exact wrap_u64 _
theorem zd(s:aj):0<=xK s/\xK s<=2305843009213693951:=by
 have :=ze s.data.toList;unfold xK;omega
def jP (k:Int) (s:aj):aj:=ck k++bZ 124++s
def ew (k:Int) (s:aj):aj:=jP k s++bZ 124++ck (xK (jP k s))
def gU (k:Int) (t:aj):Option aj:=match dH 124 t with
 |[_,w,_]=>if ew k w=t then some w else none
 |_=>none
structure Dk where
 places:List aj
 cut:Bool
 left:Int
def qD:Dk:=⟨List.replicate 300 ⟨#[]⟩,false,0⟩
def kN (D:Dk) (n:Int):Dk:={D with cut:=decide (0<=n),left:=max n 0}
def AB (s:aj) (dC:Int):aj:=s.extract 0 (min dC ((s.size:Int)-1)).toNat
def lL (D:Dk):Bool:=D.cut&&decide (D.left=0)
def fq (D:Dk) (k:Nat) (s:aj) (dC:Int):Dk:=
 if lL D=true then(if 0<=dC then {D with places:=D.places.set k (AB s dC)}else D)else {D with left:=D.left-1,places:=D.places.set k s}
def ou (D:Dk):Int:=if lL D=true then 14 else 0
theorem jn{c:UInt8}{a:aj}(ha:p7 c a)(r:aj):dH c (a++bZ c++r)=a::dH c r:=by
 unfold dH bZ;rw[show(a++⟨#[c]⟩++r).data.toList=a.data.toList++c::r.data.toList by simp,p5 _ ha];rfl
theorem lC{c:UInt8}{a:aj}(ha:p7 c a):dH c a=[a]:=by
 unfold dH;rw[od ha];rfl
theorem Sb{c:UInt8}{s p:aj}(h:p∈dH c s):p7 c p:=by
 unfold dH at h;obtain⟨q,hq,rfl⟩:=aB.1 h;exact fun b hb=>pZ c _ q hq b (by rw[GZ]at hb;exact hb)
theorem fV{c:UInt8}(n:Int)(h:c.toNat≠45/\(c.toNat<48\/57<c.toNat)):p7 c (ck n):=fun b hb e=>by
 subst e;have :=Ga b hb;omega
theorem rG(n:Int):p7 124 (ck n):=fV n ah
theorem zo(k:Int)(s:aj):ew k s=ck k++bZ 124++(s++bZ 124++ck (xK (jP k s))):=by
 unfold ew;rw[show jP k s=ck k++bZ 124++s from rfl];simp only[ByteArray.append_assoc]
theorem tC{k:Int}{s:aj}(h:p7 124 s):gU k (ew k s)=some s:=by
 unfold gU;have :dH 124 (ew k s)=[ck k,s,ck (xK (jP k s))]:=by
  rw[zo,jn (rG k),jn h,lC (rG _)]
 rw[this];simp
theorem IU{k:Int}{t w:aj}(h:gU k t=some w):ew k w=t/\p7 124 w:=by
 unfold gU at h;split at h
 ·rename_i a b c e;split at h
  ·rename_i e2;simp only[az]at h;subst h;exact⟨e2,Sb (s:=t) (by rw[e];simp)⟩
  ·cases h
 ·cases h
theorem zO{k:Int}{s:aj}{i:Nat}(h:p7 124 s)(hi:i<(ew k s).size):gU k ((ew k s).extract 0 i)=none:=by
 cases ho:gU k ((ew k s).extract 0 i)with
 |none=>rfl
 |some w=>
  obtain⟨h1,h2⟩:=IU ho;have e1:ew k s=ew k w++(ew k s).extract i (ew k s).size:=by
   rw[h1];generalize ew k s=u at hi;rw[ByteArray.extract_append_extract,Nat.min_eq_left (aH _),Nat.max_eq_right ae,ByteArray.extract_zero_size]
  have p1:dH 124 (ew k s)=[ck k,s,ck (xK (jP k s))]:=by
   rw[zo,jn (rG k),jn h,lC (rG _)]
  have p2:∃r,dH 124 (ew k s)=ck k::w::r:=by
   rw[e1,zo k w];rw[show ck k++bZ 124++(w++bZ 124++ck (xK (jP k w)))++(ew k s).extract i (ew k s).size=ck k++bZ 124++(w++bZ 124++(ck (xK (jP k w))++(ew k s).extract i (ew k s).size))by simp only[ByteArray.append_assoc]];exact⟨_,by rw[jn (rG k),jn h2]⟩
  obtain⟨r,p2⟩:=p2;rw[p1]at p2;simp only[List.cons.injEq,true_and]at p2;have hw:w=s:=p2.1.symm;subst hw;have :=congrArg ByteArray.size h1;simp at this;omega
theorem Mf(k:Int):gU k ⟨#[]⟩=none:=by
 unfold gU;rw[show dH 124 ⟨#[]⟩=[⟨#[]⟩]from lC (fun b hb=>by simp at hb)]
theorem sU(k:Int)(s:aj):0<(ew k s).size:=by
 have h1:(bZ 124).size=1:=rfl;unfold ew;simp only[aV];omega
theorem uH{k:Int}{s:aj}(hk:o5 k)(hs:s.size<=700000):(ew k s).size<=700100:=by
 have h1:(bZ 124).size=1:=rfl;have h2:=zd (jP k s);have h3:=cL (n:=xK (jP k s)) ⟨by omega,by omega⟩;have h4:=cL hk;have h5:(jP k s).size<=700022:=by unfold jP;simp only[aV];omega
 unfold ew;simp only[aV];omega
theorem Gg{c:UInt8}(r:List UInt8):∀{l:List UInt8},(∀b∈l,b≠c)->Lib.indexByte (l++c::r) c=(l.length:Nat)
 |[],_=>by simp[Lib.indexByte]
 |b::l,h=>by
  rw[bz];unfold Lib.indexByte;rw[Gg r fun x hx=>h x vP];simp[h b ai]
theorem cutB_hit{c:UInt8}{a:aj}(ha:p7 c a)(r:aj):cZ c (a++bZ c++r)=(a,r,true):=by
 have e:Lib.cut (a++bZ c++r).data.toList [c]=(a.data.toList,r.data.toList,true):=by
  unfold Lib.cut bZ;rw[Lib.index_one,show(a++⟨#[c]⟩++r).data.toList=a.data.toList++c::r.data.toList by simp,Gg _ ha,if_pos ae];rw[aE,List.take_left,List.length_singleton,<-List.drop_drop,List.drop_left];rfl
 unfold cZ;rw[e];rfl
def bI {α β:Type} (f:α->β->HP) (ps:List α) (xs:List β):HP:=iR (List.zipWith f ps xs)
section
variable {α β:Type} {f:α->β->HP} {w0 w:World} {L:List HP} {ps:List α} {xs:List β} {p:α} {x:β} {i:Nat}
theorem uZ{A:HP}:∀(l r:List HP),bB (l++A::r) A (l++r)
 |[],_=>.head
 |_::l,r=>.tail (uZ l r)
theorem PQ(h:St w0 (bI f ps xs::L) w):St w0 (List.zipWith f ps xs++L) w:=h.splits
theorem Jy(h:St w0 (List.zipWith f ps xs++L) w):St w0 (bI f ps xs::L) w:=h.KZ
theorem Cd(hp:ps[i]? =some p)(hx:xs[i]? =some x):List.zipWith f ps xs=List.zipWith f (ps.take i) (xs.take i)++f p x::List.zipWith f (ps.drop (i+1)) (xs.drop (i+1)):=by
 obtain⟨h1,rfl⟩:=aw.1 hp;obtain⟨h2,rfl⟩:=aw.1 hx;have e1:ps=ps.take i++ps[i]::ps.drop (i+1):=by rw[<-List.drop_eq_getElem_cons h1,List.take_append_drop]
 have e2:xs=xs.take i++xs[i]::xs.drop (i+1):=by rw[<-List.drop_eq_getElem_cons h2,List.take_append_drop]
 conv=>lhs;rw[e1,e2]
 rw[List.zipWith_append ez];rfl
theorem Ce(hp:i<ps.length)(hx:i<xs.length):List.zipWith f (ps.eraseIdx i) (xs.eraseIdx i)=List.zipWith f (ps.take i) (xs.take i)++List.zipWith f (ps.drop (i+1)) (xs.drop (i+1)):=by
 rw[List.eraseIdx_eq_take_drop_succ,List.eraseIdx_eq_take_drop_succ,List.zipWith_append ez]
theorem cM(hp:ps[i]? =some p)(hx:xs[i]? =some x)(h:St w0 (bI f ps xs::L) w):St w0 (f p x::bI f (ps.eraseIdx i) (xs.eraseIdx i)::L) w:=by
 have h1:=PQ h;rw[Cd hp hx,aR,bz]at h1;have h2:=h1.pick (uZ _ _);rw[<-aR,<-Ce (aw.1 hp).1 (aw.1 hx).1]at h2;exact h2.j0 fun _ hh=>gE (fun _ h=>h) (fun _ h=>dV.1 h) hh
theorem kY(hp:i<ps.length)(hx:i<xs.length)(h:St w0 (f p x::bI f (ps.eraseIdx i) (xs.eraseIdx i)::L) w):St w0 (bI f (ps.set i p) (xs.set i x)::L) w:=by
 have h1:St w0 (f p x::(List.zipWith f (ps.eraseIdx i) (xs.eraseIdx i)++L)) w:=h.j0 fun _ hh=>gE (fun _ h=>h) (fun _ h=>dV.2 h) hh
 refine Jy ?_;rw[Cd (p:=p) (x:=x) (i:=i) (by rw[List.getElem?_set_self hp]) (by rw[List.getElem?_set_self hx]),aR,bz];refine St.vR ?_ (uZ _ _);rw[<-aR];rw[Ce hp hx]at h1;simpa[List.take_set_of_le,List.drop_set_of_lt]using h1
theorem Lf(hp:ps[i]? =some p)(hx:i<xs.length)(h:St w0 (f p x::bI f (ps.eraseIdx i) (xs.eraseIdx i)::L) w):St w0 (bI f ps (xs.set i x)::L) w:=by
 have h1:=kY (aw.1 hp).1 hx h;have e:ps.set i p=ps:=by obtain⟨h2,rfl⟩:=aw.1 hp;exact List.set_getElem_self h2
 rwa [e]at h1
theorem fY(hp:ps[i]? =some p)(hx:xs[i]? =some x)(h:St w0 (f p x::bI f (ps.eraseIdx i) (xs.eraseIdx i)::L) w):St w0 (bI f ps xs::L) w:=by
 have h1:=Lf hp (aw.1 hx).1 h;have e:xs.set i x=xs:=by obtain⟨h2,rfl⟩:=aw.1 hx;exact List.set_getElem_self h2
 rwa [e]at h1
theorem po(hl:ps.length=xs.length)(h:St w0 (f p x::bI f ps xs::L) w):St w0 (bI f (ps++[p]) (xs++[x])::L) w:=by
 have h1:St w0 (f p x::(List.zipWith f ps xs++L)) w:=h.j0 fun _ hh=>gE (fun _ h=>h) (fun _ h=>dV.2 h) hh
 refine Jy ?_;rw[List.zipWith_append hl,aR];exact St.vR h1 (uZ _ _)
theorem Lh(h:St w0 L w):St w0 (bI f [] []::L) w:=h.abz
end
structure pI where
 aT:List (Ms×Int)
 aY:List (Int×aj)
instance:Inhabited pI:=⟨⟨[],[]⟩⟩
structure Ho where
 id:Int
 used:Nat
 down:Bool
 dC:Int
 next:Int
 names:List Nm
 aI:List (aj×Qu)
 ways:List Qu
 ay:List pI
 batch:List (List Int)
 bT:List Int
 aC:List Int
namespace Ho
abbrev all (H:Ho):List Qu:=H.ways++H.aI.map (·.2)
def qI (H:Ho) (s:aj):Option Nat:=H.aI.findIdx? fun x=>decide (x.1=s)
def dZ (H:Ho) (i:Nat):Qu:=(H.aI.getD i (⟨#[]⟩,default)).2
def eA (H:Ho) (i:Nat) (q:Qu):Ho:={H with aI:=H.aI.set i ((H.aI.getD i (⟨#[]⟩,default)).1,q)}
def iY (H:Ho) (j:Nat):Qu:=H.ways.getD j default
def iG (H:Ho) (j:Nat) (q:Qu):Ho:={H with ways:=H.ways.set j q}
def dW (H:Ho) (u:Nat):pI:=H.ay.getD u default
end Ho
structure HoX (n:Nat) (b:List (List Int)) (s a:List Int):Prop where
 Xo:∀l∈b,l.length<=100000
 VC:∀x∈s,0<=x/\x<=(n:Int)
 arr:∀x∈a,0<=x/\x<=(n:Int)
theorem HoX.le{n k:Nat}{b:List (List Int)}{s a:List Int}(h:HoX n b s a)(hk:n<=k):HoX k b s a:=⟨h.Xo,fun x hx=>by have :=h.VC x hx;omega,fun x hx=>by have :=h.arr x hx;omega⟩
structure cx (n:Nat) (H:Ho):Prop where
 id:0<=H.id/\H.id<4
 used:H.used<=300
 next:0<=H.next/\H.next<=274877906945
 sorted:dF H.names
 fT:H.names.length<=20
 oV:H.aI.length<=n
 qs:∀q∈H.all,QB n q
 nodup:(H.aI.map (·.1)).Nodup
 ways:H.ways.length=4
 ay:H.ay.length=5
 batch:H.batch.length=4
 bT:H.bT.length=4
 aC:H.aC.length=4
 right:∀x∈H.names,bK x=true
 loc:∀x∈H.names,x.gK=⟨#[]⟩->∃i,H.qI x.name=some i
 ext:HoX n H.batch H.bT H.aC
def jQ (H:Ho):Int:=if H.down=true then 6 else if 300<=H.used then 4 else 0
def ec (H:Ho) (D:Dk):Int:=if jQ H≠0 then jQ H else ou D
def eC (H:Ho) (D:Dk):Ho:=if jQ H≠0 then H else if ou D≠0 then {H with down:=true}else {H with used:=H.used+1}
def gg (H:Ho) (D:Dk) (s:aj):Dk:=if jQ H≠0 then D else fq D H.used (ew H.used s) H.dC
def eS (H:Ho) (x:Nm):Ho:=
 if cu H.names x=0 then {H with names:=eE H.names x,aI:=if x.gK=⟨#[]⟩/\H.qI x.name=none then H.aI++[(x.name,⟨[],0⟩)]else H.aI}else H
def Gk (H:Ho) (x:Nm):Int:=cu H.names x
def ot (H:Ho) (s:aj):Ho:={H with names:=kh H.names s}
def wP (H:Ho) (s:aj):Int:=lu H.names s
def gG (H:Ho) (m:Ms):Option Ho:=
 let H1:={H with next:=max H.next (m.id/4+1)}
 if m.bF≠H.id then some (H1.iG m.bF.toNat (dr (H.iY m.bF.toNat) m (-1)))else match H.qI m.queue with
  |none=>none
  |some i=>some (H1.eA i (dr (H.dZ i) m (-1)))
def fW:Ho->List Ms->Ho×Bool
 |H,[]=>(H,true)
 |H,m::r=>match gG H m with
  |some H1=>fW H1 r
  |none=>({H with next:=max H.next (m.id/4+1)},false)
def gV (H:Ho) (s:aj):Option Ho:=match fx (cZ 32 s).1 with
 |none=>none
 |some n=>match H.qI (cZ 32 s).2.1 with
  |none=>none
  |some i=>if kS (H.dZ i) n=0 then some (H.eA i (eF (H.dZ i) n))else none
def gH:Ho->List aj->Ho×Bool
 |H,[]=>(H,true)
 |H,s::r=>match gV H s with
  |some H1=>gH H1 r
  |none=>(H,false)
def eK (H:Ho) (s:aj):Ho×Bool:=
 if(cZ 47 s).2.2=false then(H,false)else match wx (cZ 47 s).1 with
 |none=>(H,false)
 |some l=>
  if(fW H l).2=false then(fW H l).1|>fun H1=>(H1,false)else
  if(cZ 47 s).2.1=⟨#[]⟩then((fW H l).1,true)else gH (fW H l).1 (dH 43 (cZ 47 s).2.1)
def dash (s:aj):aj:=toB (Lib.trimPrefix s.data.toList [45])
def tI (s:aj):Option Nm:=match dH 32 s with
 |[a,b,c]=>(fx c).map fun k=>⟨a,dash b,k⟩
 |_=>none
def qB (s:aj):Option (List Int):=(dH 32 s).mapM fx
def cb (H:Ho) (k:Int):Bool:=decide (0<=k/\k<4/\k≠H.id)
def cJ (H:Ho) (j:Nat):List Int:=H.batch.getD j []
def gD (H:Ho) (j:Nat):Int:=H.bT.getD j 0
def fv (H:Ho) (j:Nat):Int:=H.aC.getD j 0
def je (H:Ho) (s:aj):Ho×Bool:=match qB s with
 |some (k::a::r)=>if cb H k=true then({H with batch:=H.batch.set k.toNat (a::r),bT:=H.bT.set k.toNat (gD H k.toNat+1)},true)else(H,false)
 |_=>(H,false)
def dx (q:Qu) (l:List Int):Qu:=l.foldl eF q
def fF (H:Ho) (s:aj):Ho×Bool:=match qB s with
 |some [k]=>if cb H k=true then({H.iG k.toNat (dx (H.iY k.toNat) (cJ H k.toNat))with batch:=H.batch.set k.toNat []},true)else(H,false)
 |_=>(H,false)
def ep:Ho->List (Ms×aj)->Ho×Bool
 |H,[]=>(H,true)
 |H,(m,t)::r=>match H.qI t with
  |none=>(H,false)
  |some i=>ep (H.eA i (dr (H.dZ i) m (-1))) r
def jf (H:Ho) (s:aj):Ho×Bool:=match dH 47 s with
 |[a,b,c]=>match fx a,wx b with
  |some k,some l=>if cb H k=true then
   (if(ep H (l.zip (dH 43 c))).2=true then({(ep H (l.zip (dH 43 c))).1 with aC:=H.aC.set k.toNat (fv H k.toNat+1)},true)else((ep H (l.zip (dH 43 c))).1,false))
   else(H,false)
  |_,_=>(H,false)
 |_=>(H,false)
def hplays (H:Ho) (s:aj):Ho×Bool:=
 if(cZ 58 s).1=bZ 110 then match tI (cZ 58 s).2.1 with
  |none=>(H,false)
  |some x=>(eS H x,decide (Gk H x=0))
 else if(cZ 58 s).1=bZ 100 then(ot H (cZ 58 s).2.1,decide (wP H (cZ 58 s).2.1=0))
 else if(cZ 58 s).1=bZ 117 then eK H (cZ 58 s).2.1
 else if(cZ 58 s).1=bZ 98 then je H (cZ 58 s).2.1
 else if(cZ 58 s).1=bZ 97 then fF H (cZ 58 s).2.1
 else if(cZ 58 s).1=bZ 114 then jf H (cZ 58 s).2.1
 else(H,false)
def tE (qs:List (aj×Qu)) (ps:List Nat):List (aj×Value):=List.zipWith (fun x p=>(x.1,Value.pointer (some ⟨p,0,none⟩))) qs ps
theorem u6:∀(qs:List (aj×Qu)) (ps:List Nat) (s:aj),ps.length=qs.length->
 gj (tE qs ps) s=(qs.findIdx? fun x=>decide (x.1=s)).bind fun i=>(ps[i]?).map fun p=>Value.pointer (some ⟨p,0,none⟩)
 |[],[],_,_=>rfl
 |x::qs,p::ps,s,h=>by
  have ih:=u6 qs ps s Ic;unfold tE at *;rw[List.zipWith_cons_cons,gj,List.findIdx?_cons];by_cases e:x.1=s
  ·simp[e]
  ·simp only[e,decide_false,if_false];rw[ih];cases List.findIdx? (fun x=>decide (x.1=s)) qs<;>simp
theorem F6:∀(qs:List (aj×Qu)) (ps:List Nat) (s:aj) (q:Qu) (p:Nat),ps.length=qs.length->(qs.findIdx? fun x=>decide (x.1=s))=none->
 iU (tE qs ps) s (Value.pointer (some ⟨p,0,none⟩))=tE (qs++[(s,q)]) (ps++[p])
 |[],[],_,_,_,_,_=>rfl
 |x::qs,p'::ps,s,q,p,h,h2=>by
  rw[List.findIdx?_cons]at h2;by_cases e:x.1=s
  ·simp[e]at h2
  ·simp only[e,decide_false,Bool.false_eq_true,if_false]at h2;have ih:=F6 qs ps s q p Ic Vg;unfold tE at *;simp only[bz,List.zipWith_cons_cons];rw[iU];simp only[e,if_false];rw[ih]
theorem yx{H:Ho}(h:jQ H=0):H.down=false/\H.used<300:=by
 unfold jQ at h;split at h
 ·cases h
 ·rename_i h1;split at h
  ·cases h
  ·exact⟨by simpa using h1,by omega⟩
theorem Cq{l:List Nm}{x:Nm}(h:cu l x≠0):eE l x=l:=by
 unfold cu at h;unfold eE;split
 ·rfl
 ·rename_i h1;rw[if_neg h1]at h;split
  ·rename_i h2;rw[if_pos h2]at h;exact absurd rfl h
  ·rename_i h2;rw[if_neg h2]at h;split
   ·rfl
   ·rename_i h3;rw[if_neg h3]at h;exact absurd rfl h
def YB (T:TypeId) (v:Value) (l:List Int):HP:=ex fun c:Option (Nat×Nat×List Value×Nat)=>match c with
 |none=>Mb (v=.slice none 0 0/\l=[])
 |some (g,off,cs,cap)=>sep (Mb (v=.slice (some ⟨g,off,none⟩) l.length cap/\∀(i:Nat) x,l[i]? =some x->cs[off+i]? =some (Value.int .i64 x))) (bA g (.cells cs.toArray T (0,0)))
section
variable {w0 w:World} {L:List HP} {T:TypeId} {v:Value} {l:List Int}
theorem Kv(h:St w0 L w):St w0 (YB T (.slice none 0 0) []::L) w:=St.GR none (St.BB ⟨rfl,rfl⟩ h)
theorem N_{g off cap:Nat}{cs:List Value}(hc:∀(i:Nat) x,l[i]? =some x->cs[off+i]? =some (Value.int .i64 x))(h:St w0 (bA g (.cells cs.toArray T (0,0))::L) w):St w0 (YB T (.slice (some ⟨g,off,none⟩) l.length cap) l::L) w:=
 St.GR (some (g,off,cs,cap)) (St.join (St.BB ⟨rfl,hc⟩ h))
theorem ra(h:St w0 (YB T v l::L) w):∃a cap,v=.slice a l.length cap:=by
 obtain⟨c,h⟩:=h.Iq
 match c,h with
 |none,h=>obtain⟨⟨rfl,rfl⟩,_⟩:=h.xP;exact⟨none,0,rfl⟩
 |some (g,off,cs,cap),h=>obtain⟨⟨rfl,_⟩,_⟩:=h.split.xP;exact⟨_,_,rfl⟩
theorem VH(h:St w0 (YB T v l::L) w):qX w 1 (fun x=>[Value.int .i64 x]) v l:=by
 obtain⟨c,h⟩:=h.Iq
 match c,h with
 |none,h=>obtain⟨⟨rfl,rfl⟩,_⟩:=h.xP;exact⟨none,0,rfl,fun i x hx=>by simp at hx⟩
 |some (g,off,cs,cap),h=>
  obtain⟨⟨hv,hc⟩,h'⟩:=h.split.xP;subst hv;refine⟨_,_,rfl,fun i x hx=>⟨_,rfl,fun j c hj=>?_⟩⟩;have hj0:j=0:=by
   rcases j with _|j
   ·rfl
   ·simp at hj
  subst hj0;simp only[List.getElem?_cons_zero,az]at hj;subst hj;have :=hc i x hx;have h2:w.cell? ⟨g,off+i,none⟩=some (.int .i64 x):=by rw[World.cell?,h'.look.2];simpa using this
  rw[Addr.add_lit,Addr.add_lit];simpa using h2
end
theorem KC.DQ{P:Program}{f:FuncId}{args:Array Value}{w0:World}{L:List HP}{R R':Value->List HP->Prop}(h:KC P f args w0 L R)(hr:∀v M,R v M->∃M',R' v M'/\∀w,St w0 M w->St w0 M' w):KC P f args w0 L R':=fun w hw=>
 (h w hw).mono fun _ _ ⟨v,M,a,b,c⟩=>by
  obtain⟨M',h1,h2⟩:=hr v M b;exact⟨v,M',a,h1,h2 _ c⟩
theorem KC.rD{α β:Type}{f:α->β->HP}{P:Program}{g:FuncId}{args:Array Value}{w0:World}{L R:List HP}{ps:List α}{xs:List β}{p:α}{x y:β}{i:Nat}{φ:Value->Prop}(hp:ps[i]? =some p)(hx:xs[i]? =some x)(pk:bB L (bI f ps xs) R)(h:∀L,KC P g args w0 (f p x::L) (fun u M=>φ u/\M=f p y::L)):
 KC P g args w0 L (fun u M=>φ u/\M=bI f ps (xs.set i y)::R):=
 KC.perm (L':=f p x::bI f (ps.eraseIdx i) (xs.eraseIdx i)::R) (fun w hw=>cM hp hx (hw.pick pk)) (KC.DQ (h _) (by
  rintro v M ⟨h1,rfl⟩
  exact⟨_,⟨h1,rfl⟩,fun w hw=>Lf hp (aw.1 hx).1 hw⟩))
theorem KE.UZ{α β:Type}{f:α->β->HP}{P:Program}{g:FuncId}{args:Array Value}{w0:World}{L R:List HP}{ps:List α}{xs:List β}{p:α}{x:β}{i:Nat}{φ:Value->Prop}(hp:ps[i]? =some p)(hx:xs[i]? =some x)(pk:bB L (bI f ps xs) R)(h:∀L,KE P g args w0 (f p x::L) (fun u M=>φ u/\M=f p x::L)):
 KE P g args w0 L (fun u M=>φ u/\M=bI f ps xs::R):=
 KE.perm (L':=f p x::bI f (ps.eraseIdx i) (xs.eraseIdx i)::R) (fun w hw=>cM hp hx (hw.pick pk)) (KE.DQ (h _) (by
  rintro v M ⟨h1,rfl⟩
  exact⟨_,⟨h1,rfl⟩,fun w hw=>fY hp hx hw⟩))
theorem KE.GQ{α β:Type}{f:α->β->HP}{P:Program}{g:FuncId}{args:Array Value}{w0:World}{L R:List HP}{ps:List α}{xs:List β}{p:α}{x:β}{i:Nat}{A:Value->HP}{φ:Value->Prop}(hp:ps[i]? =some p)(hx:xs[i]? =some x)(pk:bB L (bI f ps xs) R)(h:∀L,KE P g args w0 (f p x::L) (fun u M=>φ u/\M=A u::f p x::L)):
 KE P g args w0 L (fun u M=>φ u/\M=A u::bI f ps xs::R):=
 KE.perm (L':=f p x::bI f (ps.eraseIdx i) (xs.eraseIdx i)::R) (fun w hw=>cM hp hx (hw.pick pk)) (KE.DQ (h _) (by
  rintro v M ⟨h1,rfl⟩
  exact⟨_,⟨h1,rfl⟩,fun w hw=>(fY hp hx (hw.all (.cons (.tail .head) (.cons (.tail .head) .refl)))).lZ⟩))
section
variable {n:Nat} {H:Ho} {q:Qu} {i j:Nat}
theorem l9(h4:H.ways.length=4)(hi:i<H.aI.length):H.all[4+i]? =some (H.dZ i):=by
 unfold Ho.all Ho.dZ;rw[bp ae,h4,Nat.add_sub_cancel_left,aG,ak hi,au,ak hi];rfl
theorem pB(h4:H.ways.length=4)(hj:j<4):H.all[j]? =some (H.iY j):=by
 unfold Ho.all Ho.iY;rw[List.getElem?_append_left ae,ak ae,au,ak ae];rfl
theorem mL(h4:H.ways.length=4):H.all.length=4+H.aI.length:=by unfold Ho.all;simp[h4]
theorem iy(h4:H.ways.length=4)(i:Nat)(q:Qu):(H.eA i q).all=H.all.set (4+i) q:=by
 unfold Ho.all Ho.eA;rw[List.map_set,List.set_append_right _ _ ae,h4,Nat.add_sub_cancel_left]
theorem ko(hj:j<H.ways.length)(q:Qu):(H.iG j q).all=H.all.set j q:=by
 unfold Ho.all Ho.iG;rw[List.set_append_left _ _ hj]
theorem ia(i:Nat)(q:Qu):(H.eA i q).aI.map (·.1)=H.aI.map (·.1):=by
 unfold Ho.eA;rw[List.map_set];apply List.ext_getElem?;intro k;rw[List.getElem?_set];split
 ·rename_i e;subst e;split
  ·rename_i hk;rw[aX]at hk;rw[aG,ak hk,au,ak hk];rfl
  ·rename_i hk;rw[cc ae]
 ·rfl
theorem oC(s:aj):H.qI s=(H.aI.map (·.1)).findIdx? fun x=>decide (x=s):=by
 unfold Ho.qI;rw[List.findIdx?_map];rfl
theorem R5(i:Nat)(q:Qu)(s:aj):(H.eA i q).qI s=H.qI s:=by rw[oC,oC,ia]
theorem u7:∀(qs rs:List (aj×Qu)) (ps:List Nat),qs.map (·.1)=rs.map (·.1)->tE qs ps=tE rs ps
 |[],[],_,_=>rfl
 |a::qs,b::rs,[],_=>rfl
 |a::qs,b::rs,p::ps,h=>by
  simp only[aJ,List.cons.injEq]at h;have ih:=u7 qs rs ps h.2;unfold tE at *;rw[List.zipWith_cons_cons,List.zipWith_cons_cons,ih,h.1]
 |[],b::rs,_,h=>by simp at h
 |a::qs,[],_,h=>by simp at h
theorem zk(i:Nat)(q:Qu):(H.eA i q).aI.length=H.aI.length:=by simp[Ho.eA]
theorem cx.le{k:Nat}(h:cx n H)(hk:n<=k):cx k H:=⟨h.id,h.used,h.next,h.sorted,h.fT,Nat.le_trans h.oV hk,fun q hq=>(h.qs q hq).le hk,h.nodup,h.ways,h.ay,h.batch,h.bT,h.aC,h.right,h.loc,h.ext.le hk⟩
theorem cx.eA(h:cx n H)(hq:QB n q)(i:Nat):cx n (H.eA i q):=by
 refine⟨h.id,h.used,h.next,h.sorted,h.fT,by rw[zk];exact h.oV,fun q' Ek=>?_,by rw[ia];exact h.nodup,h.ways,h.ay,h.batch,h.bT,h.aC,h.right,fun x hx ht=>by(rw[R5];exact h.loc x hx ht),h.ext⟩;rw[iy h.ways]at Ek;rcases aD Ek with h1|rfl
 ·exact h.qs _ h1
 ·exact hq
theorem cx.iG(h:cx n H)(hq:QB n q)(hj:j<4):cx n (H.iG j q):=by
 refine⟨h.id,h.used,h.next,h.sorted,h.fT,h.oV,fun q' Ek=>?_,h.nodup,by simp[Ho.iG,h.ways],h.ay,h.batch,h.bT,h.aC,h.right,h.loc,h.ext⟩;rw[ko (by rw[h.ways];exact hj)]at Ek;rcases aD Ek with h1|rfl
 ·exact h.qs _ h1
 ·exact hq
theorem cx.qa(h:cx n H)(hi:i<H.aI.length):QB n (H.dZ i):=h.qs _ (ax (l9 h.ways hi))
theorem cx.w(h:cx n H)(hj:j<4):QB n (H.iY j):=h.qs _ (ax (pB h.ways hj))
theorem cx.BD(h:cx n H){k:Int}(hk:0<=k/\k<=274877906945):cx n {H with next:=k}:=⟨h.id,h.used,hk,h.sorted,h.fT,h.oV,h.qs,h.nodup,h.ways,h.ay,h.batch,h.bT,h.aC,h.right,h.loc,h.ext⟩
theorem fC{s:aj}(h:H.qI s=some i):i<H.aI.length/\(H.aI.getD i (⟨#[]⟩,default)).1=s:=by
 unfold Ho.qI at h;obtain⟨h1,h2,_⟩:=List.findIdx?_eq_some_iff_getElem.1 h;refine⟨h1,?_⟩;rw[au,ak h1];simpa using h2
theorem vT{l:List Nm}{x y:Nm}(h:y∈eE l x):(y=x/\cu l x=0)\/y∈l:=by
 by_cases h0:cu l x=0
 ·unfold eE at h;split at h
  ·exact .inr h
  ·split at h
   ·rcases aD h with h|h
    ·exact .inr h
    ·exact .inl ⟨h,h0⟩
   ·split at h
    ·exact .inr h
    ·rcases aO.1 h with h|h
     ·exact .inr (List.mem_of_mem_take h)
     ·rcases aK.1 h with h|h
      ·exact .inl ⟨h,h0⟩
      ·exact .inr (List.mem_of_mem_drop h)
 ·rw[Cq h0]at h;exact .inr h
theorem mo{l:List Nm}{x:Nm}(h:cu l x=0):bK x=true:=by
 cases hr:bK x with
 |true=>rfl
 |false=>unfold cu at h;rw[if_pos hr]at h;cases h
theorem uF{l:List Nm}(h:dF l)(x:Nm):dF (eE l x):=((⟨h,.refl _⟩:iX l l).set x).sorted
theorem BN{l:List Nm}(h:dF l)(s:aj):dF (kh l s):=((⟨h,.refl _⟩:iX l l).drop s).sorted
theorem KH{s t:aj}{q:Qu}{i:Nat}(h:H.qI t=some i):({H with aI:=H.aI++[(s,q)]}:Ho).qI t=some i:=by
 unfold Ho.qI at *;rw[List.findIdx?_append,h];rfl
theorem VN{s:aj}{q:Qu}(h:H.qI s=none):({H with aI:=H.aI++[(s,q)]}:Ho).qI s=some H.aI.length:=by
 unfold Ho.qI at *;rw[List.findIdx?_append,h];simp
theorem cx.set(h:cx n H)(x:Nm):cx (n+1) (eS H x):=by
 unfold eS;split
 ·rename_i h0;have hl:(eE H.names x).length<=20:=Nat.le_trans (LP _ _) (by have :=h.fT;omega);have hr:∀y∈eE H.names x,bK y=true:=fun y hy=>by
   rcases vT hy with⟨rfl,-⟩|hy
   ·exact mo h0
   ·exact h.right y hy
  by_cases hc:x.gK=⟨#[]⟩/\H.qI x.name=none
  ·rw[if_pos hc];refine⟨h.id,h.used,h.next,uF h.sorted x,hl,by have :=h.oV;simp;omega,fun q hq=>?_,?_,h.ways,h.ay,h.batch,h.bT,h.aC,hr,fun y hy ht=>?_,h.ext.le (Nat.le_succ n)⟩
   ·simp only[Ho.all,aZ,aO]at hq;rcases hq with hq|hq|hq
    ·exact(h.qs q (by simp[hq])).le (Nat.le_succ n)
    ·exact(h.qs q (by unfold Ho.all;exact aO.2 (.inr hq))).le (Nat.le_succ n)
    ·simp at hq;subst hq;exact QB.nil
   ·rw[aZ,List.nodup_append];refine⟨h.nodup,by simp,fun a ha b hb=>?_⟩;simp at hb;subst hb;rintro rfl;have h2:=hc.2;rw[oC,List.findIdx?_eq_none_iff]at h2;simpa using h2 _ ha
   ·rcases vT hy with⟨rfl,-⟩|hy
    ·exact⟨_,VN hc.2⟩
    ·obtain⟨i,hi⟩:=h.loc y hy ht;exact⟨i,KH hi⟩
  ·rw[if_neg hc];refine⟨h.id,h.used,h.next,uF h.sorted x,hl,Nat.le_succ_of_le h.oV,fun q hq=>(h.qs q hq).le (Nat.le_succ n),h.nodup,h.ways,h.ay,h.batch,h.bT,h.aC,hr,fun y hy ht=>?_,h.ext.le (Nat.le_succ n)⟩;rcases vT hy with⟨rfl,-⟩|hy
   ·cases hq:H.qI y.name with
    |none=>exact absurd ⟨ht,hq⟩ hc
    |some i=>exact⟨i,hq⟩
   ·exact h.loc y hy ht
 ·exact h.le (Nat.le_succ n)
theorem cx.drop(h:cx n H)(s:aj):cx n (ot H s):=by
 have hs:∀y∈kh H.names s,y∈H.names:=fun y hy=>by
  unfold kh at hy;split at hy
  ·exact(List.eraseIdx_sublist _ _).subset hy
  ·exact hy
 exact⟨h.id,h.used,h.next,BN h.sorted s,Nat.le_trans (Jz _ _) h.fT,h.oV,h.qs,h.nodup,h.ways,h.ay,h.batch,h.bT,h.aC,fun y hy=>h.right y (hs y hy),fun y hy=>h.loc y (hs y hy),h.ext⟩
theorem cx.R6(h:cx n H){m:Ms}{H1:Ho}(hm:bD m=true)(hp:gG H m=some H1):cx (n+1) H1:=by
 obtain⟨m1,m2,m3,m4,-,-,m7,m8⟩:=bG hm;have hx:=h.next
 have h1:cx n {H with next:=max H.next (m.id/4+1)}:=h.BD ⟨by omega,by omega⟩;unfold gG at hp;dsimp only at hp;split at hp
 ·simp only[az]at hp;subst hp;exact(h1.le (Nat.le_succ n)).iG ((h.w ae).oD ⟨m3,m4⟩ ⟨m1,m2⟩ (-1)) ae
 ·split at hp
  ·cases hp
  ·rename_i i hi;simp only[az]at hp;subst hp;exact(h1.le (Nat.le_succ n)).eA ((h.qa (fC hi).1).oD ⟨m3,m4⟩ ⟨m1,m2⟩ (-1)) i
theorem cx.aT(l:List Ms):∀{n:Nat} {H:Ho},cx n H->(∀m∈l,bD m=true)->cx (n+l.length) (fW H l).1:=by
 induction l with
 |nil=>exact fun h _=>h
 |cons m l ih=>
  intro n H h hl;unfold fW;cases hp:gG H m with
  |none=>
   obtain⟨m1,m2,_⟩:=bG (hl m ai);have hx:=h.next
   exact(h.BD ⟨by omega,by omega⟩).le ai
  |some H1=>
   have :=ih (h.R6 (hl m ai) hp) fun m hm=>hl m (by simp[hm])
   exact this.le ez
theorem cx.W5(h:cx n H){s:aj}{H1:Ho}(hp:gV H s=some H1):cx n H1:=by
 unfold gV at hp;split at hp
 ·cases hp
 ·split at hp
  ·cases hp
  ·rename_i k i hi;split at hp
   ·simp only[az]at hp;subst hp;exact h.eA ((h.qa (fC hi).1).take _) i
   ·cases hp
theorem cx.aY(l:List aj):∀{H:Ho},cx n H->cx n (gH H l).1:=by
 induction l with
 |nil=>exact fun h=>h
 |cons s l ih=>
  intro H h;unfold gH;cases hp:gV H s with
  |none=>exact h
  |some H1=>exact ih (h.W5 hp)
theorem cx.ends{s:aj}(h:cx n H)(hr:∀l,wx (cZ 47 s).1=some l->∀m∈l,bD m=true){k:Nat}(hk:∀l,wx (cZ 47 s).1=some l->n+l.length<=k)(Aj:n<=k):cx k (eK H s).1:=by
 unfold eK;split
 ·exact h.le Aj
 ·split
  ·exact h.le Aj
  ·rename_i l hl;have h1:=(h.aT l (hr l hl)).le (hk l hl);split
   ·exact h1
   ·split
    ·exact h1
    ·exact h1.aY _
theorem cx.log{D:Dk}(h:cx n H):cx n (eC H D):=by
 unfold eC;split
 ·exact h
 ·rename_i h0;have h0:jQ H=0:=by simpa using h0
  split
  ·exact⟨h.id,h.used,h.next,h.sorted,h.fT,h.oV,h.qs,h.nodup,h.ways,h.ay,h.batch,h.bT,h.aC,h.right,h.loc,h.ext⟩
  ·exact⟨h.id,(yx h0).2,h.next,h.sorted,h.fT,h.oV,h.qs,h.nodup,h.ways,h.ay,h.batch,h.bT,h.aC,h.right,h.loc,h.ext⟩
def nZ (H:Ho) (D:Dk) (s:aj):Ho:=if ec H D=0 then(hplays (eC H D) s).1 else eC H D
theorem b_{k:Int}:cb H k=true↔0<=k/\k<4/\k≠H.id:=by unfold cb;simp
theorem pb{l:List Int}{k:Nat}{n:Nat}(h:∀x∈l,0<=x/\x<=(n:Int)):0<=l.getD k 0/\l.getD k 0<=(n:Int):=by
 rw[au];cases hk:l[k]? with
 |none=>exact⟨Int.le_refl 0,by show(0:Int)<=n;omega⟩
 |some x=>exact h x (ax hk)
theorem F4{α β:Type}{f:α->Option β}:∀{l:List α} {r:List β},l.mapM f=some r->r.length=l.length
 |[],r,h=>by cases h;rfl
 |a::l,r,h=>by
  rw[List.mapM_cons]at h;cases ha:f a with
  |none=>rw[ha]at h;cases h
  |some b=>
   rw[ha]at h;cases hl:l.mapM f with
   |none=>rw[hl]at h;cases h
   |some r'=>rw[hl]at h;cases h;simp[F4 hl]
theorem Mw{s:aj}{l:List Int}(h:qB s=some l):l.length<=s.size+1:=by
 have :=F4 h;have :=tz 32 s;omega
theorem cx.made(h:cx n H)(s:aj)(hs:s.size<=90000):cx (n+1) (je H s).1:=by
 unfold je;split
 ·rename_i k a r hi;split
  ·have h2:=h.le (Nat.le_succ n);refine⟨h2.id,h2.used,h2.next,h2.sorted,h2.fT,h2.oV,h2.qs,h2.nodup,h2.ways,h2.ay,by simp[h.batch],by simp[h.bT],h2.aC,h2.right,h2.loc,⟨fun l hl=>?_,fun x hx=>?_,h2.ext.arr⟩⟩
   ·rcases aD hl with h3|rfl
    ·exact h.ext.Xo l h3
    ·have :=Mw hi;simp at this ⊢;omega
   ·rcases aD hx with h3|rfl
    ·exact h2.ext.VC x h3
    ·have :=pb (k:=k.toNat) h.ext.VC;unfold gD;push_cast;omega
  ·exact h.le (Nat.le_succ n)
 ·exact h.le (Nat.le_succ n)
theorem QB.uE{q:Qu}(h:QB n q)(l:List Int):QB n (dx q l):=by
 unfold dx
 induction l generalizing q with
 |nil=>exact h
 |cons a l ih=>exact ih (h.take a)
theorem cx.known(h:cx n H)(s:aj):cx n (fF H s).1:=by
 unfold fF;split
 ·rename_i k _;split
  ·rename_i h1;have h2:=b_.1 h1;have qC:k.toNat<4:=by omega
   have h3:=h.iG ((h.w (j:=k.toNat) qC).uE (cJ H k.toNat)) qC
   exact⟨h3.id,h3.used,h3.next,h3.sorted,h3.fT,h3.oV,h3.qs,h3.nodup,h3.ways,h3.ay,by simp[h.batch],h3.bT,h3.aC,h3.right,h3.loc,⟨fun l hl=>by
    rcases aD hl with h4|rfl
    ·exact h.ext.Xo l h4
    ·simp,h3.ext.VC,h3.ext.arr⟩⟩
  ·exact h
 ·exact h
theorem cx.comes:∀(l:List (Ms×aj)) {n:Nat} {H:Ho},cx n H->(∀x∈l,(0<=x.1.pri/\x.1.pri<=9)/\0<=x.1.id/\x.1.id<=1099511627776)->cx (n+l.length) (ep H l).1
 |[],_,_,h,_=>h
 |(m,t)::l,n,H,h,hp=>by
  unfold ep;split
  ·exact h.le ae
  ·rename_i i hi;have h1:=(h.le (Nat.le_succ n)).eA ((h.qa (fC hi).1).oD (hp (m,t) ai).1 (hp (m,t) ai).2 (-1)) i;exact(cx.comes l h1 fun x hx=>hp x vP).le ez
theorem cx.M4(h:cx n H)(s:aj){k:Nat}(NF:1<=k)(hk:∀l,(∃a b c,dH 47 s=[a,b,c]/\wx b=some l)->l.length<=k):cx (n+k) (jf H s).1:=by
 unfold jf;split
 ·rename_i a b c e;split
  ·rename_i kk l _ hl;have h1:=hk l ⟨a,b,c,e,hl⟩;have hr:=eV (rr hl).1
   have h2:=(cx.comes (l.zip (dH 43 c)) h fun x hx=>by
    have :=bG (hr x.1 (List.of_mem_zip hx).1)
    exact⟨⟨this.2.2.1,this.2.2.2.1⟩,this.1,this.2.1⟩).le (k:=n+k) (by rw[List.length_zip];omega)
   split
   ·split
    ·exact⟨h2.id,h2.used,h2.next,h2.sorted,h2.fT,h2.oV,h2.qs,h2.nodup,h2.ways,h2.ay,h2.batch,h2.bT,by simp[h.aC],h2.right,h2.loc,⟨h2.ext.Xo,h2.ext.VC,fun x hx=>by
      rcases aD hx with h3|rfl
      ·have :=h.ext.arr x h3;omega
      ·have :=pb (k:=kk.toNat) h.ext.arr
       unfold fv;omega⟩⟩
    ·exact h2
   ·exact h.le ae
  ·exact h.le ae
 ·exact h.le ae
structure fp (n:Nat) (s:aj):Prop where
 size:s.size<=80000
 many:(cZ 58 s).1=bZ 117->∀l,wx (cZ 47 (cZ 58 s).2.1).1=some l->l.length<=n
 Ts:(cZ 58 s).1=bZ 114->∀a b c l,dH 47 (cZ 58 s).2.1=[a,b,c]->wx b=some l->l.length<=n/\l.length<=(dH 43 c).length
theorem px(c:UInt8)(s:aj):(cZ c s).1.size<=s.size/\(cZ c s).2.1.size<=s.size:=by
 unfold cZ Lib.cut;split
 ·simp only[toB,km];constructor<;>simp <;>omega
 ·simp only[toB,km];constructor<;>simp
theorem cx.KK{k:Nat}{s:aj}(h:cx n H)(hr:fp k s)(hk:1<=k):cx (n+k) (hplays H s).1:=by
 have hc:=(px 58 s).2;have hs:=hr.size;unfold hplays;split
 ·split
  ·exact h.le ae
  ·exact(h.set _).le ae
 ·split
  ·exact(h.drop _).le ae
  ·split
   ·rename_i h3;exact h.ends (fun l hl=>eV (rr hl).1) (fun l hl=>by have :=hr.many h3 l hl;omega) ae
   ·split
    ·exact(h.made _ ae).le ae
    ·split
     ·exact(h.known _).le ae
     ·split
      ·rename_i h6;exact h.M4 _ hk fun l hl=>by
        obtain⟨a,b,c,h7,h8⟩:=hl;exact(hr.Ts h6 a b c l h7 h8).1
      ·exact h.le ae
end
theorem ID{l:List Nm}{x:Nm}(hr:bK x=true)(hs:∀y∈l,fy y.name x.name<0)(hl:l.length<20):eE l x=l++[x]/\cu l x=0:=by
 have hk:bE l x.name=l.length:=by
  unfold bE;rw[show(l.takeWhile fun y=>decide (fy y.name x.name<0))=l from ?_];clear hl
  induction l with
  |nil=>rfl
  |cons a l ih=>
   rw[List.takeWhile_cons,if_pos (by simpa using hs a ai),ih fun y hy=>hs y (by simp[hy])]
 have hh:fc l x.name (bE l x.name)=false:=by unfold fc;rw[hk];simp
 constructor
 ·unfold eE;rw[if_neg (by simp[hr]),if_neg (by simp[hh]),if_neg ae,hk,List.take_length,List.drop_length]
 ·unfold cu;rw[if_neg (by simp[hr]),if_neg (by simp[hh]),if_neg ae]
theorem N7{l:List Nm}(hs:dF l)(hr:∀y∈l,bK y=true)(hl:l.length<=20){k:Nat}{y:Nm}(hy:l[k]? =some y):eE (l.take k) y=l.take (k+1):=by
 obtain⟨hk,rfl⟩:=aw.1 hy;rw[(ID (hr _ (List.getElem_mem hk)) (fun z hz=>?_) ez).1,a_ hy];obtain⟨j,hj,rfl⟩:=List.getElem_of_mem hz;rw[bu]at hj;rw[List.getElem_take];exact List.pairwise_iff_getElem.1 hs j k ae hk ae
theorem hP{s:aj}(h:cH s=true):1<=s.size/\s.size<=8:=by
 unfold cH dc at h;simp at h;exact⟨h.1,h.2.1⟩
theorem gu{x:Nm}(h:bK x=true):cH x.name=true/\(cH x.gK=true\/x.gK=⟨#[]⟩)/\ -1<=x.bF/\x.bF<=3:=by
 unfold bK at h;simp only[bm,Bool.or_eq_true,decide_eq_true_eq]at h;refine⟨h.1,?_,h.2.1,h.2.2.1⟩;rcases h.2.2.2 with h1|h1
 ·exact .inl h1
 ·have :=h1.1;rw[jI]at this;exact .inr (of_decide_eq_true this)
theorem uM{x:Nm}(h:bK x=true):x.name.size<=8/\x.gK.size<=8:=by
 obtain⟨h1,h2,_⟩:=gu h;refine⟨(hP h1).2,?_⟩;rcases h2 with h2|h2
 ·exact(hP h2).2
 ·rw[h2];decide
def ki (s:aj):aj:=if s=⟨#[]⟩then bZ 45 else s
def jY (x:Nm):aj:=⟨#[110,58]⟩++x.name++⟨#[32]⟩++ki x.gK++⟨#[32]⟩++ck x.bF
def cr:aj:=⟨#[100,101,97,100]⟩
theorem F0(x:Nm):jY x=bZ 110++bZ 58++(x.name++bZ 32++(ki x.gK++bZ 32++ck x.bF)):=by
 unfold jY;rw[show(⟨#[110,58]⟩:aj)=bZ 110++bZ 58 by decide];rw[show(⟨#[32]⟩:aj)=bZ 32 from rfl];simp only[ByteArray.append_assoc]
theorem d_{c d:UInt8}(h:d≠c):p7 c (bZ d):=fun b hb=>by
 simp[bZ]at hb;subst hb;exact h
theorem tQ(x:Nm):cZ 58 (jY x)=(bZ 110,x.name++bZ 32++(ki x.gK++bZ 32++ck x.bF),true):=by
 rw[F0,cutB_hit (d_ ah)]
theorem zE{x:Nm}(h:bK x=true):fp 1 (jY x):=by
 obtain⟨h1,h2⟩:=uM h;obtain⟨_,_,h5,h6⟩:=gu h;have h3:=cL (n:=x.bF) ⟨by omega,by omega⟩;have h4:(ki x.gK).size<=8:=by
  unfold ki;split
  ·decide
  ·omega
 have e1:(⟨#[110,58]⟩:aj).size=2:=rfl;have e2:(⟨#[32]⟩:aj).size=1:=rfl;refine⟨?_,fun hk=>?_,fun hk=>?_⟩
 ·unfold jY;simp only[aV];omega
 ·rw[tQ]at hk;exact absurd (show bZ 110=bZ 117 from hk) ah
 ·rw[tQ]at hk;exact absurd (show bZ 110=bZ 114 from hk) ah
def fh (H:Ho) (x:Nm):Int:=if cu H.names x≠0 then cu H.names x else if x.name=cr then 5 else 0
def jG (H:Ho) (D:Dk) (x:Nm):Int:=if fh H x≠0 then fh H x else ec H D
def jF (H:Ho) (D:Dk) (x:Nm):Ho:=if fh H x≠0 then H else nZ H D (jY x)
def jZ (H:Ho) (D:Dk) (x:Nm):Dk:=if fh H x≠0 then D else gg H D (jY x)
end WB
