import Derived.Great.BuildSlice
import Derived.WideLaws
import Derived.Stop.Asserts
import Derived.Lib.ItoaLen
import Derived.Lib.Join
import Derived.ProofKit
import Derived.OpenShut
import Derived.Deep.DeepHandedRow
import Derived.Deep.Slices
import Derived.Lay
import Derived.LaidHandle
import Derived.Lib.LaidTab
import Derived.Lib.AppendIntMem
import Derived.RangeFuncRecord
import Derived.RangeFuncCalls
import Derived.RangeFuncBound
import Derived.OrdersIn
import Derived.Lib.SplitLaws
import Derived.Lib.AtoiAll
import Derived.Lib.IndexLaws
import Derived.Lib.IndexBytes
import Derived.Lib.ItoaMem
import Derived.Laws.Strings3
import Derived.Laws.Slices
import Derived.Test.YtjhogocabcdjbabGreatDoorShelf
import Derived.Lib.AtoiErrMem
import Derived.Test.YtjhogocabcdjbabGreatDoorB0
set_option linter.unusedSimpArgs false
set_option linter.unusedVariables false
set_option maxRecDepth 100000
set_option maxHeartbeats 8000000
namespace Go.Proofs.YtjhogocabcdjbabGreatDoor
open Tryz
open Go Go.RowKit WB
theorem Ep(w w0:World)(L:List HP)(g n k:Nat)(cap:Nat)(xs vs:List Value)(bv:Nat)(h:St w0 (ke 243 8 (.slice (some ⟨g,0,none⟩) n cap) n xs::bI bv (.cells vs.toArray 243 (0,0))::L) w)(hv:vs.length=8)(h1:∀u∈vs,u.oneCell'=true)(wY:∀u∈xs,u.oneCell'=true)(hn:n<1000000)(hk:k<n)(lD:cap<n+1):
 Calls prog 246 #[.slice (some ⟨g,0,none⟩) n cap,.int .i64 k,.slice (some ⟨bv,0,none⟩) 1 1] w fun e w'=> ∃v',e=.returned v'/\St w0 (ke 243 8 v' (n+1) (xs.take (k *8)++vs++xs.drop (k *8))::L) w':=by
 obtain⟨i0,hi,wW,mM,wV⟩:=info_parts tX;rcases h.cH with⟨hc,_⟩|⟨g',nz,cur,hc,vf,vq,kJ,fe,rZ,hblk⟩
 ·simp at hc
 ·simp only[Value.slice.injEq,az,Addr.mk.injEq,and_true,true_and]at hc;obtain⟨rfl,rfl⟩:=hc;have UM:cap=n:=by omega
  have gh:((k:Int)==(n:Int))=false:=by simp;omega
  have qg:cur.toList.length=cap *8:=by simpa using kJ
  have Qj:(xs.take (k *8)).length=k *8:=by rw[bA,rZ];omega
  have h_:∀(j:Nat) (u:Value),xs[j]? =some u->cur[j]? =some u:=fun j u hj=>by
   rw[<-fe,List.getElem?_take]at hj;split at hj
   ·simpa using hj
   ·simp at hj
  have hr:=mV (P:=prog) w 120 3 120 243 i0 _ .i64 .i64 underlying120 underlying3 hi wW ⟨g,0,none⟩ k cap (xs.take (k *8)) (by rw[Qj,mM])
   (hblk.eJ fun j u hj=>by
    rw[List.getElem?_take]at hj;split at hj
    ·rw[Nat.zero_add];exact h_ j u hj
    ·simp at hj) (n+1-k) ae (by rw[mM];omega) ae ae (by rw[wV];exact growslice_fits ae ae) (by rw[wV];omega)
  have Da:=grownCap_ge w (k+(n+1-k)) cap 243;have hle:=grownCap_le_maxLen w (k+(n+1-k)) cap 243 R_;have mN:=hblk.drew.alloc (.cells ((xs.take (k *8)).toArray++Builtin.zeroCells (Value.agg #[.int .i64 0,.int .i64 0,.string ⟨#[]⟩,.string ⟨#[]⟩,.int .i64 0,.int .i64 0,.int .i64 0,.int .i64 0]).cells (n+1-k)++Builtin.zeroCells (Value.agg #[.int .i64 0,.int .i64 0,.string ⟨#[]⟩,.string ⟨#[]⟩,.int .i64 0,.int .i64 0,.int .i64 0,.int .i64 0]).cells (grownCap w (k+(n+1-k)) cap 243-(k+(n+1-k)))) 243);have J6:∀q,(Builtin.zeroCells (Value.agg #[.int .i64 0,.int .i64 0,.string ⟨#[]⟩,.string ⟨#[]⟩,.int .i64 0,.int .i64 0,.int .i64 0,.int .i64 0]).cells q).size=q *8:=fun q=>by rw[size_zeroCells];rfl
  generalize hW:w.drew.alloc (.cells ((xs.take (k *8)).toArray++Builtin.zeroCells (Value.agg #[.int .i64 0,.int .i64 0,.string ⟨#[]⟩,.string ⟨#[]⟩,.int .i64 0,.int .i64 0,.int .i64 0,.int .i64 0]).cells (n+1-k)++Builtin.zeroCells (Value.agg #[.int .i64 0,.int .i64 0,.string ⟨#[]⟩,.string ⟨#[]⟩,.int .i64 0,.int .i64 0,.int .i64 0,.int .i64 0]).cells (grownCap w (k+(n+1-k)) cap 243-(k+(n+1-k)))) 243)=W at hr mN;clear hW;generalize hcp:grownCap w (k+(n+1-k)) cap 243=cp at hr mN Da hle;clear hcp;have e1:k+(n+1-k)=n+1:=by omega
  rw[e1]at hr Da;generalize hB:w.heap.size=B at hr;have YS:w.drew.heap.size=B:=hB;rw[YS]at mN;clear hB YS;generalize hZ:Builtin.zeroCells (Value.agg #[.int .i64 0,.int .i64 0,.string ⟨#[]⟩,.string ⟨#[]⟩,.int .i64 0,.int .i64 0,.int .i64 0,.int .i64 0]).cells (n+1-k)++Builtin.zeroCells (Value.agg #[.int .i64 0,.int .i64 0,.string ⟨#[]⟩,.string ⟨#[]⟩,.int .i64 0,.int .i64 0,.int .i64 0,.int .i64 0]).cells (cp-(k+(n+1-k)))=Z at mN;have YE:Z.toList.length=(cp-k)*8:=by
   rw[<-hZ];simp only[Array.length_toList,Array.size_append,J6];omega
  have Ko:((xs.take (k *8)).toArray++Builtin.zeroCells (Value.agg #[.int .i64 0,.int .i64 0,.string ⟨#[]⟩,.string ⟨#[]⟩,.int .i64 0,.int .i64 0,.int .i64 0,.int .i64 0]).cells (n+1-k)++Builtin.zeroCells (Value.agg #[.int .i64 0,.int .i64 0,.string ⟨#[]⟩,.string ⟨#[]⟩,.int .i64 0,.int .i64 0,.int .i64 0,.int .i64 0]).cells (cp-(k+(n+1-k))))=(xs.take (k *8)++Z.toList).toArray:=by
   rw[<-hZ];apply Array.ext';simp
  rw[Ko]at mN;clear Ko hZ J6;have Up:=mN;generalize Ko:xs.take (k *8)++Z.toList=C0 at mN;have GX:C0.length=cp *8:=by rw[<-Ko,aX,Qj,YE];omega
  have yD:Nat.min 1 (n+1-k)=1:=Nat.min_eq_left ae;have Bc:St w0 (bI bv (.cells vs.toArray 243 (0,0))::bI B (.cells C0.toArray 243 (0,0))::bI g (.cells cur 243 (0,0))::L) W:=mN.pick (.tail (.tail .head));have uf:=eQ (P:=prog) W 120 120 3 243 i0 B (k *8) (n+1-k) (cp-k) ⟨bv,0,none⟩ 1 1 C0.toArray 243 vs underlying120 hi mN.look.2
   (by rw[hv,mM,yD,Nat.one_mul]) (Bc.eJ fun j u hj=>by simpa using hj) (by rw[hv];simp[GX];omega) h1
  have sH:=mN.setRow (c':=(C0.take (k *8)++vs++C0.drop (k *8+vs.length)).toArray);rw[yD]at uf;generalize Cu:C0.take (k *8)++vs++C0.drop (k *8+vs.length)=C1 at uf sH;have ry:C1.length=cp *8:=by rw[<-Cu];simp only[aX,bA,bu,GX,hv];omega
  generalize QX:W.setRow B C1.toArray=W1 at uf sH;clear QX;have r0:(xs.drop (k *8)).length=(n-k)*8:=by rw[bu,rZ];omega
  have ng:Nat.min (n-k) (n-k)=n-k:=Nat.min_self _;have qP:St w0 (bI g (.cells cur 243 (0,0))::bI B (.cells C1.toArray 243 (0,0))::bI bv (.cells vs.toArray 243 (0,0))::L) W1.drew:=(sH.pick (.tail .head)).drew;have lg:=eQ (P:=prog) W1.drew 120 120 3 243 i0 B ((k+1)*8) (n-k) (cp-(k+1)) ⟨g,k *8,none⟩ (n-k) (cap-k) C1.toArray 243 (xs.drop (k *8)) underlying120 hi sH.drew.look.2
   (by rw[r0,mM,ng]) (qP.eJ fun j u hj=>by rw[List.getElem?_drop]at hj;exact h_ _ u hj) (by rw[r0];simp[ry];omega) (fun u hu=>wY u (List.mem_of_mem_drop hu))
  have oR:=sH.drew.setRow (c':=(C1.take ((k+1)*8)++xs.drop (k *8)++C1.drop ((k+1)*8+(xs.drop (k *8)).length)).toArray);rw[ng]at lg;have iM:((C1.take ((k+1)*8)++xs.drop (k *8)++C1.drop ((k+1)*8+(xs.drop (k *8)).length)).toArray).toList.take ((n+1)*8)=xs.take (k *8)++vs++xs.drop (k *8):=by
   have :=vx (xs.take (k *8)) Z.toList vs (xs.drop (k *8)) (k *8) 8 ((n-k)*8) Qj hv r0;simp only[Ko]at this;rw[hv]at Cu;rw[Cu]at this;rw[r0,show(k+1)*8=k *8+8 by omega,show(n+1)*8=k *8+8+(n-k)*8 by omega];exact this
  have pD:(C1.take ((k+1)*8)++xs.drop (k *8)++C1.drop ((k+1)*8+(xs.drop (k *8)).length)).length=cp *8:=by
   simp only[aX,bA,bu,ry,rZ];omega
  generalize C1.take ((k+1)*8)++xs.drop (k *8)++C1.drop ((k+1)*8+(xs.drop (k *8)).length)=C2 at lg oR iM pD;have t_:=oR.kx (n:=n+1) (size:=8) (cap:=cp) Da hle (by simpa using pD) iM;have e9:((n+1-k:Nat):Int)=(n:Int)+1-k:=by omega
  rw[e9]at hr;clear e9;have HR:=Lib.hid hr;have Wn:=Lib.hid uf;have Wm:=Lib.hid lg;have HO:=Lib.hid t_;have acO:cp<9223372036854775808:=by unfold maxLen at hle;omega
  clear h hblk vq hi wW mM wV kJ fe rZ wY h1 hv uf lg t_ mN Up sH oR iM pD Ko GX Cu ry hr qP Bc r0 Qj qg h_ YE yD ng hle e1 UM
  go_enter func246,ntmps246
  go_wp2_with (first|(at_builtin;refine Lib.wpList_append_run _ rfl _ _ _ _ rfl _ _ rfl rfl _ _ HR.out ?_)|(refine r7 rfl _ _ _ _ rfl (.slice (some ⟨B,k *8,none⟩) (n+1-k) (cp-k)) (.slice (some ⟨bv,0,none⟩) 1 1) rfl rfl Wn.out ?_;intro K hK;go_simp))
  refine eu [.pure,.pure,.pure,.pure,.pure,.pure,.pure,.pure,.write] [0,1,2,3,4,5,6,7,8] bC bC ?_;simp only[aJ,List.map_nil,item,List.getD_cons_zero,List.getD_cons_succ]
  repeat((with_reducible refine fh (v:=?_) (a':=?_) ?_ ?_ ?_ ?_);rotate_left 2;(rfl);((intro w';go_simp;(try(go_bits;(try go_simp);(try(go_bits;(try go_simp)))));(repeat(first|rewrite [if_pos ae]|rewrite [if_neg ae])))<;>rfl);(go_simp;rfl))
  refine kN (a':=?_) (v:=?_) (w':=?_) rfl ?_ ?_ ?_
  rotate_left 3
  ·rw[lH _ _ _ _ rfl (.slice (some ⟨B,(k+1)*8,none⟩) (n-k) (cp-(k+1))) (.slice (some ⟨g,k *8,none⟩) (n-k) (cap-k)) rfl rfl Wm.out]
  ·go_simp;rfl
  refine nN ?_
  go_wp2_with fail
  go_ret
  exact⟨_,rfl,HO.out.pick (.tail .head) |>.drop.pick (.tail .head) |>.drop⟩
end Go.Proofs.YtjhogocabcdjbabGreatDoor
namespace WB
open Go Go.RowKit
section
variable {P:Program} {ops:Array Oper} {d:Bool} {Q:Exit->Act->World->Prop} {n:Nat} {D:List Deferred} {w0:World} {G:Env} {L R N:List HP} {l:List (Kd×Oper)} {k:Kd}
 {t:Nat} {op:Op} {ty T T' E:TypeId} {pos:String} {af:Array Edge} {x y z:Operand} {v u:Value} {i j:Nat} {a c r:Int} {α:Type} {cf:α->List Value} {sz:Nat} {xs ys:List α} {e:α}
theorem KO.wv(hk:(!d||k== .write)=true)(hr:∀a w,cE n D G a->St w0 L w->∃w',(execOp a.eval ⟨some t,op,ty,pos,af,none⟩).run P w=.ok (.value v) w'/\St w0 N w')(ht:Nat.blt t n=true)(h:KO P ops d Q n D w0 ((t,v)::G) N l):KO P ops d Q n D w0 G L ((k,⟨some t,op,ty,pos,af,none⟩)::l):=fun a w ha hw=>by
 obtain⟨w',hr,hs⟩:=hr a w ha hw;refine k9 hk rfl ?_;unfold Oper.wp;rw[hr];exact h _ w' (gX ha _ ht) hs
theorem KO.wn(hk:(!d||k== .write)=true)(hr:∀a w,cE n D G a->St w0 L w->∃w' u,(execOp a.eval ⟨none,op,ty,pos,af,none⟩).run P w=.ok (.value u) w'/\St w0 N w')(h:KO P ops d Q n D w0 G N l):KO P ops d Q n D w0 G L ((k,⟨none,op,ty,pos,af,none⟩)::l):=fun a w ha hw=>by
 obtain⟨w',u,hr,hs⟩:=hr a w ha hw;refine k9 hk rfl ?_;unfold Oper.wp;rw[hr];exact h _ w' ha hs
theorem KO.wvE(hk:(!d||k== .write)=true){F:Value->List HP}(hr:∀a w,cE n D G a->St w0 L w->∃v w',(execOp a.eval ⟨some t,op,ty,pos,af,none⟩).run P w=.ok (.value v) w'/\St w0 (F v) w')(ht:Nat.blt t n=true)(h:∀v,KO P ops d Q n D w0 ((t,v)::G) (F v) l):KO P ops d Q n D w0 G L ((k,⟨some t,op,ty,pos,af,none⟩)::l):=fun a w ha hw=>by
 obtain⟨v,w',hr,hs⟩:=hr a w ha hw;refine k9 hk rfl ?_;unfold Oper.wp;rw[hr];exact h v _ w' (gX ha _ ht) hs
theorem wM{w:World}{bs:Option Addr}{len cap lo hi mx:Nat}{l h m:Option Value}(hT:P.underlying T=some (.slice E))(hs:(Go.sizeOf E).run P w=.ok sz w)(hm:match m with|none=>mx=cap|some v=>v=.int .i64 (mx:Nat))(hh:match h with|none=>hi=len/\m=none|some v=>v=.int .i64 (hi:Nat))(hl:match l with|none=>lo=0|some v=>v=.int .i64 (lo:Nat))(h1:lo<=hi)(h2:hi<=mx)(h3:mx<=cap):
 (Instr.sliceAt T (.slice bs len cap) l h m).run P w=.ok (.slice (if mx=lo then bs else bs.map (·.add (lo *sz))) (hi-lo) (mx-lo)) w:=by
 have e1:∀(i y:Nat) (code:BoundsCode),i<=y->(Instr.sliceBound (.int .i64 (i:Nat)) y code).run P w=.ok i w:=fun i y code h=>by
  simp[Instr.sliceBound,asIntOf,h]
 cases m with
 |none=>
  cases h with
  |none=>
   obtain⟨rfl,_⟩:=hh;cases l with
   |none=>simp only at hm hl;subst hm;subst hl;simp[Instr.sliceAt,run_underlying hT,Instr.slice,Instr.sliceBounds,hs]
   |some v=>simp only at hm hl;subst hm;subst hl;simp[Instr.sliceAt,run_underlying hT,Instr.slice,Instr.sliceBounds,hs,e1 _ _ _ h1]
  |some v=>
   simp only at hh;subst hh;cases l with
   |none=>simp only at hm hl;subst hm;subst hl;simp[Instr.sliceAt,run_underlying hT,Instr.slice,Instr.sliceBounds,hs,e1 _ _ _ h2]
   |some v=>simp only at hm hl;subst hm;subst hl;simp[Instr.sliceAt,run_underlying hT,Instr.slice,Instr.sliceBounds,hs,e1 _ _ _ h1,e1 _ _ _ h2]
 |some vm=>
  simp only at hm;subst hm;cases h with
  |none=>simp at hh
  |some v=>
   simp only at hh;subst hh;cases l with
   |none=>simp only at hl;subst hl;simp[Instr.sliceAt,run_underlying hT,Instr.slice,Instr.sliceBounds,hs,e1 _ _ _ h2,e1 _ _ _ h3]
   |some v=>simp only at hl;subst hl;simp[Instr.sliceAt,run_underlying hT,Instr.slice,Instr.sliceBounds,hs,e1 _ _ _ h1,e1 _ _ _ h2,e1 _ _ _ h3]
def cutAt (g:Nat) (lo sz mx:Nat):Addr:=⟨g,if mx=lo then 0 else lo *sz,none⟩
theorem E8(g lo sz mx:Nat):(if mx=lo then(some ⟨g,0,none⟩:Option Addr)else(some (⟨g,0,none⟩:Addr)).map (·.add (lo *sz)))=some (cutAt g lo sz mx):=by
 unfold cutAt;by_cases h:mx=lo
 ·simp[h]
 ·simp[h,Addr.add_lit]
theorem KO.Bv{bs:Option Addr}{len cap hi:Nat}(hx:ev G x=some (.slice bs len cap))(hy:ev G y=some (.int .i64 c))(hT:P.underlying T=some (.slice E))(hs:∀w,(Go.sizeOf E).run P w=.ok sz w)(hc:c=(hi:Int))(h2:hi<=cap)(ht:Nat.blt t n=true)(h:KO P ops d Q n D w0 ((t,.slice bs hi cap)::G) L l):KO P ops d Q n D w0 G L ((k,⟨some t,.slice T x none (some y) none,ty,pos,af,none⟩)::l):=
 KO.val (fun a w ha=>by
  subst hc;have :=wM (P:=P) (w:=w) (bs:=bs) (len:=len) (cap:=cap) (lo:=0) (hi:=hi) (mx:=cap) (l:=none) (h:=some (.int .i64 (hi:Nat))) (m:=none) hT (hs w) rfl rfl rfl (aV _) h2 (aF _);have e:(if cap=0 then bs else bs.map (·.add (0*sz)))=bs:=by
   split
   ·rfl
   ·cases bs<;>simp[Addr.add_zero']
  simp only[e,Nat.sub_zero]at this
  simp[execOp,ha.eval hx,ha.eval hy,this]) ht h
theorem KO.cutFrom{g len cap lo:Nat}(hx:ev G x=some (.slice (some ⟨g,0,none⟩) len cap))(hy:ev G y=some (.int .i64 c))(hT:P.underlying T=some (.slice E))(hs:∀w,(Go.sizeOf E).run P w=.ok sz w)(hc:c=(lo:Int))(h1:lo<=len)(h2:len<=cap)(ht:Nat.blt t n=true)(h:KO P ops d Q n D w0 ((t,.slice (some (cutAt g lo sz cap)) (len-lo) (cap-lo))::G) L l):KO P ops d Q n D w0 G L ((k,⟨some t,.slice T x (some y) none none,ty,pos,af,none⟩)::l):=
 KO.val (fun a w ha=>by
  subst hc;have :=wM (P:=P) (w:=w) (bs:=some ⟨g,0,none⟩) (len:=len) (cap:=cap) (lo:=lo) (hi:=len) (mx:=cap) (l:=some (.int .i64 (lo:Nat))) (h:=none) (m:=none) hT (hs w) rfl ⟨rfl,rfl⟩ rfl h1 h2 (aF _);rw[E8]at this
  simp[execOp,ha.eval hx,ha.eval hy,this]) ht h
theorem KO.G7{g len cap lo hi:Nat}{b:Int}(hx:ev G x=some (.slice (some ⟨g,0,none⟩) len cap))(hy:ev G y=some (.int .i64 c))(hz:ev G z=some (.int .i64 b))(hT:P.underlying T=some (.slice E))(hs:∀w,(Go.sizeOf E).run P w=.ok sz w)(hc:c=(lo:Int))(hb:b=(hi:Int))(h1:lo<=hi)(h2:hi<=cap)(ht:Nat.blt t n=true)(h:KO P ops d Q n D w0 ((t,.slice (some (cutAt g lo sz cap)) (hi-lo) (cap-lo))::G) L l):KO P ops d Q n D w0 G L ((k,⟨some t,.slice T x (some y) (some z) none,ty,pos,af,none⟩)::l):=
 KO.val (fun a w ha=>by
  subst hc;subst hb;have :=wM (P:=P) (w:=w) (bs:=some ⟨g,0,none⟩) (len:=len) (cap:=cap) (lo:=lo) (hi:=hi) (mx:=cap) (l:=some (.int .i64 (lo:Nat))) (h:=some (.int .i64 (hi:Nat))) (m:=none) hT (hs w) rfl rfl rfl h1 h2 (aF _);rw[E8]at this
  simp[execOp,ha.eval hx,ha.eval hy,ha.eval hz,this]) ht h
theorem KO.G8{u:Operand}{bs:Option Addr}{len cap lo hi mx:Nat}{b m:Int}(hx:ev G x=some (.slice bs len cap))(hy:ev G y=some (.int .i64 c))(hz:ev G z=some (.int .i64 b))(hu:ev G u=some (.int .i64 m))(hT:P.underlying T=some (.slice E))(hs:∀w,(Go.sizeOf E).run P w=.ok sz w)(hc:c=(lo:Int))(hb:b=(hi:Int))(hm:m=(mx:Int))(h1:lo<=hi)(h2:hi<=mx)(h3:mx<=cap)(ht:Nat.blt t n=true)(h:∀q,KO P ops d Q n D w0 ((t,.slice q (hi-lo) (mx-lo))::G) L l):KO P ops d Q n D w0 G L ((k,⟨some t,.slice T x (some y) (some z) (some u),ty,pos,af,none⟩)::l):=
 KO.val (v:=.slice (if mx=lo then bs else bs.map (·.add (lo *sz))) (hi-lo) (mx-lo)) (fun a w ha=>by
  subst hc;subst hb;subst hm;have :=wM (P:=P) (w:=w) (bs:=bs) (len:=len) (cap:=cap) (lo:=lo) (hi:=hi) (mx:=mx) (l:=some (.int .i64 (lo:Nat))) (h:=some (.int .i64 (hi:Nat))) (m:=some (.int .i64 (mx:Nat))) hT (hs w) rfl rfl rfl h1 h2 h3
  simp[execOp,ha.eval hx,ha.eval hy,ha.eval hz,ha.eval hu,this]) ht (h _)
end
theorem yP{α:Type}{cf:α->List Value}(h1:∀e,∀u∈cf e,u.oneCell'=true)(xs:List α):∀u∈xs.flatMap cf,u.oneCell'=true:=fun u hu=>by
 obtain⟨e,_,hu⟩:=List.mem_flatMap.1 hu;exact h1 e u hu
section
variable {P:Program} {w0 w:World} {L:List HP} {E T ty:TypeId} {α:Type} {cf:α->List Value} {sz g cap n:Nat} {xs:List α}
theorem gp(h:St w0 (SL E sz cf (.slice (some ⟨g,0,none⟩) n cap) xs::L) w):n=xs.length/\n<=cap/\cap<=maxLen/\∃cur:Array Value,cur.size=cap *sz/\cur.toList.take (xs.length *sz)=xs.flatMap cf/\St w0 (bI g (.cells cur E (0,0))::L) w:=by
 rcases h.cH with⟨h1,_⟩|⟨g',nz,cur,hv,h1,h2,h3,h4,_,h5⟩
 ·simp at h1
 ·simp only[Value.slice.injEq,az,Addr.mk.injEq,and_true,true_and]at hv;obtain⟨rfl,rfl,rfl⟩:=hv;exact⟨rfl,h1,h2,cur,h3,h4,h5⟩
theorem FF{cur:Array Value}(h:St w0 (bI g (.cells cur E (0,0))::L) w)(hn:xs.length<=cap)(hc:cap<=maxLen)(hs:cur.size=cap *sz)(ht:cur.toList.take (xs.length *sz)=xs.flatMap cf):
 St w0 (SL E sz cf (.slice (some ⟨g,0,none⟩) xs.length cap) xs::L) w:=h.kx hn hc hs ht
theorem Sc(dr:∀e,(cf e).length=sz)(h1:∀e,∀u∈cf e,u.oneCell'=true){i:TypeInfo}(hT:P.underlying T=some (.slice E))(hi:P.info? E=some i)(acv:i.size=sz){n j k c o:Nat}(h:St w0 (SL E sz cf (.slice (some ⟨g,0,none⟩) n cap) xs::L) w)(hk:k<=j)(hj:j<=xs.length)(ho:xs.length-j=0\/o=j *sz):
 ∃w',(Builtin.append_ #[T,T] ty #[.slice (some ⟨g,0,none⟩) k cap,.slice (some ⟨g,o,none⟩) (xs.length-j) c]).run P w=.ok (.slice (some ⟨g,0,none⟩) (k+(xs.length-j)) cap) w'/\
  St w0 (SL E sz cf (.slice (some ⟨g,0,none⟩) xs.length cap) (xs.take k++xs.drop j++xs.drop (k+(xs.length-j)))::L) w':=by
 obtain⟨rfl,vf,vq,cur,kJ,fe,hb⟩:=gp h;subst acv;have Lh:∀l:List α,(l.flatMap cf).length=l.length *i.size:=kl cf i.size dr;have qg:cur.toList.length=cap *i.size:=by simpa using kJ
 have h_:∀(q:Nat) (u:Value),(xs.flatMap cf)[q]? =some u->cur[q]? =some u:=fun q u hq=>by
  rw[<-fe,List.getElem?_take]at hq;split at hq
  ·simpa using hq
  ·simp at hq
 have pB:∀(q:Nat) (u:Value),((xs.drop j).flatMap cf)[q]? =some u->w.cell? ((⟨g,o,none⟩:Addr).add q)=some u:=fun q u hq=>by
  have dt:=(au.1 hq).1;rw[Lh,bu]at dt;rcases ho with ho|ho
  ·rw[ho,Nat.zero_mul]at dt;omega
  ·rw[<-lj cf i.size dr xs j hj,List.getElem?_drop]at hq;rw[Addr.add_lit,World.cell?,hb.look.2,ho];exact h_ _ u hq
 have hle:(k+(xs.length-j))*i.size<=cap *i.size:=Nat.mul_le_mul_right _ ae;have hr:=run_append_room (P:=P) w T ty E i hT hi g k cap cur hb.look.2 ⟨g,o,none⟩ (xs.length-j) c ((xs.drop j).flatMap cf) (by rw[Lh,bu]) pB (yP h1 _) ae
  (by rw[Lh,bu,<-Nat.add_mul,kJ];exact hle)
 refine⟨_,hr,?_⟩;have e1:(xs.take k++xs.drop j++xs.drop (k+(xs.length-j))).length=xs.length:=by simp;omega
 have iL:=hb.setRow (c':=(cur.toList.take (k *i.size)++(xs.drop j).flatMap cf++cur.toList.drop (k *i.size+((xs.drop j).flatMap cf).length)).toArray);have :=FF (xs:=xs.take k++xs.drop j++xs.drop (k+(xs.length-j))) (cf:=cf) (sz:=i.size) (cap:=cap) iL ae vq ?_ ?_
 ·rw[e1]at this;exact this
 ·simp only[List.size_toArray,aX,bA,bu,Lh,qg,Nat.min_def];have :=Nat.mul_le_mul_right i.size (show k<=cap by omega);rw[if_pos this,<-Nat.add_mul];omega
 ·rw[e1];simp only[List.flatMap_append,Lh,bu];have Ba:cur.toList.take (k *i.size)=(xs.take k).flatMap cf:=by
   rw[<-lh cf i.size dr xs k ae,<-fe,List.take_take,Nat.min_eq_left (Nat.mul_le_mul_right _ ae)]
  rw[Ba,<-lj cf i.size dr xs (k+(xs.length-j)) ae,<-fe];have hlA:((xs.take k).flatMap cf++(xs.drop j).flatMap cf).length=(k+(xs.length-j))*i.size:=by
   rw[aX,Lh,Lh,bA,bu,Nat.min_eq_left ae,Nat.add_mul]
  rw[List.take_append,hlA,List.take_of_length_le (by rw[hlA];exact Nat.mul_le_mul_right _ ae)];congr 1
  rw[<-Nat.add_mul,List.take_drop,show(k+(xs.length-j))*i.size+(xs.length *i.size-(k+(xs.length-j))*i.size)=xs.length *i.size by
   have :=Nat.mul_le_mul_right i.size (show k+(xs.length-j)<=xs.length by omega);omega]
theorem OF(dr:∀e,(cf e).length=sz){i:TypeInfo}{z:Value}(hT:P.underlying T=some (.slice E))(hi:P.info? E=some i)(hz:i.zero=some z)(mM:∀u∈z.cells.toList,u.oneCell'=true)(Qh:z.cells.size=sz){n m c o q:Nat}(h:St w0 (SL E sz cf (.slice (some ⟨g,0,none⟩) n cap) xs::L) w)(hq:q+m<=xs.length)(ho:m=0\/o=q *sz):
 ∃w' u,(Builtin.clear_ #[T] ty #[.slice (some ⟨g,o,none⟩) m c]).run P w=.ok u w'/\St w0 (SL E sz cf (.slice (some ⟨g,0,none⟩) q cap) (xs.take q)::L) w':=by
 obtain⟨rfl,vf,vq,cur,kJ,fe,hb⟩:=gp h;have FM:(xs.take q).length=q:=by simp;omega
 have hqt:cur.toList.take (q *sz)=(xs.take q).flatMap cf:=by
  rw[<-lh cf sz dr xs q ae,<-fe,List.take_take,Nat.min_eq_left (Nat.mul_le_mul_right _ ae)]
 by_cases hm:m=0
 ·subst hm;refine⟨w,.tuple #[],by simp[Builtin.clear_,run_underlying hT],?_⟩;have :=FF (xs:=xs.take q) (cf:=cf) (sz:=sz) (cap:=cap) hb ae vq kJ (by rw[FM];exact hqt);rw[FM]at this;exact this
 ·have ho:=ho.resolve_left hm;subst ho;have J6:(Builtin.zeroCells z.cells m).toList.length=m *sz:=by simp[size_zeroCells,Qh]
  have aca:∀u∈(Builtin.zeroCells z.cells m).toList,u.oneCell'=true:=fun u hu=>by
   simp only[Builtin.zeroCells,Array.toList_map,ay]at hu;obtain⟨j,hj,rfl⟩:=hu;have hp:0<z.cells.size:=by
    rcases Nat.eq_zero_or_pos z.cells.size with h0|h0
    ·simp[h0]at hj
    ·exact h0
   have :j%z.cells.size<z.cells.size:=Nat.mod_lt _ hp;rw[getElem!_pos z.cells _ this];exact mM _ (Array.mem_toList_iff.2 (Array.getElem_mem this))
  have nh:q *sz+0+(Builtin.zeroCells z.cells m).toList.length<=cur.size:=by
   rw[J6,kJ,Nat.add_zero,<-Nat.add_mul];exact Nat.mul_le_mul_right _ ae
  have kj:=run_storeCells_at P g (q *sz) E (Builtin.zeroCells z.cells m).toList 0 cur w hb.look.2 nh aca;simp only[Nat.add_zero]at kj;have vY:∃m',m=m'+1:=⟨m-1,by omega⟩;obtain⟨m',rfl⟩:=vY;refine⟨w.setRow g (cur.toList.take (q *sz)++(Builtin.zeroCells z.cells (m'+1)).toList++cur.toList.drop (q *sz+(Builtin.zeroCells z.cells (m'+1)).toList.length)).toArray,.tuple #[],by simp[Builtin.clear_,run_underlying hT,zeroValue,typeInfo,hi,hz,kj],?_⟩;have :=FF (xs:=xs.take q) (cf:=cf) (sz:=sz) (cap:=cap) (hb.setRow (c':=(cur.toList.take (q *sz)++(Builtin.zeroCells z.cells (m'+1)).toList++cur.toList.drop (q *sz+(Builtin.zeroCells z.cells (m'+1)).toList.length)).toArray)) ae vq ?_ ?_
  ·rw[FM]at this;exact this
  ·have qg:cur.toList.length=cap *sz:=by simpa using kJ
   simp only[List.size_toArray,aX,bA,bu,qg,J6,Nat.min_def];have :=Nat.mul_le_mul_right sz (show q<=cap by omega);have h3:=Nat.mul_le_mul_right sz (show q+(m'+1)<=cap by omega);rw[Nat.add_mul]at h3;rw[if_pos this];omega
  ·rw[FM,aL,List.take_append_of_le_length]
   ·rw[List.take_take,Nat.min_self];exact hqt
   ·have qg:cur.toList.length=cap *sz:=by simpa using kJ
    rw[bA,qg,Nat.min_eq_left (Nat.mul_le_mul_right _ ae)];exact aF _
end
theorem St.Sm{w0 w:World}{A B:HP}{R R':List HP}(h:St w0 (A::R) w)(hq:bF R B R'):St w0 (A::B::R') w:=by
 have :=h.pick (.tail hq);exact this.pick (.tail .head)
theorem St.S5{w0 w:World}{A B:HP}{R:List HP}(h:St w0 (A::B::R) w):St w0 (A::R) w:=(h.pick (.tail .head)).drop
section
variable {P:Program} {ops:Array Oper} {d:Bool} {Q:Exit->Act->World->Prop} {n:Nat} {D:List Deferred} {w0:World} {G:Env} {L R R' N:List HP} {l:List (Kd×Oper)} {k:Kd}
 {t:Nat} {op:Op} {ty T T' E E':TypeId} {pos:String} {af:Array Edge} {x y:Operand} {v u z:Value} {i j:Nat} {a c r:Int} {α:Type} {cf:α->List Value} {sz dI:Nat} {xs ys:List α} {e e':α}
theorem KO.bs(hk:(!d||(k== .c7||k== .write))=true){len:Nat}{parts:Array (Nat×Operand)}(os:List Operand){vs cs:List Value}(hp:parts.toList=(os.zipIdx 0).map fun x=>(x.2,x.1))(hv:G3 G os=some vs)(hT:P.underlying T=some (.slice E))(hi:(P.info? E).map (fun i=>(i.zero,i.size,i.bytes))=some (some z,sz,dI))(dr:vs.all (fun v=>v.cells.size==sz)=true)(hlen:vs.length=len)(hs:¬len *sz>2^24)(Ch:¬len *sz=0)(kJ:(vs.flatMap fun v=>v.cells.toList)=cs)(ht:Nat.blt t n=true)(h:∀bb,KO P ops d Q n D w0 ((t,.slice (some ⟨bb,0,none⟩) len len)::G) (bI bb (.cells cs.toArray E (0,0))::L) l):KO P ops d Q n D w0 G L ((k,⟨some t,.buildSlice T len parts,ty,pos,af,none⟩)::l):=by
 obtain⟨i0,OW,wW,mM,_⟩:=info_parts hi;refine KO.qb hk (F:=fun bb=>.slice (some ⟨bb,0,none⟩) len len) (N:=fun bb=>bI bb (.cells cs.toArray E (0,0))::L) (fun a w ha hw=>⟨w.heap.size,w.alloc (.cells cs.toArray E),?_,Ext.alloc w _,hw.alloc _⟩) ht h;have Ut:(parts.map fun(i,x)=>(i,a.eval x)).toList=(vs.zipIdx 0).map fun x=>(x.2,x.1):=by
  have key:∀(os:List Operand) (vs:List Value) (q:Nat),os.map (ev G)=vs.map some->((os.zipIdx q).map fun x=>(x.2,x.1)).map (fun(p:Nat×Operand)=>(p.1,a.eval p.2))=(vs.zipIdx q).map fun x=>(x.2,x.1):=by
   intro os
   induction os with
   |nil=>intro vs q h;cases vs with|nil=>rfl|cons _ _=>simp at h
   |cons o os ih=>intro vs q h;cases vs with
    |nil=>simp at h
    |cons v vs=>
     simp only[aJ,List.cons.injEq]at h;simp only[List.zipIdx_cons,aJ,ha.eval h.1];rw[ih vs (q+1) h.2]
  rw[Array.toList_map,hp];exact key os vs 0 (om hv)
 have hsp:0<sz:=Nat.pos_of_ne_zero fun e=>Ch (by rw[e,Nat.mul_zero])
 have hf:=Great.fill_whole hsp vs ((Array.range (len *sz)).map (z.cells[· %z.cells.size]!)) (fun v hv=>by simpa using aI.1 dr v hv) (by simp[hlen])
 rw[<-mM]at hf hs Ch;have hr:=run_buildSlice (P:=P) w T E len (parts.map fun(i,x)=>(i,a.eval x)) _ i0 z hT OW wW hs Ch (by rw[Ut];exact hf);simp only[kJ]at hr;simp only[execOp,hr,Sem.run_bind,Sem.run_pure,Result.andThen_ok]
theorem KO.app(hk:(!d||k== .write)=true){bv cp:Nat}{us:List Value}(hx:ev G x=some v)(hy:ev G y=some (.slice (some ⟨bv,0,none⟩) 1 cp))(hp:bF L (SL E sz cf v xs) R)(hq:bF R (bI bv (.cells us.toArray E' (0,0))) R')(hT:P.underlying T=some (.slice E))(hi:(P.info? E).map (fun i=>(i.zero,i.size,i.bytes))=some (some z,sz,dI))(Qh:z.cells.size=sz)(e:α)(he:cf e=us)(Ce:us.length=sz)(h1:us.all Value.oneCell'=true)(hb:xs.length<1000000000)(Yv:dI<=10000)(ht:Nat.blt t n=true)(h:∀v',KO P ops d Q n D w0 ((t,v')::G) (SL E sz cf v' (xs++[e])::R') l):KO P ops d Q n D w0 G L ((k,⟨some t,.call ⟨.builtin .append,#[x,y],#[T,T]⟩,ty,pos,af,none⟩)::l):=by
 obtain⟨i0,OW,wW,mM,wV⟩:=info_parts hi;refine KO.wvE hk (F:=fun v'=>SL E sz cf v' (xs++[e])::R') (fun a w ha hw=>?_) ht h;have hs:=hw.pick hp;have GN:cr w ⟨bv,0,none⟩ us:=by
  have :=hs.drop.pick hq;exact this.eJ fun j c hj=>by simpa using hj
 have Yy:(xs.length+1)*dI<=140737488355328:=by
  have :=Nat.mul_le_mul (show xs.length+1<=1000000000 by omega) Yv;omega
 obtain⟨v',w',hr,kj⟩:=qq (P:=P) T ty E i0 z sz dI hT OW wW mM wV Qh hs ⟨bv,0,none⟩ 1 cp us (by rw[Ce,Nat.one_mul]) GN (fun u hu=>aI.1 h1 u hu) R_ Yy;refine⟨v',w',kT x y T T rfl v _ (ha.eval hx) (ha.eval hy) hr,?_⟩;have iM:=(kj.Sm hq).S5
 show St w0 (ke E sz v' (xs++[e]).length ((xs++[e]).flatMap cf)::R') w'
 rw[show(xs++[e]).length=xs.length+1 by simp,show(xs++[e]).flatMap cf=xs.flatMap cf++us by simp[he]];exact iM
theorem KO.move(hk:(!d||k== .write)=true){g n' cap kk c:Nat}(hx:ev G x=some (.slice (some ⟨g,0,none⟩) kk cap))(hy:ev G y=some (.slice (some (cutAt g j sz cap)) (n'-j) c))(hp:bF L (SL E sz cf (.slice (some ⟨g,0,none⟩) n' cap) xs) R)(hn:n'=xs.length)(vf:n'<=cap)(hT:P.underlying T=some (.slice E))(hi:(P.info? E).map (fun i=>(i.zero,i.size,i.bytes))=some (some z,sz,dI))(dr:∀e,(cf e).length=sz)(h1:∀e,(cf e).all Value.oneCell'=true)(hkj:kk<=j)(hj:j<=xs.length)(ht:Nat.blt t n=true)(h:KO P ops d Q n D w0 ((t,.slice (some ⟨g,0,none⟩) (kk+(n'-j)) cap)::G) (SL E sz cf (.slice (some ⟨g,0,none⟩) n' cap) (xs.take kk++xs.drop j++xs.drop (kk+(n'-j)))::R) l):
 KO P ops d Q n D w0 G L ((k,⟨some t,.call ⟨.builtin .append,#[x,y],#[T,T]⟩,ty,pos,af,none⟩)::l):=by
 obtain⟨i0,OW,wW,mM,_⟩:=info_parts hi;subst hn;refine KO.wv hk (fun a w ha hw=>?_) ht h
 obtain⟨w',hr,hs⟩:=Sc (P:=P) (ty:=ty) dr (fun e u hu=>aI.1 (h1 e) u hu) hT OW mM (c:=c) (o:=(cutAt g j sz cap).off) (hw.pick hp) hkj hj (by
  by_cases hc:cap=j
  ·left;omega
  ·right;simp[cutAt,hc])
 exact⟨w',kT x y T T rfl _ _ (ha.eval hx) (ha.eval hy) hr,hs⟩
theorem KO.clear(hk:(!d||k== .write)=true){g n' cap q m c:Nat}(hx:ev G x=some (.slice (some (cutAt g q sz cap)) m c))(hp:bF L (SL E sz cf (.slice (some ⟨g,0,none⟩) n' cap) xs) R)(vf:n'<=cap)(hn:n'=xs.length)(hq:q+m<=xs.length)(hT:P.underlying T=some (.slice E))(hi:(P.info? E).map (fun i=>(i.zero,i.size,i.bytes))=some (some z,sz,dI))(dr:∀e,(cf e).length=sz)(mM:z.cells.toList.all Value.oneCell'=true)(Qh:z.cells.size=sz)(h:KO P ops d Q n D w0 G (SL E sz cf (.slice (some ⟨g,0,none⟩) q cap) (xs.take q)::R) l):
 KO P ops d Q n D w0 G L ((k,⟨none,.call ⟨.builtin .clear,#[x],#[T]⟩,ty,pos,af,none⟩)::l):=by
 obtain⟨i0,OW,wW,_,_⟩:=info_parts hi;refine KO.wn hk (fun a w ha hw=>?_) h
 obtain⟨w',u,hr,hs⟩:=OF (P:=P) (ty:=ty) dr hT OW wW (fun u hu=>aI.1 mM u hu) Qh (m:=m) (c:=c) (o:=(cutAt g q sz cap).off) (hw.pick hp) hq (by
  by_cases hc:cap=q
  ·left;omega
  ·right;simp[cutAt,hc])
 refine⟨w',u,?_,hs⟩;have e:a.eval x=.slice (some ⟨g,(cutAt g q sz cap).off,none⟩) m c:=ha.eval hx;simp[execOp,resolve,invoke,builtin,e,hr]
theorem OE{w:World}{g cap n':Nat}{us:List Value}{o:Nat}(dr:∀e,(cf e).length=sz)(hw:St w0 (SL E sz cf (.slice (some ⟨g,0,none⟩) n' cap) xs::R) w)(he:xs[i]? =some e)(nh:j+us.length<=sz)(hu:kR j us (cf e)=cf e')(ho:o=i *sz+j)(hn:(Go.sizeOf T).run P w=.ok us.length w)(h1:∀u∈us,u.oneCell'=true)(hv:v.cells=us.toArray):
 ∃w',(storeVar T ⟨g,o,none⟩ v).run P w=.ok () w'/\St w0 (SL E sz cf (.slice (some ⟨g,0,none⟩) n' cap) (xs.set i e')::R) w':=by
 obtain⟨rfl,vf,vq,cur,kJ,fe,hb⟩:=gp hw;have hi:=(au.1 he).1;have WT:=(au.1 he).2;have acy:(i+1)*sz<=xs.length *sz:=Nat.mul_le_mul_right _ hi;have aeK:xs.length *sz<=cap *sz:=Nat.mul_le_mul_right _ vf;rw[Nat.succ_mul]at acy;have qg:cur.toList.length=cap *sz:=by simpa using kJ
 have kj:=jT (P:=P) (T:=T) (off:=o) (v:=v) hb (by simpa[hv]using hn) (by simp[hv,kJ];omega) (by simpa[hv]using h1);simp only[hv]at kj;refine⟨_,kj,?_⟩;have hlen:(xs.set i e').length=xs.length:=by simp
 have :=FF (xs:=xs.set i e') (cf:=cf) (sz:=sz) (cap:=cap) (hb.setRow (c':=(cur.toList.take o++us++cur.toList.drop (o+us.length)).toArray)) ae vq ?_ ?_
 ·rw[hlen]at this;exact this
 ·simp only[List.size_toArray,aX,bA,bu,qg,Nat.min_def];rw[if_pos ae];omega
 ·rw[hlen];have iL:(xs.set i e').flatMap cf=(xs.take i).flatMap cf++cf e'++(xs.drop (i+1)).flatMap cf:=by
   rw[List.set_eq_take_append_cons_drop,if_pos hi];simp
  have hold:xs.flatMap cf=(xs.take i).flatMap cf++cf e++(xs.drop (i+1)).flatMap cf:=by
   have Um:xs=xs.take i++e::xs.drop (i+1):=by
    rw[<-WT,List.getElem_cons_drop,List.take_append_drop]
   conv=>lhs;rw[Um]
   simp
  have WA:((xs.take i).flatMap cf).length=i *sz:=by rw[kl cf sz dr,bA,Nat.min_eq_left ae]
  rw[iL,<-hu,<-p5 j us (cf e) (by rw[dr];exact nh)];obtain⟨tl,MT⟩:∃tl,cur.toList=xs.flatMap cf++tl:=⟨cur.toList.drop (xs.length *sz),by rw[<-fe,List.take_append_drop]⟩;rw[MT,hold,ho];have acR:=dr e;generalize (xs.take i).flatMap cf=A at WA;generalize hC:(xs.drop (i+1)).flatMap cf=C;have hCl:C.length=(xs.length-(i+1))*sz:=by rw[<-hC,kl cf sz dr,bu]
  have afZ:i *sz+sz+(xs.length-(i+1))*sz=xs.length *sz:=by
   have :(i+1)*sz+(xs.length-(i+1))*sz=xs.length *sz:=by rw[<-Nat.add_mul];congr 1;omega
   rw[Nat.succ_mul]at this;omega
  generalize cf e=B at acR;clear kj iL hold MT hu dr fe;have h1:(A++B++C++tl).take (i *sz+j)=A++B.take j:=by
   rw[aL,aL,<-WA,List.take_length_add_append,List.take_append_of_le_length ae]
  have h2:(A++B++C++tl).drop (i *sz+j+us.length)=B.drop (j+us.length)++C++tl:=by
   rw[aL,aL,<-WA,Nat.add_assoc,List.drop_length_add_append,List.drop_append_of_le_length ae,aL]
  rw[h1,h2];have e1:A++List.take j B++us++(List.drop (j+us.length) B++C++tl)=(A++(List.take j B++us++List.drop (j+us.length) B)++C)++tl:=by simp
  rw[e1,List.take_append_of_le_length fx,List.take_of_length_le fx]
theorem KO.Xq(hk:(!d||k== .write)=true){g n' cap:Nat}{us:List Value}(hx:ev G x=some (.pointer (some ⟨g,i *sz+j,none⟩)))(hy:ev G y=some v)(hv:v.cells=us.toArray)(hn:∀w,(Go.sizeOf T).run P w=.ok us.length w)(h1:us.all Value.oneCell'=true)(hp:bF L (SL E sz cf (.slice (some ⟨g,0,none⟩) n' cap) xs) R)(dr:∀e,(cf e).length=sz)(he:xs[i]? =some e)(nh:Nat.ble (j+us.length) sz=true)(e':α)(hu:kR j us (cf e)=cf e')(h:KO P ops d Q n D w0 G (SL E sz cf (.slice (some ⟨g,0,none⟩) n' cap) (xs.set i e')::R) l):KO P ops d Q n D w0 G L ((k,⟨none,.store T x y,ty,pos,af,none⟩)::l):=
 KO.Dq hk (fun a w ha hw=>by
  obtain⟨w',hr,hs⟩:=OE (P:=P) (T:=T) (v:=v) dr (hw.pick hp) he (by simpa[Nat.ble_eq]using nh) hu rfl (hn w) (fun u hu=>aI.1 h1 u hu) hv
  exact⟨w',by simp[execOp,ha.eval hx,ha.eval hy,Instr.storeAt,Instr.sureAddr,hr],hs⟩) h
theorem KO.abm(hk:(!d||k== .write)=true){g n' cap:Nat}(hx:ev G x=some (.pointer (some ⟨g,i *sz,none⟩)))(e':α)(hy:ev G y=some (.agg (cf e').toArray))(hn:∀w,(Go.sizeOf T).run P w=.ok sz w)(h1:∀e,(cf e).all Value.oneCell'=true)(hp:bF L (SL E sz cf (.slice (some ⟨g,0,none⟩) n' cap) xs) R)(dr:∀e,(cf e).length=sz)(he:xs[i]? =some e)(h:KO P ops d Q n D w0 G (SL E sz cf (.slice (some ⟨g,0,none⟩) n' cap) (xs.set i e')::R) l):KO P ops d Q n D w0 G L ((k,⟨none,.store T x y,ty,pos,af,none⟩)::l):=
 KO.Dq hk (fun a w ha hw=>by
  obtain⟨w',hr,hs⟩:=OE (P:=P) (T:=T) (v:=.agg (cf e').toArray) (us:=cf e') (o:=i *sz) (j:=0) (e':=e') dr (hw.pick hp) he (by rw[dr];omega) (by simp[kR,dr,List.drop_of_length_le]) rfl (by rw[dr];exact hn w) (fun u hu=>aI.1 (h1 e') u hu) rfl
  exact⟨w',by simp[execOp,ha.eval hx,ha.eval hy,Instr.storeAt,Instr.sureAddr,hr],hs⟩) h
end
section
variable {P:Program} {f:FuncId} {args:Array Value} {w0:World} {L R1 R2 R3:List HP} {A B C:HP} {R:Value->List HP->Prop}
theorem KC.oN(p1:bF L A R1)(h:KC P f args w0 (A::R1) R):KC P f args w0 L R:=fun w hw=>h w (hw.pick p1)
theorem St.fA{w:World}(hw:St w0 L w)(p1:bF L A R1)(p2:bF R1 B R2):St w0 (A::B::R2) w:=(hw.pick p1).Sm p2
theorem St.Sz{w:World}(hw:St w0 L w)(p1:bF L A R1)(p2:bF R1 B R2)(p3:bF R2 C R3):St w0 (A::B::C::R3) w:=by
 have h1:=hw.fA p1 p2;have h2:=h1.pick (.tail (.tail p3));exact(h2.pick (.tail .head)).pick (.tail (.tail .head)) |>.pick (.tail .head)
theorem KC.Mc(p1:bF L A R1)(p2:bF R1 B R2)(h:KC P f args w0 (A::B::R2) R):KC P f args w0 L R:=fun w hw=>h w (hw.fA p1 p2)
theorem KE.oN(p1:bF L A R1)(h:KE P f args w0 (A::R1) R):KE P f args w0 L R:=fun w hw=>h w (hw.pick p1)
theorem KE.Mc(p1:bF L A R1)(p2:bF R1 B R2)(h:KE P f args w0 (A::B::R2) R):KE P f args w0 L R:=fun w hw=>h w (hw.fA p1 p2)
theorem KE.c7{v:Value}(h:KE P f args w0 L (fun u _=>u=v)):KE P f args w0 L (fun u M=>u=v/\M=L):=fun w hw=>
 (h w hw).mono fun _ _ ⟨u,_,he,hu,_,hb⟩=>⟨u,L,he,⟨hu,rfl⟩,hw.aC hb,hb⟩
end
section
variable {P:Program} {ops:Array Oper} {d:Bool} {Q:Exit->Act->World->Prop} {n:Nat} {D:List Deferred} {w0:World} {G:Env} {L R:List HP} {A:HP} {l:List (Kd×Oper)} {k:Kd}
 {t:Nat} {ty T:TypeId} {pos:String} {af:Array Edge} {v:Value} {c:Code} {e:Exit}
theorem K.pk(hp:bF L A R)(h:K P c Q n D w0 G (A::R)):K P c Q n D w0 G L:=K.conv (fun _ hw=>hw.pick hp) h
theorem KO.pk(hp:bF L A R)(h:KO P ops d Q n D w0 G (A::R) l):KO P ops d Q n D w0 G L l:=KO.conv (fun _ hw=>hw.pick hp) h
theorem KQ.pk(hp:bF L A R)(h:KQ Q e n D w0 G (A::R)):KQ Q e n D w0 G L:=KQ.conv (fun _ hw=>hw.pick hp) h
theorem KO.Zp{parts:Array (Nat×Operand)}{vs:List Value}(hv:G3 G (parts.toList.map (·.2))=some vs)(hr:∀w,(Instr.build T ((parts.toList.map (·.1)).zip vs).toArray).run P w=.ok v w)(ht:Nat.blt t n=true)(h:KO P ops d Q n D w0 ((t,v)::G) L l):KO P ops d Q n D w0 G L ((k,⟨some t,.build T parts,ty,pos,af,none⟩)::l):=
 KO.val (fun a w ha=>by
  have key:∀(ps:List (Nat×Operand)) (vs:List Value),(ps.map (·.2)).map (ev G)=vs.map some->ps.map (fun(p:Nat×Operand)=>(p.1,a.eval p.2))=(ps.map (·.1)).zip vs:=by
   intro ps
   induction ps with
   |nil=>intro vs h;cases vs with|nil=>rfl|cons _ _=>simp at h
   |cons p ps ih=>intro vs h;cases vs with
    |nil=>simp at h
    |cons v vs=>
     simp only[aJ,List.cons.injEq]at h;simp only[aJ,List.zip_cons_cons,ha.eval h.1,ih vs h.2]
  have e:parts.map (fun(i,x)=>(i,a.eval x))=((parts.toList.map (·.1)).zip vs).toArray:=by
   apply Array.ext';rw[Array.toList_map];exact key _ _ (om hv)
  simp only[execOp,e,hr w,Sem.run_bind,Sem.run_pure,Result.andThen_ok]) ht h
end
def KH (pl:List (Nat×Nat)):List Value->List (Nat×Value)->Option (List Value)
 |cs,[]=>some cs
 |cs,(i,v)::rest=>match pl[i]? with
  |some (off,size)=>match (Nat.beq v.cells.toList.length size&&Nat.ble (off+v.cells.toList.length) cs.length)with|true=>KH pl (kR off v.cells.toList cs) rest|false=>none
  |none=>none
theorem Bo(pl:List (Nat×Nat))(place:Nat->Option (Nat×Nat))(mG:∀i,place i=pl[i]?):∀(parts:List (Nat×Value)) (cs Dc:List Value),KH pl cs parts=some Dc->Instr.fill place cs.toArray parts=some Dc.toArray
 |[],cs,Dc,h=>by simp only[KH,az]at h;subst h;rfl
 |(i,v)::rest,cs,Dc,h=>by
  unfold KH at h;cases hp:pl[i]? with
  |none=>rw[hp]at h;simp at h
  |some os=>
   obtain⟨off,size⟩:=os;rw[hp]at h;simp only at h;cases hb:(Nat.beq v.cells.toList.length size&&Nat.ble (off+v.cells.toList.length) cs.length)with
   |false=>rw[hb]at h;simp at h
   |true=>
    rw[hb]at h;simp only at h;simp only[a_]at hb;have h1:v.cells.toList.length=size:=Nat.eq_of_beq_eq_true hb.1;have h2:off+v.cells.toList.length<=cs.length:=Nat.le_of_ble_eq_true hb.2;unfold Instr.fill;rw[mG i,hp];simp only;rw[if_neg (by simp only[Array.length_toList]at h1 h2;simp;omega)];have iL:(v.cells.zipIdx.foldl (fun cs (x:Value×Nat)=>cs.setIfInBounds (off+x.2) x.1) cs.toArray)=(kR off v.cells.toList cs).toArray:=by
     have e0:v.cells.zipIdx.foldl (fun cs (x:Value×Nat)=>cs.setIfInBounds (off+x.2) x.1) cs.toArray=(v.cells.toList.zipIdx 0).foldl (fun cs (x:Value×Nat)=>cs.setIfInBounds (off+x.2) x.1) cs.toArray:=by
      rw[<-Array.foldl_toList];simp
     obtain⟨g1,g2⟩:=Great.foldl_set off v.cells.toList 0 cs.toArray;rw[e0];apply Array.ext_getElem?;intro q;rw[g2 q];simp only[List.getElem?_toArray,List.size_toArray,Nat.add_zero];rw[<-p5 off _ cs h2];by_cases hq:off<=q/\q<off+v.cells.toList.length/\q<cs.length
     ·rw[if_pos hq,aL,aY Y28,bA,Nat.min_eq_left ae,List.getElem?_append_left ae]
     ·rw[if_neg hq,aL];by_cases hq1:q<off
      ·rw[List.getElem?_append_left Y28,List.getElem?_take,if_pos hq1]
      ·rw[aY Y28,bA,Nat.min_eq_left ae];by_cases Qx:q<cs.length
       ·have h3:off+v.cells.toList.length<=q:=Nat.not_lt.1 fun h4=>hq ⟨by omega,h4,Qx⟩
        rw[aY ae,List.getElem?_drop];congr 1;omega
       ·rw[bH ae,aY ae,bH (by rw[bu];omega)]
    show Instr.fill place (v.cells.zipIdx.foldl (fun cs (x:Value×Nat)=>cs.setIfInBounds (off+x.2) x.1) cs.toArray) rest=_
    rw[iL];exact Bo pl place mG rest _ _ h
section
variable {P:Program} {ops:Array Oper} {d:Bool} {Q:Exit->Act->World->Prop} {n:Nat} {D:List Deferred} {w0:World} {G:Env} {L R:List HP} {l:List (Kd×Oper)} {k:Kd} {t:Nat} {ty T:TypeId} {pos:String} {af:Array Edge} {v z:Value}
theorem KO.Vq{parts:Array (Nat×Operand)}{vs:List Value}{fs:Array Field}{pl:List (Nat×Nat)}(cs:List Value)(hv:G3 G (parts.toList.map (·.2))=some vs)(hz:∀w,(zeroValue T).run P w=.ok z w)(hu:∀w,(underlying T).run P w=.ok (.struct fs) w)(mG:∀w,(fs.mapM fun(f:Field)=>(do pure (f.offset,<-Go.sizeOf f.type):Sem (Nat×Nat))).run P w=.ok pl.toArray w)(hb:KH pl z.cells.toList ((parts.toList.map (·.1)).zip vs)=some cs)(ht:Nat.blt t n=true)(h:KO P ops d Q n D w0 ((t,.agg cs.toArray)::G) L l):KO P ops d Q n D w0 G L ((k,⟨some t,.build T parts,ty,pos,af,none⟩)::l):=
 KO.Zp hv (fun w=>by
  have :=Bo pl (fun x=>pl[x]?) (fun i=>rfl) _ _ _ hb;simp only[Array.toArray_toList]at this;simp only[Instr.build,hz w,hu w,Sem.run_bind,Result.andThen_ok];rw[mG w]
  simp[this]) ht h
end
section
variable {P:Program} {ops:Array Oper} {d:Bool} {Q:Exit->Act->World->Prop} {n:Nat} {D:List Deferred} {w0:World} {G:Env} {L R:List HP} {l:List (Kd×Oper)} {k:Kd} {t:Nat} {ty T:TypeId} {pos:String} {af:Array Edge} {v z:Value}
theorem KO.wh{parts:Array (Nat×Operand)}{vs:List Value}{fs:Array Field}{pl:List (Nat×Nat)}{cs:List Value}(hv:G3 G (parts.toList.map (·.2))=some vs)(hz:∀w,(zeroValue T).run P w=.ok z w)(hu:∀w,(underlying T).run P w=.ok (.struct fs) w)(mG:∀w,(fs.mapM fun(f:Field)=>(do pure (f.offset,<-Go.sizeOf f.type):Sem (Nat×Nat))).run P w=.ok pl.toArray w)(hb:KH pl z.cells.toList ((parts.toList.map (·.1)).zip vs)=some cs)(ht:Nat.blt t n=true)(h:KO P ops d Q n D w0 ((t,.agg cs.toArray)::G) L l):KO P ops d Q n D w0 G L ((k,⟨some t,.build T parts,ty,pos,af,none⟩)::l):=KO.Vq cs hv hz hu mG hb ht h
end
section
variable {P:Program} {ops:Array Oper} {d:Bool} {Q:Exit->Act->World->Prop} {n:Nat} {D:List Deferred} {w0:World} {G:Env} {L R:List HP} {l:List (Kd×Oper)} {k:Kd} {t:Nat} {ty T E:TypeId} {pos:String} {af:Array Edge} {v:Value} {x y:Operand}
theorem KO.oL{b:Nat}{cs us:List Value}(hk:(!d||k== .write)=true)(hx:ev G x=some (.pointer (some ⟨b,0,none⟩)))(hy:ev G y=some v)(hv:v.cells=us.toArray)(hn:∀w,(Go.sizeOf T).run P w=.ok us.length w)(h1:us.all Value.oneCell'=true)(hp:bF L (bI b (.cells cs.toArray E (0,0))) R)(nh:Nat.beq us.length cs.length=true)(h:KO P ops d Q n D w0 G (bI b (.cells us.toArray E (0,0))::R) l):
 KO P ops d Q n D w0 G L ((k,⟨none,.store T x y,ty,pos,af,none⟩)::l):=
 have e:us.length=cs.length:=Nat.eq_of_beq_eq_true nh
 KO.Jo hk hx hy hv hn h1 hp (Nat.ble_eq_true_of_le ae) (by rw[kR,e,List.drop_length,List.append_nil]) h
end
section
variable {P:Program} {ops:Array Oper} {d:Bool} {Q:Exit->Act->World->Prop} {n:Nat} {D:List Deferred} {w0:World} {G:Env} {L R:List HP} {l:List (Kd×Oper)} {k:Kd} {t:Nat} {ty T E:TypeId} {pos:String} {af:Array Edge} {v z:Value} {x y:Operand} {sz dI:Nat}
theorem KO.kL(hk:(!d||(k== .c7||k== .write))=true){cs:List Value}(hv:ev G x=some v)(hT:P.underlying T=some (.slice E))(hi:(P.info? E).map (fun i=>(i.zero,i.size,i.bytes))=some (some z,sz,dI))(hc:v.cells=cs.toArray)(dr:cs.length=sz)(hs:¬1*sz>2^24)(Ch:¬1*sz=0)(ht:Nat.blt t n=true)(h:∀bb,KO P ops d Q n D w0 ((t,.slice (some ⟨bb,0,none⟩) 1 1)::G) (bI bb (.cells cs.toArray E (0,0))::L) l):KO P ops d Q n D w0 G L ((k,⟨some t,.buildSlice T 1 #[(0,x)],ty,pos,af,none⟩)::l):=
 KO.bs hk [x] rfl (vs:=[v]) (by simp[G3,hv]) hT hi (by simp[hc,dr]) rfl hs Ch (by simp[hc]) ht h
theorem KO.bsF(hk:(!d||(k== .c7||k== .write))=true){len:Nat}{parts:Array (Nat×Operand)}(os:List Operand){vs:List Value}(hp:parts.toList=(os.zipIdx 0).map fun x=>(x.2,x.1))(hv:G3 G os=some vs)(hT:P.underlying T=some (.slice E))(hi:(P.info? E).map (fun i=>(i.zero,i.size,i.bytes))=some (some z,1,dI))(dr:vs.all (fun v=>v.cells.size==1)=true)(hlen:vs.length=len)(hs:¬len *1>2^24)(Ch:¬len *1=0)(kJ:(vs.flatMap fun v=>v.cells.toList)=vs)(ht:Nat.blt t n=true)(h:∀bb,KO P ops d Q n D w0 ((t,.slice (some ⟨bb,0,none⟩) len len)::G) (bI bb (.cells vs.toArray E (0,0))::L) l):KO P ops d Q n D w0 G L ((k,⟨some t,.buildSlice T len parts,ty,pos,af,none⟩)::l):=
 KO.bs hk os hp hv hT hi dr hlen hs Ch kJ ht h
end
open Go
inductive rW:List HP->List HP->Prop
 |refl {L:List HP}:rW L L
 |drop {A:HP} {L M:List HP}:rW L M->rW L (A::M)
theorem St.gc{w0 w:World}{L M:List HP}(h:St w0 M w)(hs:rW L M):St w0 L w:=by
 induction hs with
 |refl=>exact h
 |drop _ ih=>exact ih h.drop
theorem St.P8{w0 w:World}{A:HP}{L M:List HP}(f:∀h,gH M h->∃h1 h2,td h1 h2/\h=oA h1 h2/\gH L h2)(h:St w0 (A::M) w):St w0 (A::L) w:=by
 obtain⟨x,hx,h1,h2,d,rfl,a,b⟩:=h.own;obtain⟨g1,g2,d2,rfl,c⟩:=f h2 b;rw[ll]at d;refine {h with own:=⟨oA h1 g2,fun k o hk=>hx k o ?_,h1,g2,d.2,rfl,a,c⟩};simp only[oA]at hk ⊢;cases e1:h1 k with
 |some v=>rw[e1]at hk;simpa using hk
 |none=>
  rw[e1]at hk;simp only[Option.none_or]at hk ⊢;rcases d2 k with e|e
  ·rw[e];simpa using hk
  ·rw[e]at hk;simp at hk
theorem rW.gH{L M:List HP}(hs:rW L M):∀h,WB.gH M h->∃h1 h2,td h1 h2/\h=oA h1 h2/\WB.gH L h2:=by
 induction hs with
 |refl=>exact fun h hh=>⟨fun _=>none,h,fun _=>.inl rfl,(wI fun _=>rfl).symm,hh⟩
 |drop _ ih=>
  rintro h ⟨h1,h2,d,rfl,_,b⟩;obtain⟨g1,g2,d2,rfl,c⟩:=ih h2 b;rw[ll]at d;refine⟨oA h1 g1,g2,nt.2 ⟨d.2,d2⟩,(mQ _ _ _).symm,c⟩
theorem St.O3{w0 w:World}{A:HP}{L M:List HP}(h:St w0 (A::M) w)(hs:rW L M):St w0 (A::L) w:=h.P8 hs.gH
theorem St.O2{w0 w:World}{A B:HP}{L M:List HP}(h:St w0 (A::B::M) w)(hs:rW L M):St w0 (A::B::L) w:=((h.join).O3 hs).split
theorem St.gc3{w0 w:World}{A B C:HP}{L M:List HP}(h:St w0 (A::B::C::M) w)(hs:rW L M):St w0 (A::B::C::L) w:=((h.join).O2 hs).split
end WB
namespace Go.Proofs.YtjhogocabcdjbabGreatDoor
open Tryz
open Go Go.RowKit WB
theorem B_:(prog.info? 243).map (fun i=>(i.zero,i.size,i.bytes))=some (some (Value.agg #[.int .i64 0,.int .i64 0,.string ⟨#[]⟩,.string ⟨#[]⟩,.int .i64 0,.int .i64 0,.int .i64 0,.int .i64 0]),8,80):=by kernel_rfl
theorem qc(x:It):(lT x).all Value.oneCell'=true:=rfl
theorem Er(xs:List It):∀u∈xs.flatMap lT,u.oneCell'=true:=yP (fun e u hu=>aI.1 (qc e) u hu) xs
theorem Qd(w0:World)(L:List HP)(v:Value)(xs:List It)(x:It)(k bv:Nat)(hk:k<=xs.length)(hn:xs.length<1000000):
 KC prog 246 #[v,.int .i64 (k:Nat),.slice (some ⟨bv,0,none⟩) 1 1] w0 (IE v xs::bI bv (.cells (lT x).toArray 243 (0,0))::L) (fun v' L'=>L'=IE v' (xs.take k++x::xs.drop k)::L):=fun w h=>by
 have fin:∀{w':World} {v':Value},St w0 (ke 243 8 v' (xs.length+1) (xs.flatMap lT |>.take (k *8))::L) w'->True:=fun _=>trivial
 have e1:(xs.take k++x::xs.drop k).length=xs.length+1:=by simp;omega
 have e2:(xs.flatMap lT).take (k *8)++lT x++(xs.flatMap lT).drop (k *8)=(xs.take k++x::xs.drop k).flatMap lT:=by
  rw[lh lT 8 (fun _=>rfl) xs k hk,lj lT 8 (fun _=>rfl) xs k hk];simp
 by_cases pb:k=xs.length
 ·subst pb;refine(Gs w w0 L v xs.length (xs.flatMap lT) (lT x) bv h rfl (fun u hu=>aI.1 (qc x) u hu) hn).mono ?_;rintro e w' ⟨v',he,hs⟩;refine⟨v',_,he,rfl,?_⟩
  show St w0 (ke 243 8 v' _ _::L) w'
  rw[e1,show(xs.take xs.length++x::xs.drop xs.length).flatMap lT=xs.flatMap lT++lT x by simp];exact hs
 ·have dt:k<xs.length:=by omega
  have key:Calls prog 246 #[v,.int .i64 (k:Nat),.slice (some ⟨bv,0,none⟩) 1 1] w fun e w'=> ∃v',e=.returned v'/\St w0 (ke 243 8 v' (xs.length+1) ((xs.flatMap lT).take (k *8)++lT x++(xs.flatMap lT).drop (k *8))::L) w':=by
   obtain⟨g,cap,rfl⟩:=qw h dt;by_cases hr:xs.length+1<=cap
   ·exact Eo w w0 L g xs.length cap k _ (lT x) bv h rfl (fun u hu=>aI.1 (qc x) u hu) (Er xs) hn dt hr
   ·exact Ep w w0 L g xs.length k cap _ (lT x) bv h rfl (fun u hu=>aI.1 (qc x) u hu) (Er xs) hn dt ae
  refine key.mono ?_;rintro e w' ⟨v',he,hs⟩;refine⟨v',_,he,rfl,?_⟩
  show St w0 (ke 243 8 v' _ _::L) w'
  rw[e1,<-e2];exact hs
theorem S7(w0:World)(L:List HP)(v:Value)(xs:List It)(k:Nat)(hk:k<xs.length)(hn:xs.length<1000000):
 KC prog 151 #[v,.int .i64 (k:Nat),.int .i64 ((k:Int)+1)] w0 (IE v xs::L) (fun v' L'=>L'=IE v' (xs.eraseIdx k)::L):=by
 refine KC.pre (fun w hw=>qw hw hk) ?_;rintro⟨g,cap,rfl⟩;refine KC.pre (fun w hw=>(gp hw).2.1) fun vf=>?_
 refine KC.mk (n:=33) func151 rfl ntmps151 aj ?_;refine oX ?_;refine oZ ?_;refine zw ?_;refine KO.G8 (lo:=k) (hi:=k+1) (mx:=xs.length) rfl rfl rfl rfl underlying120 sizeOf243 rfl ae rfl ae ae ae rfl (fun q13=>?_);refine Z0 ?_;refine iX ?_;refine uK ?_;refine K.da rfl fx ?_;refine wq ?_;refine zw ?_;refine V5 ?_;refine lK ?_;refine KO.Bv rfl rfl underlying120 sizeOf243 aP ae rfl ?_;refine lK ?_;refine KO.cutFrom (lo:=k+1) rfl rfl underlying120 sizeOf243 ae ae ae rfl ?_;refine KO.move (j:=k+1) rfl rfl rfl bF.head rfl vf underlying120 B_ (fun _=>rfl) qc ae ae rfl ?_;refine lL ?_;refine Z1 ?_;refine zw ?_;refine Z1 ?_;refine KO.G7 (lo:=k+(xs.length-(k+1))) (hi:=xs.length) rfl rfl rfl underlying120 sizeOf243 rfl rfl ae ae rfl ?_;refine KO.clear rfl rfl bF.head vf fx fx underlying120 B_ (fun _=>rfl) rfl rfl ?_;refine Fi ?_;refine iW ?_;refine KQ.bB rfl rfl (fun w' hs=>⟨_,_,rfl,rfl,?_⟩);have e:(List.take (k+(xs.length-(k+1))) (List.take k xs++List.drop (k+1) xs++List.drop (k+(xs.length-(k+1))) xs))=xs.eraseIdx k:=by
  rw[List.take_append_of_le_length fx,List.take_of_length_le fx,List.eraseIdx_eq_take_drop_succ]
 rw[e]at hs;exact hs
theorem Vc(w0:World)(L:List HP)(v:Value)(xs:List It)(f:FuncId)(cp:List Value)(pf:It->Bool)(hn:xs.length<1000000)(gm:∀args w,(callFunc f args).run prog w=.ok (.enter f args) w)(qg:∀e v ys,e∈xs->KE prog f ([]++([Value.agg (lT e).toArray]++cp)).toArray w0 (IE v ys::L) (fun u L'=>u=.bool (pf e)/\L'=IE v ys::L)):
 KC prog 158 #[v,.func (.func f) [].toArray cp.toArray] w0 (IE v xs::L) (fun v' L'=>L'=IE v' (xs.filter fun e=> !pf e)::L):=by
 refine KC.pre (fun w hw=>aU hw) ?_;rintro⟨sa,cap,rfl,Ka⟩;refine KC.mk (n:=42) func158 rfl ntmps158 aj ?_;refine Hu ?_;refine KO.ce rfl rfl rfl call149 rfl (Cc w0 _ _ xs f cp pf (C6.of (fun _=>rfl) bF.head) hn gm (fun e he=>qg e _ xs he)) ?_;rintro v L' ⟨rfl,rfl⟩;refine lL ?_;refine uK ?_;refine K.br rfl (fun h=>?_) (fun h=>?_)
 ·refine Fp ?_;refine KQ.bB rfl rfl (fun w' hs=>⟨_,_,rfl,rfl,?_⟩)
  rw[bo.2 (fun a ha=>by
   have :=List.findIdx?_eq_none_iff.1 (sR (by omega :np pf xs<0)) a ha
   simp[this])]
  exact hs
 ·obtain⟨i0,e0,Ym,Km,hp0,Kg,Lj⟩:=mo (p:=pf) (l:=xs) (by unfold np at h ⊢;split at h<;>simp_all);obtain⟨g,rfl⟩:=Ka ae;refine K.fact (fun w hw=>(gp hw).2.1) fun vf=>?_
  refine wq ?_;rw[Ym];refine KO.add rfl rfl rfl ae rfl ?_;refine Z7 ?_;refine Lr ?_;refine K.loop (fun k:Nat×Nat×List It=>[(0,.slice (some ⟨g,0,none⟩) xs.length cap),(1,.func (.func f) [].toArray cp.toArray),(5,.int .i64 (k.1:Nat)),(6,.int .i64 (k.2.1:Nat))]) (fun k=>IE (.slice (some ⟨g,0,none⟩) xs.length cap) k.2.2::L)
   (fun k=>k.2.2.length=xs.length/\k.1<k.2.1/\k.2.1<=xs.length/\k.2.2.take k.1=(xs.take k.2.1).filter (fun e=> !pf e)/\k.2.2.drop k.2.1=xs.drop k.2.1) (fun k=>xs.length-k.2.1) (i0,i0+1,xs) ⟨rfl,by dsimp only;omega,by dsimp only;omega,(ja Lj).symm,rfl⟩ ⟨rfl,rfl,rfl,rfl,trivial⟩ (fun _ h=>h) ?_
  rintro⟨i,j,ys⟩ ⟨hyl,UD,SM,SD,hyd⟩;dsimp only at hyl UD SM SD hyd ⊢;refine rR ?_;refine zw ?_;refine rQ ?_;refine K.br rfl (fun h1=>?_) (fun h1=>?_)
  ·obtain⟨e,he⟩:∃e,xs[j]? =some e:=⟨xs[j],ao ae⟩;have XK:ys[j]? =some e:=by rw[<-he];have :=congrArg (fun l=>l[0]?) hyd;simpa using this
   refine K5 ?_;refine iX ?_;refine Td ?_;refine KO.vS rfl rfl isAgg243 sizeOf243 bQ (fun _=>rfl) tr rfl ?_;refine KO.alloc rfl zeroValue243 aP rfl ?_;intro b7;refine RI ?_;refine Z8 ?_;refine RM ?_;refine KO.ce rfl rfl rfl gm rfl ((qg e _ ys (ax he)).only (fun w h=>h.drop)) ?_;rintro v L' ⟨rfl,rfl⟩;refine oV ?_;refine Z2 ?_;refine K.cond rfl (fun h2=>?_) (fun h2=>?_)
   ·obtain⟨u,hu⟩:∃u,ys[i]? =some u:=⟨ys[i],ao ae⟩;refine rR ?_;refine RM ?_;refine KO.eF rfl rfl runUnderlying120 sizeOf243 rfl ae rfl ?_;refine KO.abm rfl rfl e rfl sizeOf243 qc bn (fun _=>rfl) hu ?_;refine Z2 ?_;refine VO ?_;refine Z7 ?_;refine Ti ?_;refine CV ?_;refine KQ.round (i+1,j+1,ys.set i e) ⟨by simp;omega,by dsimp only;omega,by dsimp only;omega,?_,?_⟩ gV ⟨rfl,rfl,rfl,rfl,trivial⟩ (fun _ h=>h.S5)
    ·dsimp only;rw[bG he,bU,<-SD,bG (e:=e) (by rw[List.getElem?_set_self ae])];rw[List.take_set_of_le (aF _)];simp only[bT,h2,if_true,List.filter_nil]
    ·dsimp only;rw[List.drop_set_of_lt ae];have :=congrArg (List.drop 1) hyd;simpa[List.drop_drop,Nat.add_comm]using this
   ·refine RR ?_;refine CV ?_;refine KQ.round (i,j+1,ys) ⟨hyl,by dsimp only;omega,by dsimp only;omega,?_,?_⟩ gV ⟨rfl,rfl,rfl,rfl,trivial⟩ (fun _ h=>h.drop)
    ·dsimp only;rw[bG he,bU,<-SD];simp only[bT,h2,List.filter_nil,List.append_nil,Bool.false_eq_true,if_false]
    ·dsimp only;have :=congrArg (List.drop 1) hyd;simpa[List.drop_drop,Nat.add_comm]using this
  ·have hjx:j=xs.length:=by omega
   subst hjx;have SD:ys.take i=xs.filter (fun e=> !pf e):=by rw[SD,List.take_length]
   refine Z9 ?_;refine iX ?_;refine KO.cutFrom (lo:=i) rfl rfl underlying120 sizeOf243 rfl ae ae rfl ?_;refine KO.clear rfl rfl bF.head vf hyl.symm ae underlying120 B_ (fun _=>rfl) rfl rfl ?_;refine Z0 ?_;refine iX ?_;refine KO.Bv (hi:=i) rfl rfl underlying120 sizeOf243 rfl ae rfl ?_;refine iW ?_;refine KQ.bB rfl rfl (fun w' hs=>⟨_,_,rfl,rfl,?_⟩);rw[<-SD];exact hs
theorem Iq(w0:World)(L:List HP)(a b:It)(ha:kQ a)(hb:kQ b):
 KE prog 244 #[.agg (lT a).toArray,.agg (lT b).toArray] w0 L (fun v L'=>v=.int .i64 (fV a b)/\L'=L):=by
 refine KE.mk (n:=14) func244 rfl ntmps244 aj ?_;intro w hw;refine Z3 ?_;refine KO.box rfl rfl aP rfl ?_;intro b2;refine KO.box rfl rfl aP rfl ?_;intro b3;refine lZ ?_;refine K1 ?_
 (refine KO.T6 rfl rfl isAgg44 sizeOf44 bn Y8 aP rfl ?_)
 refine K1 ?_
 (refine KO.T6 rfl rfl isAgg44 sizeOf44 bQ Y8 aP rfl ?_)
 refine KO.fw (off:=5) rfl runUnderlying243 rfl rfl sizeOf3 rfl ?_;refine zL ?_;refine KO.fw (off:=5) rfl runUnderlying243 rfl rfl sizeOf3 rfl ?_;refine s7 ?_;refine KO.ce rfl rfl rfl call245 rfl (Zj w _ a.m b.m a.line b.line ha.1 hb.1 ha.2 hb.2) ?_;rintro v L' ⟨rfl,rfl⟩;refine iW ?_;refine KQ.bB rfl rfl (fun w' hs=>⟨_,_,rfl,⟨rfl,rfl⟩,hw.aC hs.below,hs.below⟩)
theorem Vp(w0:World)(L:List HP)(v:Value)(xs:List It)(x:It)(hr:∀w,St w0 L w->C6 w 8 lT v xs)(hlen:xs.length<1000000)(hm:OL xs x)(hx:kQ x)(rY:∀e∈xs,kQ e):
 KE prog 243 #[v,.agg (lT x).toArray,.func (.func 244) #[] #[]] w0 L (fun v L'=> ∃k,H5 xs x k/\v=.tuple #[.int .i64 (k:Nat),.bool (Nc xs x k)]/\L'=L):=by
 refine KE.mk (n:=49) func243 rfl ntmps243 aj ?_;intro w hw;obtain⟨sa,cap,rfl,Ka,hc⟩:=hr w hw;refine Z3 ?_;refine KO.box rfl rfl aP rfl ?_;intro b4;refine Z7 ?_;refine lL ?_;refine zw ?_;refine lL ?_;refine lY ?_;refine N8 ?_;refine K.loop (fun k:Nat×Nat=>[(0,.slice sa xs.length cap),(2,.func (.func 244) #[] #[]),(4,.pointer (some ⟨b4,0,none⟩)),(8,.int .i64 (xs.length:Nat)),(9,.int .i64 (k.1:Nat)),(10,.int .i64 (k.2:Nat))]) (fun _=>[bI b4 (.cells (lT x).toArray 243 (0,0))])
  (fun k=>k.1<=k.2/\k.2<=xs.length/\(∀(p:Nat) (a:It),p<k.1->xs[p]? =some a->fV a x<0)/\(∀(p:Nat) (a:It),k.2<=p->xs[p]? =some a->0<=fV a x)) (fun k=>k.2-k.1) (0,xs.length)
  ⟨aV _,aF _,fun p a h=>absurd h (Nat.not_lt_zero _),fun p a h ha=>by have :=(au.1 ha).1;omega⟩ ⟨rfl,rfl,rfl,rfl,rfl,rfl,trivial⟩ (fun _ h=>h) ?_
 rintro⟨p,q⟩ ⟨OV,hq,h1,h2⟩;dsimp only at OV hq h1 h2 ⊢;refine rR ?_;refine rQ ?_;refine K.br rfl (fun h=>?_) (fun h=>?_)
 ·obtain⟨g,rfl⟩:=Ka ae;have vZ:((p:Int)+(q:Int))/2=(((p+q)/2:Nat):Int):=by omega
  obtain⟨e,he⟩:∃e,xs[(p+q)/2]? =some e:=⟨xs[(p+q)/2],ao ae⟩;refine K5 ?_;refine iX ?_;refine xc ?_;refine KO.i2u rfl (by rw[underlying3];rfl) underlying73 ae rfl ?_;refine KO.abo rfl rfl rfl rfl ?_;refine KO.u2i rfl (by rw[underlying73];rfl) underlying3 ae rfl ?_;refine kE ?_;rw[vZ];refine K.draw [.pure,.pure,.pure,.pure,.read,.read,.write,.pure] [0,1,2,3,4,5,6,7] bC bC ?_;refine oZ ?_;refine Td ?_;refine KO.JX (cs:=(lT e).toArray) rfl rfl isAgg243 sizeOf243 rfl (hc g rfl _ e he) rfl ?_;refine RM ?_;refine KO.ce rfl rfl rfl call244 rfl (Iq w _ e x (rY e (ax he)) hx) ?_;rintro v L' ⟨rfl,rfl⟩;refine rQ ?_;refine K.br rfl (fun h3=>?_) (fun h3=>?_)
  ·(skip)
   refine VO ?_;refine Z7 ?_;refine Ad ?_;refine KQ.round ((p+q)/2+1,q) ⟨by dsimp only;omega,hq,fun r a hr ha=>hm r _ a e ae ha he h3,h2⟩ gV ⟨rfl,rfl,rfl,rfl,rfl,rfl,trivial⟩ (fun _ h=>h)
  ·(skip)
   refine Z8 ?_;refine Z7 ?_;refine Ad ?_;refine KQ.round (p,(p+q)/2) ⟨by dsimp only;omega,by dsimp only;omega,h1,fun r a hr ha=>Int.not_lt.1 fun hl=>h3 (hm _ r e a hr he ha hl)⟩ gV ⟨rfl,rfl,rfl,rfl,rfl,rfl,trivial⟩ (fun _ h=>h)
 ·obtain rfl:p=q:=by omega
  by_cases dt:p<xs.length
  ·obtain⟨g,rfl⟩:=Ka ae;obtain⟨e,he⟩:∃e,xs[p]? =some e:=⟨xs[p],ao ae⟩;refine Z9 ?_;refine ZO ?_;refine wk ?_;refine s9 ?_;refine s9 ?_;refine Td ?_;refine KO.on rfl rfl fx ?_;refine KO.JX (cs:=(lT e).toArray) rfl rfl isAgg243 sizeOf243 rfl (hc g rfl _ e he) rfl ?_;refine kF ?_;refine RM ?_;refine KO.on rfl rfl fx ?_;refine KO.ce rfl rfl rfl call244 rfl (Iq w _ e x (rY e (ax he)) hx) ?_;rintro v L' ⟨rfl,rfl⟩;refine kF ?_;refine Jb ?_;refine qY ?_;refine pO ?_;refine KQ.eE rfl rfl rfl (fun w' hs=>⟨_,_,rfl,⟨p,⟨hq,h1,h2⟩,?_,rfl⟩,hw.aC hs.below,hs.below⟩);simp[Nc,he]
  ·refine Z9 ?_;refine ZO ?_;refine wk ?_;refine Fo ?_;refine Tg ?_;refine wi ?_;refine pO ?_;refine KQ.eE rfl rfl rfl (fun w' hs=>⟨_,_,rfl,⟨p,⟨hq,h1,h2⟩,?_,rfl⟩,hw.aC hs.below,hs.below⟩);have :xs[p]? =none:=bH ae;simp[Nc,this,dt]
abbrev Xz (b:Nat) (v:Value) (next:Int):HP:=bI b (.cells [v,.int .i64 next].toArray 122 (0,0))
def iP (b:Nat) (q:Qu):HP:=ex fun v=>sep (Xz b v q.next) (IE v q.l)
theorem jh{w0 w:World}{b:Nat}{q:Qu}{L:List HP}(h:St w0 (iP b q::L) w):∃v,St w0 (Xz b v q.next::IE v q.l::L) w:=by
 obtain⟨v,h⟩:=h.Bp;exact⟨v,h.split⟩
theorem jG{w0 w:World}{b:Nat}{l:List It}{next:Int}{v:Value}{L:List HP}(h:St w0 (Xz b v next::IE v l::L) w):St w0 (iP b ⟨l,next⟩::L) w:=St.zZ (F:=fun v=>sep (Xz b v next) (IE v l)) v h.join
theorem B1(w0:World)(L:List HP)(b:Nat)(q:Qu)(m:Ms)(u:Int)(hq:OI q)(hm:small m.pri):
 KC prog 147 #[.pointer (some ⟨b,0,none⟩),.agg (dh m).toArray,.int .i64 u] w0 (iP b q::L) (fun v L'=>v=.tuple #[]/\L'=iP b (cP q m u)::L):=by
 have hx:kQ (cU q m u):=⟨hm,by have :=hq.next;unfold cU small;dsimp only;omega⟩;have hk:=Az q.l (cU q m u);have h1:=hq.next
 have h2:=hq.len;refine KC.mk (n:=44) func147 rfl ntmps147 aj ?_;refine oW ?_;refine K.cq (fun _ h=>jh h) fun v=>?_
 refine dM ?_;refine KO.box rfl rfl aP rfl ?_;intro b4;refine Z0 ?_;refine K.draw [.read,.pure,.pure,.pure,.read,.pure,.pure,.pure,.c7,.write] [0,1,2,3,4,5,6,7,8,9] bC bC ?_;refine CZ ?_;refine lq ?_;refine VJ ?_;refine zL ?_;refine Z1 ?_;refine KO.max2 rfl rfl rfl rfl ?_;refine KO.Vq (pl:=[(0,5),(5,1),(6,1),(7,1)]) (lT (cU q m u)) rfl zeroValue243 runUnderlying243 (by intro w;simp[sizeOf3,sizeOf44]) rfl rfl ?_;refine KO.alloc rfl zeroValue243 aP rfl ?_;intro b6;refine RI ?_;refine kX ?_;refine VJ ?_;refine zL ?_;refine Ht ?_;refine VJ ?_
 (refine KO.Jo rfl rfl rfl aP zM aP bn aP Y0 ?_)
 refine Z0 ?_;refine K.draw [.pure,.pure,.pure,.read,.read,.write,.pure,.pure,.pure,.pure,.pure] [0,1,2,3,4,5,6,7,8,9,10] bC bC ?_;refine lq ?_;refine RL ?_;refine KO.vT rfl rfl isAgg243 sizeOf243 bn aP rfl ?_;refine KO.ce rfl rfl rfl call243 rfl (Vp w0 _ v q.l (cU q m u) (C6.of (fun _=>rfl) bn) ae (hq.mono m u) hx hq.small) ?_;rintro v30 L' ⟨k,hsr,rfl,rfl⟩;obtain rfl:=AA hsr;refine N6 ?_;refine qE ?_;refine K.draw [.pure,.pure,.pure,.pure,.read,.pure,.read,.c7,.write,.pure,.pure,.write] [0,1,2,3,4,5,6,7,8,9,10,11] bC bC ?_;refine rP ?_;refine RL ?_;refine Z1 ?_;refine KO.vT rfl rfl isAgg243 sizeOf243 bn aP rfl ?_;refine KO.kL (z:=(Value.agg #[.int .i64 0,.int .i64 0,.string ⟨#[]⟩,.string ⟨#[]⟩,.int .i64 0,.int .i64 0,.int .i64 0,.int .i64 0])) (sz:=8) (dI:=80) rfl rfl underlying120 bC aP aP ai ai rfl ?_;intro b40;refine KO.cl rfl rfl rfl call246 rfl (KC.Mc bn bQ (Qd w0 _ v q.l (cU q m u) _ _ hk ae)) ?_;rintro v' L' rfl;refine KO.fact (fun _ hs=>aU hs) ?_;rintro⟨a',c',rfl,-⟩;refine kr ?_;refine Vy ?_
 (refine KO.Jo rfl rfl rfl aP Y38 aP bn aP Y0 ?_)
 refine KO.nil ?_;refine KQ.jr rfl (fun w' hs=>⟨_,_,rfl,⟨rfl,rfl⟩,?_⟩);exact jG ((hs.fA bQ bQ).O2 Dl)
theorem TY(w0:World)(L R:List HP)(b:Nat)(q:Qu)(hp:bF L (iP b q) R):
 KE prog 192 #[.pointer (some ⟨b,0,none⟩)] w0 L (fun v L'=>v=.int .i64 (q.l.length:Nat)/\L'=L):=by
 refine KE.mk (n:=8) func192 rfl ntmps192 aj ?_;intro w oF;obtain⟨v,hw⟩:=jh (oF.pick hp);obtain⟨sa,cap,rfl,Ka⟩:=aU hw.drop;refine oX ?_;refine kr ?_;refine RN ?_;refine zw ?_;refine iW ?_;refine KQ.bB rfl rfl (fun w' hs=>⟨_,_,rfl,⟨rfl,rfl⟩,oF.aC hs.below,hs.below⟩)
theorem UT(w0:World)(L R:List HP)(e:It)(b:Nat)(id:Int)(E:TypeId)(hp:bF L (bI b (.cells [Value.int .i64 id].toArray E (0,0))) R):
 KE prog 242 #[.agg (lT e).toArray,.pointer (some ⟨b,0,none⟩)] w0 L (fun v L'=>v=.bool (IF id e)/\L'=L):=by
 refine KE.mk (n:=9) func242 rfl ntmps242 aj ?_;intro w hw;have hw:=hw.pick hp;refine Z3 ?_;refine KO.box rfl rfl aP rfl ?_;intro b2;refine lZ ?_;refine K1 ?_;refine HU ?_;refine VF ?_;refine iW ?_;refine KQ.bB rfl rfl (fun w' hs=>⟨_,_,rfl,⟨rfl,rfl⟩,(hw.xA hp).aC hs.below,hs.below⟩)
theorem SY(w0:World)(L R:List HP)(b:Nat)(q:Qu)(id:Int)(hp:bF L (iP b q) R)(hq:q.l.length<900000):
 KE prog 146 #[.pointer (some ⟨b,0,none⟩),.int .i64 id] w0 L (fun v L'=>v=.bool (vM q id)/\L'=L):=by
 refine KE.mk (n:=11) func146 rfl ntmps146 aj ?_;intro w oF;obtain⟨v,hw⟩:=jh (oF.pick hp);refine Z3 ?_;refine KO.box rfl rfl aP rfl ?_;intro b3;refine uN ?_;refine RN ?_;refine KO.Ww rfl rfl rfl ?_;refine KO.ce rfl rfl rfl call241 rfl (Vg w _ v q.l 242 [.pointer (some ⟨b3,0,none⟩)] (IF id) (C6.of (E:=243) (sz:=8) (cf:=lT) (fun _=>rfl) bF.head w hw.drop).base ae call242 (fun e _=>UT _ _ _ e b3 id _ bQ)) ?_;rintro v L' ⟨rfl,rfl⟩;refine iW ?_;refine KQ.bB rfl rfl (fun w' hs=>⟨_,_,rfl,⟨rfl,rfl⟩,oF.aC hs.below,hs.below⟩)
end Go.Proofs.YtjhogocabcdjbabGreatDoor
namespace WB
open Go Go.RowKit
section
variable {P:Program} {fn:Func} {R:Ending->World->Prop} {n:Nat} {w0:World} {G:Env} {L M:List HP} {v v1 v2 v3:Value} {t t1 t2 t3:Nat} {T E:TypeId} {b:Nat} {cs:List Value} {fz:Nat×Nat}
theorem abt(h1:cQ G t1=some (.pointer (some ⟨b,0,none⟩)))(hT:∀w,(isAgg T).run P w=.ok true w)(hn:∀w,(Go.sizeOf T).run P w=.ok cs.length w)(hp:bF L (bI b (.cells cs.toArray E fz)) M)(a:Act)(w:World)(ha:cE n [] G a)(hw:St w0 L w):
 (loadVar T ⟨b,0,none⟩).run P w=.ok (.agg cs.toArray) w:=by
 refine nW (hT w) (hn w) fun j c hj=>?_
 rw[Addr.add_lit,World.cell?,(hw.oD hp).2];simpa using hj
theorem KQ.jf(hr:fn.results=#[.cell t1 T,.tmp t2])(h1:cQ G t1=some (.pointer (some ⟨b,0,none⟩)))(hT:∀w,(isAgg T).run P w=.ok true w)(hp:bF L (bI b (.cells cs.toArray E fz)) M)(hn:∀w,(Go.sizeOf T).run P w=.ok cs.length w)(h2:cQ G t2=some v2)(h:∀w,St w0 L w->R (.returned (.tuple #[.agg cs.toArray,v2])) w):KQ (bodyPost P fn R) .ret n [] w0 G L:=
 KQ.fin (fun a w ha hw=>by
  have hl:=abt (P:=P) h1 hT hn hp a w ha hw
  simp[results,hr,Array.getD_eq_getD_getElem?,ha.get _ _ h1,ha.get _ _ h2,asAddr,hl]) h
end
theorem St.stack{w0 w w':World}{L M:List HP}(hw:St w0 L w)(hs:St w M w'):St w0 (M++L) w':=by
 refine⟨hs.os.trans hw.os,hs.tape.trans hw.tape,hs.output.trans hw.output,Nat.le_trans hw.size hs.size,fun k hk=>?_,?_⟩
 ·rw[hs.block k (Nat.lt_of_lt_of_le hk hw.size)];exact hw.block k hk
 ·obtain⟨h1,hh1,s1⟩:=hw.own;obtain⟨h2,Yn,s2⟩:=hs.own;have dt:∀k o,h1 k=some o->k<w.heap.size:=fun k o hk=>(Array.getElem?_eq_some_iff.1 (hh1 k o hk).2).1
  refine⟨oA h2 h1,fun k o hk=>?_,dJ.2 ⟨h2,h1,fun k=>?_,rfl,s2,s1⟩⟩
  ·simp only[oA]at hk;cases e2:h2 k with
   |some v=>
    rw[e2]at hk;simp only[Option.some_or,az]at hk;subst hk;exact⟨Nat.le_trans hw.size (Yn k v e2).1,(Yn k v e2).2⟩
   |none=>
    rw[e2]at hk;simp only[Option.none_or]at hk;exact⟨(hh1 k o hk).1,by rw[hs.block k (dt k o hk)];exact(hh1 k o hk).2⟩
  ·cases e1:h1 k with
   |none=>exact .inr rfl
   |some o=>
    left;cases e2:h2 k with
    |none=>rfl
    |some v=>have h3:=(Yn k v e2).1;have h4:=dt k o e1;omega
theorem cD{w0 w:World}{L:List HP}{α:Type}{E:TypeId}{sz:Nat}{cf:α->List Value}(h:St w0 L w):St w0 (SL E sz cf (.slice none 0 0) ([]:List α)::L) w:=h.B4
end WB
namespace Go.Proofs.YtjhogocabcdjbabGreatDoor
open Tryz
open Go Go.RowKit WB
theorem LM(w0:World)(L:List HP)(b:Nat)(q:Qu)(id:Int)(hq:q.l.length<900000):
 KC prog 161 #[.pointer (some ⟨b,0,none⟩),.int .i64 id] w0 (iP b q::L) (fun v L'=>v=.tuple #[.agg (dh (nZ q id)).toArray,cI 70 (jH q id)]/\L'=iP b (eM q id)::L):=by
 refine KC.mk (n:=38) func161 rfl ntmps161 aj ?_;refine oW ?_;refine K.cq (fun _ h=>jh h) fun v=>?_
 refine dM ?_;refine KO.box rfl rfl aP rfl ?_;intro b3;refine KO.alloc rfl zeroValue44 aP rfl ?_;intro b4;refine uN ?_;refine C3 ?_;refine KO.Ww rfl rfl rfl ?_;refine KO.ce rfl rfl rfl call149 rfl (Cc w0 _ v q.l 252 [.pointer (some ⟨b3,0,none⟩)] (IF id) (C6.of (fun _=>rfl) bn) ae call252 (fun e _=>Pv w0 _ _ e b3 id _ bn)) ?_;rintro v12 L' ⟨rfl,rfl⟩;refine lL ?_;refine rQ ?_;refine K.br rfl (fun h=>?_) (fun h=>?_)
 ·have hn:my q id=none:=sR h;refine Hr ?_;refine Jc ?_;refine qX ?_;refine KQ.jf rfl rfl isAgg44 bQ Jd rfl (fun w' hs=>⟨_,_,rfl,⟨?_,rfl⟩,?_⟩)
  ·simp only[nZ,jH,hn];rfl
  ·rw[show eM q id=q by simp only[eM,hn]];exact jG ((hs.fA bn bn).O2 Dl)
 ·obtain⟨i0,e0,Ym,Km,hp0,Kg,Lj⟩:=mo (Int.not_lt.1 h);have hn:my q id=some i0:=Lj;refine K.fact (fun w hw=>qw (hw.pick bn) Kg) ?_;rintro⟨g,cap,rfl⟩;rw[Ym];refine Z6 ?_;refine kX ?_;refine C3 ?_;refine Z1 ?_;refine Td ?_;refine KO.fo (off:=0) rfl runUnderlying243 rfl rfl sizeOf44 rfl ?_
  (refine KO.XG rfl rfl isAgg44 sizeOf44 bn (fun _=>rfl) tr Y8 aP rfl ?_)
  refine KO.alloc rfl zeroValue44 aP rfl ?_;intro b7;refine zn ?_;refine nD ?_;refine C3 ?_;refine lK ?_;refine xc ?_;refine KO.cl rfl rfl rfl call151 rfl (KC.oN bn (S7 w0 _ _ q.l i0 Kg ae)) ?_;rintro v' L' rfl;refine KO.fact (fun _ hs=>aU hs) ?_;rintro⟨a',c',rfl,-⟩;refine kr ?_;refine Vy ?_
  (refine KO.Jo rfl rfl rfl aP Y38 aP bn aP Y0 ?_)
  refine wA ?_;refine Al ?_;refine KZ ?_;refine iW ?_;refine KQ.jf rfl rfl isAgg44 bQ Jd rfl (fun w' hs=>⟨_,_,rfl,⟨?_,rfl⟩,?_⟩)
  ·simp only[nZ,jH,hn,iE Km];rfl
  ·rw[show eM q id=⟨q.l.eraseIdx i0,q.next⟩by simp only[eM,hn]];exact jG ((hs.fA bn bn).O2 Dl)
theorem YX(w0:World)(L:List HP)(b:Nat)(q:Qu)(u:Int)(hq:q.l.length<900000):
 KC prog 58 #[.pointer (some ⟨b,0,none⟩),.int .i64 u] w0 (iP b q::L) (fun v L'=>v=.tuple #[.agg (dh (gI q)).toArray,cI 70 (hI q)]/\L'=iP b (fT q u)::L):=by
 refine KC.mk (n:=47) func58 rfl ntmps58 aj ?_;refine oW ?_;refine K.cq (fun _ h=>jh h) fun v=>?_
 refine dM ?_;refine KO.alloc rfl zeroValue44 aP rfl ?_;intro b4;refine uN ?_;refine C3 ?_;refine KO.ce (cp:=[]) rfl rfl rfl call149 rfl (Cc w0 _ v q.l 150 [] cC (C6.of (fun _=>rfl) bn) ae call150 (fun e _=>U7 w0 _ e)) ?_;rintro v12 L' ⟨rfl,rfl⟩;refine lL ?_;refine rQ ?_;refine K.br rfl (fun h=>?_) (fun h=>?_)
 ·have hn:oB q=none:=sR h;refine Hr ?_;refine Jc ?_;refine qX ?_;refine KQ.jf rfl rfl isAgg44 bQ Jd rfl (fun w' hs=>⟨_,_,rfl,⟨?_,rfl⟩,?_⟩)
  ·simp only[gI,hI,hn];rfl
  ·rw[show fT q u=q by simp only[fT,hn]];exact jG ((hs.fA bn bn).O2 Dl)
 ·obtain⟨i0,e0,Ym,Km,hp0,Kg,Lj⟩:=mo (Int.not_lt.1 h);have hn:oB q=some i0:=Lj;refine K.fact (fun w hw=>qw (hw.pick bn) Kg) ?_;rintro⟨g,cap,rfl⟩;rw[Ym];refine Z6 ?_;refine kX ?_;refine C3 ?_;refine Z1 ?_;refine Td ?_;refine KO.fo (off:=0) rfl runUnderlying243 rfl rfl sizeOf44 rfl ?_
  (refine KO.XG rfl rfl isAgg44 sizeOf44 bn (fun _=>rfl) tr Y8 aP rfl ?_)
  refine KO.alloc rfl zeroValue44 aP rfl ?_;intro b7;refine zn ?_;refine wD ?_;refine Z2 ?_;refine K.br rfl (fun h2=>?_) (fun h2=>?_)
  ·(skip)
   refine nD ?_;refine C3 ?_;refine lK ?_;refine xc ?_;refine KO.cl rfl rfl rfl call151 rfl (KC.oN bn (S7 w0 _ _ q.l i0 Kg ae)) ?_;rintro v' L' rfl;refine KO.fact (fun _ hs=>aU hs) ?_;rintro⟨a',c',rfl,-⟩;refine kr ?_;refine Vy ?_
   (refine KO.Jo rfl rfl rfl aP Y38 aP bn aP Y0 ?_)
   refine wA ?_;refine Al ?_;refine KZ ?_;refine iW ?_;refine KQ.jf rfl rfl isAgg44 bQ Jd rfl (fun w' hs=>⟨_,_,rfl,⟨?_,rfl⟩,?_⟩)
   ·simp only[gI,hI,hn,iE Km];rfl
   ·rw[show fT q u=⟨q.l.eraseIdx i0,q.next⟩by simp only[fT,hn,h2,if_true]];exact jG ((hs.fA bn bn).O2 Dl)
  ·(skip)
   refine kX ?_;refine C3 ?_;refine lK ?_;refine Td ?_;refine Oj ?_;refine KO.Xq rfl rfl rfl aP zM aP bn (fun _=>rfl) Km rfl {e0 with ft:=u} rfl ?_;refine wA ?_;refine Al ?_;refine KZ ?_;refine iW ?_;refine KQ.jf rfl rfl isAgg44 bQ Jd rfl (fun w' hs=>⟨_,_,rfl,⟨?_,rfl⟩,?_⟩)
   ·simp only[gI,hI,hn,iE Km];rfl
   ·rw[show fT q u=⟨q.l.set i0 {e0 with ft:=u},q.next⟩by simp only[fT,hn,h2,if_false,iE Km]];exact jG ((hs.fA bn bn).O2 Dl)
abbrev JS (v:Value) (xs:List Ms):HP:=SL 44 5 dh v xs
theorem Ix:(prog.info? 44).map (fun i=>(i.zero,i.size,i.bytes))=some (some (Value.agg #[.int .i64 0,.int .i64 0,.string ⟨#[]⟩,.string ⟨#[]⟩,.int .i64 0]),5,56):=by kernel_rfl
theorem Ij(w0:World)(L R:List HP)(b:Nat)(q:Qu)(hp:bF L (iP b q) R)(hq:q.l.length<900000):
 KE prog 80 #[.pointer (some ⟨b,0,none⟩)] w0 L (fun v L'=>L'=JS v (dK q)::L):=by
 refine KE.mk (n:=30) func80 rfl ntmps80 aj ?_;intro w oF;obtain⟨v,hw⟩:=jh (oF.pick hp);obtain⟨sa,cap,rfl,Ka,hc⟩:=C6.of (E:=243) (sz:=8) (cf:=lT) (fun _=>rfl) bF.head w hw.drop;refine Z3 ?_;refine lZ ?_;refine uN ?_;refine RN ?_;refine zw ?_;refine mK ?_;refine K.loop (fun k:Nat×Value=>[(3,k.2),(9,.slice sa q.l.length cap),(10,.int .i64 (q.l.length:Nat)),(11,.int .i64 (k.1:Nat))]) (fun k=>[JS k.2 (((q.l.take k.1).filter cC).map (·.m))]) (fun k=>k.1<=q.l.length) (fun k=>q.l.length-k.1) (0,.slice none 0 0)
  (aV _) ⟨rfl,rfl,rfl,rfl,trivial⟩ (fun _ h=>cD h) ?_
 rintro⟨k,vo⟩ hk;dsimp only at hk ⊢;refine hF ?_;refine K.br rfl (fun h=>?_) (fun h=>?_)
 ·obtain⟨g,rfl⟩:=Ka ae;obtain⟨e,he⟩:∃e,q.l[k]? =some e:=⟨q.l[k],ao ae⟩;have hlen:(((q.l.take k).filter cC).map (·.m)).length<900000:=by
   have :=List.length_filter_le cC (q.l.take k);simp at this ⊢;omega
  have dw:((q.l.take (k+1)).filter cC).map (·.m)=((q.l.take k).filter cC).map (·.m)++(if cC e=true then[e.m]else[]):=by
   rw[bG he,bU];by_cases ha:cC e=true<;>simp[ha]
  refine oY ?_;refine V4 ?_;refine KO.alloc rfl zeroValue243 aP rfl ?_;intro b5;refine RI ?_;by_cases h1:e.put<0
  ·refine Xc ?_;refine Fq ?_;refine FB ?_;refine pS ?_;refine wk ?_;refine HH ?_;refine K.br rfl (fun h2=>?_) (fun h2=>?_)
   ·rw[if_pos (by simp[cC,h1,h2])]at dw;refine Z8 ?_;refine K1 ?_
    (refine KO.T6 rfl rfl isAgg44 sizeOf44 bQ Y8 aP rfl ?_)
    refine KO.kL (z:=(Value.agg #[.int .i64 0,.int .i64 0,.string ⟨#[]⟩,.string ⟨#[]⟩,.int .i64 0])) (sz:=5) (dI:=56) rfl rfl underlying49 bC aP aP ai ai rfl ?_;intro Vs;refine KO.app (z:=Value.agg #[.int .i64 0,.int .i64 0,.string ⟨#[]⟩,.string ⟨#[]⟩,.int .i64 0]) (sz:=5) (dI:=56) rfl rfl rfl bn bQ underlying49 Ix rfl e.m aP aP aP ae ai rfl ?_;intro v';refine uM ?_;refine KQ.round (k+1,v') gV gV ⟨rfl,rfl,rfl,rfl,trivial⟩ (fun _ h=>?_);dsimp only;rw[dw];exact(h.pick bQ).O3 Dl
   ·rw[if_neg (by simp[cC,h2]),List.append_nil]at dw;refine qF ?_;refine KQ.round (k+1,vo) gV gV ⟨rfl,rfl,rfl,rfl,trivial⟩ (fun _ h=>?_);dsimp only;rw[dw];exact(h.pick bn).O3 Dl
  ·rw[if_neg (by simp[cC,h1]),List.append_nil]at dw;refine Xc ?_;refine RJ ?_;refine Hz ?_;refine Hj ?_;refine qF ?_;refine KQ.round (k+1,vo) gV gV ⟨rfl,rfl,rfl,rfl,trivial⟩ (fun _ h=>?_);dsimp only;rw[dw];exact(h.pick bn).O3 Dl
 ·have ru:k=q.l.length:=by omega
  refine wo ?_;refine iW ?_;refine KQ.bB rfl rfl (fun w' hs=>⟨_,_,rfl,rfl,?_,hs.below⟩);rw[ru,List.take_length]at hs;exact oF.stack hs
theorem Gq(w0:World)(L R:List HP)(b:Nat)(q:Qu)(hp:bF L (iP b q) R)(hq:q.l.length<900000):
 KE prog 67 #[.pointer (some ⟨b,0,none⟩)] w0 L (fun v L'=>L'=JS v (cT q)::L):=by
 refine KE.mk (n:=25) func67 rfl ntmps67 aj ?_;intro w oF;obtain⟨v,hw⟩:=jh (oF.pick hp);obtain⟨sa,cap,rfl,Ka,hc⟩:=C6.of (E:=243) (sz:=8) (cf:=lT) (fun _=>rfl) bF.head w hw.drop;refine Z3 ?_;refine lZ ?_;refine uN ?_;refine RN ?_;refine zw ?_;refine mK ?_;refine K.loop (fun k:Nat×Value=>[(3,k.2),(9,.slice sa q.l.length cap),(10,.int .i64 (q.l.length:Nat)),(11,.int .i64 (k.1:Nat))]) (fun k=>[JS k.2 (((q.l.take k.1).filter fun e=>decide (e.put<0)).map (·.m))]) (fun k=>k.1<=q.l.length) (fun k=>q.l.length-k.1) (0,.slice none 0 0)
  (aV _) ⟨rfl,rfl,rfl,rfl,trivial⟩ (fun _ h=>cD h) ?_
 rintro⟨k,vo⟩ hk;dsimp only at hk ⊢;refine hF ?_;refine K.br rfl (fun h=>?_) (fun h=>?_)
 ·obtain⟨g,rfl⟩:=Ka ae;obtain⟨e,he⟩:∃e,q.l[k]? =some e:=⟨q.l[k],ao ae⟩;have hlen:(((q.l.take k).filter fun e=>decide (e.put<0)).map (·.m)).length<900000:=by
   have :=List.length_filter_le (fun e:It=>decide (e.put<0)) (q.l.take k);simp at this ⊢;omega
  have dw:((q.l.take (k+1)).filter fun e=>decide (e.put<0)).map (·.m)=((q.l.take k).filter fun e=>decide (e.put<0)).map (·.m)++(if e.put<0 then[e.m]else[]):=by
   rw[bG he,bU];by_cases ha:e.put<0<;>simp[ha]
  refine oY ?_;refine V4 ?_;refine KO.alloc rfl zeroValue243 aP rfl ?_;intro b5;refine RI ?_;refine Xc ?_;refine s7 ?_;refine rQ ?_;refine K.br rfl (fun h2=>?_) (fun h2=>?_)
  ·rw[if_pos h2]at dw;refine Z8 ?_;refine K1 ?_
   (refine KO.T6 rfl rfl isAgg44 sizeOf44 bQ Y8 aP rfl ?_)
   refine KO.kL (z:=(Value.agg #[.int .i64 0,.int .i64 0,.string ⟨#[]⟩,.string ⟨#[]⟩,.int .i64 0])) (sz:=5) (dI:=56) rfl rfl underlying49 bC aP aP ai ai rfl ?_;intro b21;refine KO.app (z:=Value.agg #[.int .i64 0,.int .i64 0,.string ⟨#[]⟩,.string ⟨#[]⟩,.int .i64 0]) (sz:=5) (dI:=56) rfl rfl rfl bn bQ underlying49 Ix rfl e.m aP aP aP ae ai rfl ?_;intro v';refine uM ?_;refine KQ.round (k+1,v') gV gV ⟨rfl,rfl,rfl,rfl,trivial⟩ (fun _ h=>?_);dsimp only;rw[dw];exact(h.pick bQ).O3 Dl
  ·rw[if_neg h2,List.append_nil]at dw;refine qF ?_;refine KQ.round (k+1,vo) gV gV ⟨rfl,rfl,rfl,rfl,trivial⟩ (fun _ h=>?_);dsimp only;rw[dw];exact(h.pick bn).O3 Dl
 ·have ru:k=q.l.length:=by omega
  refine wo ?_;refine iW ?_;refine KQ.bB rfl rfl (fun w' hs=>⟨_,_,rfl,rfl,?_,hs.below⟩);rw[ru,List.take_length]at hs;exact oF.stack hs
theorem Rm(w0:World)(L R1 R2:List HP)(e:It)(b1 b2:Nat)(u:Int)(back:Bool)(E1 E2:TypeId)(mH:bF L (bI b1 (.cells [Value.int .i64 u].toArray E1 (0,0))) R1)(kB:bF L (bI b2 (.cells [Value.bool back].toArray E2 (0,0))) R2):
 KE prog 159 #[.agg (lT e).toArray,.pointer (some ⟨b1,0,none⟩),.pointer (some ⟨b2,0,none⟩)] w0 L (fun v L'=>v=.bool (nq u back e)/\L'=L):=by
 refine KE.mk (n:=22) func159 rfl ntmps159 aj ?_;intro w oF;have c1:w.cell? ⟨b1,0,none⟩=some (.int .i64 u):=by rw[World.cell?,(oF.oD mH).2];rfl
 have c2:w.cell? ⟨b2,0,none⟩=some (.bool back):=by rw[World.cell?,(oF.oD kB).2];rfl
 refine Z3 ?_;refine KO.box rfl rfl aP rfl ?_;intro b3;refine kE ?_;by_cases h1:e.put=u
 all_goals cases back
 all_goals by_cases h2:e.ft=u
 ·refine N_ ?_;refine KO.on rfl rfl Dj ?_;refine KO.qM rfl rfl isAgg4 c2 rfl ?_;refine qY ?_;refine Ov ?_;refine FB ?_;refine Hq ?_;refine KO.on rfl rfl rfl ?_;refine KO.qM rfl rfl isAgg3 c1 rfl ?_;refine Ah ?_;refine CO ?_;refine KO.on rfl rfl (by simp[h2]) ?_;refine KO.qM rfl rfl isAgg4 c2 rfl ?_;refine kF ?_;refine oV ?_;refine qu ?_;refine KO.sq rfl ?_ rfl rfl ?_
  (focus(simp only[decide_eq_true_eq,decide_eq_false_iff_not,Bool.not_eq_true,Bool.not_true,Bool.not_false,ne_eq];omega))
  refine Hp ?_;refine KQ.bB rfl rfl (fun w' hs=>⟨_,_,rfl,⟨?_,rfl⟩,oF.aC hs.below,hs.below⟩);simp[nq,h1,h2]
 ·refine N_ ?_;refine KO.on rfl rfl Dj ?_;refine KO.qM rfl rfl isAgg4 c2 rfl ?_;refine qY ?_;refine Ov ?_;refine FB ?_;refine Hq ?_;refine KO.on rfl rfl rfl ?_;refine KO.qM rfl rfl isAgg3 c1 rfl ?_;refine Ah ?_;refine qu ?_;refine zx ?_;refine qu ?_;refine KO.mc rfl ?_ rfl rfl ?_
  (focus(simp only[decide_eq_true_eq,decide_eq_false_iff_not,Bool.not_eq_true,Bool.not_true,Bool.not_false,ne_eq];omega))
  refine Hp ?_;refine KQ.bB rfl rfl (fun w' hs=>⟨_,_,rfl,⟨?_,rfl⟩,oF.aC hs.below,hs.below⟩);simp[nq,h1,h2]
 ·refine N_ ?_;refine KO.on rfl rfl Dj ?_;refine KO.qM rfl rfl isAgg4 c2 rfl ?_;refine qY ?_;refine xa ?_;refine Tf ?_;refine RG ?_;refine wj ?_;refine iW ?_;refine KQ.bB rfl rfl (fun w' hs=>⟨_,_,rfl,⟨?_,rfl⟩,oF.aC hs.below,hs.below⟩);simp[nq,h1]
 ·refine N_ ?_;refine KO.on rfl rfl Dj ?_;refine KO.qM rfl rfl isAgg4 c2 rfl ?_;refine qY ?_;refine xa ?_;refine Tf ?_;refine RG ?_;refine wj ?_;refine iW ?_;refine KQ.bB rfl rfl (fun w' hs=>⟨_,_,rfl,⟨?_,rfl⟩,oF.aC hs.below,hs.below⟩);simp[nq,h1]
 ·refine RF ?_;refine wi ?_;refine Ov ?_;refine FB ?_;refine Hq ?_;refine KO.on rfl rfl rfl ?_;refine KO.qM rfl rfl isAgg3 c1 rfl ?_;refine Ah ?_;refine CO ?_;refine KO.on rfl rfl (by simp[h2]) ?_;refine KO.qM rfl rfl isAgg4 c2 rfl ?_;refine kF ?_;refine oV ?_;refine qu ?_;refine KO.sq rfl ?_ rfl rfl ?_
  (focus(simp only[decide_eq_true_eq,decide_eq_false_iff_not,Bool.not_eq_true,Bool.not_true,Bool.not_false,ne_eq];omega))
  refine Hp ?_;refine KQ.bB rfl rfl (fun w' hs=>⟨_,_,rfl,⟨?_,rfl⟩,oF.aC hs.below,hs.below⟩);simp[nq,h1,h2]
 ·refine RF ?_;refine wi ?_;refine Ov ?_;refine FB ?_;refine Hq ?_;refine KO.on rfl rfl rfl ?_;refine KO.qM rfl rfl isAgg3 c1 rfl ?_;refine Ah ?_;refine qu ?_;refine zx ?_;refine qu ?_;refine KO.mc rfl ?_ rfl rfl ?_
  (focus(simp only[decide_eq_true_eq,decide_eq_false_iff_not,Bool.not_eq_true,Bool.not_true,Bool.not_false,ne_eq];omega))
  refine Hp ?_;refine KQ.bB rfl rfl (fun w' hs=>⟨_,_,rfl,⟨?_,rfl⟩,oF.aC hs.below,hs.below⟩);simp[nq,h1,h2]
 ·refine RF ?_;refine wi ?_;refine Ov ?_;refine FB ?_;refine Hq ?_;refine KO.on rfl rfl rfl ?_;refine KO.qM rfl rfl isAgg3 c1 rfl ?_;refine Ah ?_;refine CO ?_;refine KO.on rfl rfl (by simp[h2]) ?_;refine KO.qM rfl rfl isAgg4 c2 rfl ?_;refine kF ?_;refine oV ?_;refine qu ?_;refine KO.sq rfl ?_ rfl rfl ?_
  (focus(simp only[decide_eq_true_eq,decide_eq_false_iff_not,Bool.not_eq_true,Bool.not_true,Bool.not_false,ne_eq];omega))
  refine Hp ?_;refine KQ.bB rfl rfl (fun w' hs=>⟨_,_,rfl,⟨?_,rfl⟩,oF.aC hs.below,hs.below⟩);simp[nq,h1,h2]
 ·refine RF ?_;refine wi ?_;refine Ov ?_;refine FB ?_;refine Hq ?_;refine KO.on rfl rfl rfl ?_;refine KO.qM rfl rfl isAgg3 c1 rfl ?_;refine Ah ?_;refine qu ?_;refine zx ?_;refine qu ?_;refine KO.mc rfl ?_ rfl rfl ?_
  (focus(simp only[decide_eq_true_eq,decide_eq_false_iff_not,Bool.not_eq_true,Bool.not_true,Bool.not_false,ne_eq];omega))
  refine Hp ?_;refine KQ.bB rfl rfl (fun w' hs=>⟨_,_,rfl,⟨?_,rfl⟩,oF.aC hs.below,hs.below⟩);simp[nq,h1,h2]
def xe (u:Int) (l:List It) (k:Nat):List It:=(l.take k).map (jo u)++l.drop k
theorem Lu{u:Int}{l:List It}{k:Nat}{e:It}(he:l[k]? =some e):(xe u l k)[k]? =some e:=by
 have hk:=(au.1 he).1;unfold xe;rw[aY fx];simp[show k-min k l.length=0 by omega,he]
theorem Jf{u:Int}{l:List It}{k:Nat}{e:It}(he:l[k]? =some e):(xe u l k).set k (jo u e)=xe u l (k+1):=by
 have hk:=(au.1 he).1;have hd:l.drop k=e::l.drop (k+1):=by rw[<-(au.1 he).2,List.getElem_cons_drop]
 unfold xe;rw[bG he,aN,hd,List.set_append_right _ _ fx];simp[show k-min k l.length=0 by omega]
theorem F5{l:List It}{k:Nat}{e:It}(he:l[k]? =some e):l.set k e=l:=by
 obtain⟨hk,h⟩:=au.1 he;rw[<-h];exact List.set_getElem_self hk
theorem Ny(w0:World)(L:List HP)(b:Nat)(q:Qu)(u:Int)(back:Bool)(hq:q.l.length<900000):
 KC prog 64 #[.pointer (some ⟨b,0,none⟩),.int .i64 u,.bool back] w0 (iP b q::L) (fun v L'=>v=.tuple #[]/\L'=iP b (c8 q u back)::L):=by
 refine KC.mk (n:=52) func64 rfl ntmps64 aj ?_;refine oW ?_;refine K.cq (fun _ h=>jh h) fun v=>?_
 refine dM ?_;refine KO.box rfl rfl aP rfl ?_;intro b4;refine KO.box rfl rfl aP rfl ?_;intro b5;refine wA ?_;refine zL ?_;refine rQ ?_;refine K.br rfl (fun h=>?_) (fun h=>?_)
 ·repeat(first|(with_reducible refine KQ.mR ?_)|(with_reducible refine K.ret ?_))
  refine KQ.TG rfl (fun w' hs=>⟨_,_,rfl,⟨rfl,rfl⟩,?_⟩);rw[show c8 q u back=q by simp only[c8,h,if_true]];exact jG ((hs.fA bn bn).O2 Dl)
 ·rw[show c8 q u back=⟨(q.l.filter fun e=> !nq u back e).map (jo u),q.next⟩by simp only[c8,h,if_false]];have Lh:(q.l.filter fun e=> !nq u back e).length<900000:=Nat.lt_of_le_of_lt (List.length_filter_le _ _) hq;refine Z6 ?_;refine nD ?_;refine C3 ?_;refine KO.Ww rfl rfl rfl ?_;refine KO.cl rfl rfl rfl call158 rfl (KC.oN bn (Vc w0 _ v q.l 159 [.pointer (some ⟨b4,0,none⟩),.pointer (some ⟨b5,0,none⟩)] (nq u back) ae call159 (fun e v ys _=>Rm w0 _ _ _ e b4 b5 u back _ _ bn bn))) ?_;rintro v' L' rfl;refine KO.fact (fun _ hs=>aU hs) ?_;rintro⟨a',c',rfl,qC⟩;refine kr ?_;refine Vy ?_
  (refine KO.Jo rfl rfl rfl aP Y38 aP bn aP Y0 ?_)
  refine Z0 ?_;generalize q.l.filter (fun e=> !nq u back e)=l at *;refine kX ?_;refine RL ?_;refine zw ?_;refine mK ?_;refine K.loop (fun k:Nat=>[(0,.pointer (some ⟨b,0,none⟩)),(4,.pointer (some ⟨b4,0,none⟩)),(23,.int .i64 (l.length:Nat)),(24,.int .i64 (k:Nat))]) (fun k=>IE (.slice a' l.length c') (xe u l k)::Xz b (.slice a' l.length c') q.next::bI b4 (.cells [Value.int .i64 u].toArray 3 (0,0))::L) (fun k=>k<=l.length) (fun k=>l.length-k) 0
   (aV _) ⟨rfl,rfl,rfl,rfl,trivial⟩ (fun _ h=>by rw[show xe u l 0=l by simp[xe]];exact(h.Sz bn bQ bn).gc3 Dl) ?_
  intro k hk;refine hF ?_;refine K.br rfl (fun h1=>?_) (fun h1=>?_)
  ·obtain⟨g,rfl⟩:=qC ae;obtain⟨e,he⟩:∃e,l[k]? =some e:=⟨l[k],ao ae⟩;have XK:=Lu (u:=u) he;have dw:=Jf (u:=u) he;have IM:jo u e={e with put:=if e.put=u then -1 else e.put,ft:=if e.ft=u then -1 else e.ft}:=rfl;generalize xe u l k=ys at *;have hyk:=(au.1 XK).1;refine sZ ?_;refine uN ?_;refine C3 ?_;refine Z1 ?_;refine Td ?_;refine kE ?_;refine VY ?_;refine KO.fo (off:=6) rfl runUnderlying243 rfl rfl sizeOf3 rfl ?_;refine VS ?_;refine uK ?_;refine K.br rfl (fun h2=>?_) (fun h2=>?_)
   ·have abM:(ys.set k {e with put:= -1})[k]? =some {e with put:= -1}:=by rw[List.getElem?_set_self hyk]
    refine kX ?_;refine KO.fo (off:=6) rfl runUnderlying243 rfl rfl sizeOf3 rfl ?_;refine KO.Xq rfl rfl rfl aP zM aP bQ (fun _=>rfl) XK rfl {e with put:= -1} rfl ?_;refine Z0 ?_;refine VY ?_;refine Oj ?_;refine VS ?_;refine uK ?_;refine K.br rfl (fun h3=>?_) (fun h3=>?_)
    ·(skip)
     refine kX ?_;refine Oj ?_;refine KO.Xq rfl rfl rfl aP zM aP bQ (fun _=>rfl) abM rfl {e with put:= -1,ft:= -1} rfl ?_;refine s8 ?_;refine KQ.round (k+1) ae ae ⟨rfl,rfl,rfl,rfl,trivial⟩ (fun _ hs=>?_);rw[<-dw,IM,if_pos h2,if_pos h3];rw[List.set_set]at hs;exact hs
    ·refine qF ?_;refine KQ.round (k+1) ae ae ⟨rfl,rfl,rfl,rfl,trivial⟩ (fun _ hs=>?_);rw[<-dw,IM,if_pos h2,if_neg h3];exact hs
   ·refine Z6 ?_;refine VY ?_;refine Oj ?_;refine VS ?_;refine uK ?_;refine K.br rfl (fun h3=>?_) (fun h3=>?_)
    ·(skip)
     refine kX ?_;refine Oj ?_;refine KO.Xq rfl rfl rfl aP zM aP bQ (fun _=>rfl) XK rfl {e with ft:= -1} rfl ?_;refine s8 ?_;refine KQ.round (k+1) ae ae ⟨rfl,rfl,rfl,rfl,trivial⟩ (fun _ hs=>?_);rw[<-dw,IM,if_neg h2,if_pos h3];exact hs
    ·refine qF ?_;refine KQ.round (k+1) ae ae ⟨rfl,rfl,rfl,rfl,trivial⟩ (fun _ hs=>?_);rw[<-dw,IM,if_neg h2,if_neg h3,show({e with put:=e.put,ft:=e.ft}:It)=e from rfl,F5 XK];exact hs
  ·have ru:k=l.length:=by omega
   refine R5 ?_;refine KQ.jr rfl (fun w' hs=>⟨_,_,rfl,⟨rfl,rfl⟩,?_⟩);rw[ru,show xe u l l.length=l.map (jo u)by simp[xe]]at hs;exact jG ((hs.fA bn bQ).O2 Dl)
theorem ze(w0:World)(L:List HP)(s:ak)(hs:s.size<=maxLen):KE prog 54 #[.string s] w0 L (fun u L'=>u=.bool (ko s)/\L'=L):=KE.bW fun w _=>Rx s _ w hs rfl
theorem FX(w0:World)(L:List HP)(s:ak)(hs:s.size<=maxLen):KE prog 240 #[.string s] w0 L (fun u L'=>u=.bool (c6 s)/\L'=L):=KE.bW fun w _=>BM s _ w hs rfl
theorem Ip(w0:World)(L:List HP)(m:Ms)(hb:m.body.size<=maxLen)(hq:m.queue.size<=maxLen):
 KE prog 145 #[.agg (dh m).toArray] w0 L (fun v L'=>v=.bool (bM m)/\L'=L):=by
 refine KE.mk (n:=41) func145 rfl ntmps145 aj ?_;intro w hw;refine Z3 ?_;refine KO.box rfl rfl aP rfl ?_;intro b1;refine kE ?_;have qQ:¬0<=m.id\/(0<=m.id/\¬m.id<=1099511627776)\/(0<=m.id/\m.id<=1099511627776/\¬0<=m.pri)\/(0<=m.id/\m.id<=1099511627776/\0<=m.pri/\¬m.pri<=9)\/(0<=m.id/\m.id<=1099511627776/\0<=m.pri/\m.pri<=9/\ko m.body=false)\/
  (0<=m.id/\m.id<=1099511627776/\0<=m.pri/\m.pri<=9/\ko m.body=true/\c6 m.queue=false)\/(0<=m.id/\m.id<=1099511627776/\0<=m.pri/\m.pri<=9/\ko m.body=true/\c6 m.queue=true/\¬0<=m.ck)\/
  (0<=m.id/\m.id<=1099511627776/\0<=m.pri/\m.pri<=9/\ko m.body=true/\c6 m.queue=true/\0<=m.ck):=by
  cases ko m.body<;>cases c6 m.queue<;>simp <;>omega
 have fin:∀(b:Bool) (w':World) (M:List HP),b=bM m->St w M w'->∃v L',Ending.returned (.bool b)=Ending.returned v/\(v=.bool (bM m)/\L'=L)/\St w0 L' w'/\Below w.heap.size w w':=fun b w' M e hs=>⟨_,_,rfl,⟨by rw[e],rfl⟩,hw.aC hs.below,hs.below⟩
 rcases qQ with h1|⟨h1,h2⟩|⟨h1,h2,h3⟩|⟨h1,h2,h3,h4⟩|⟨h1,h2,h3,h4,h5⟩|⟨h1,h2,h3,h4,h5,h6⟩|⟨h1,h2,h3,h4,h5,h6,h7⟩|⟨h1,h2,h3,h4,h5,h6,h7⟩
 ·refine ZC ?_;refine Hz ?_;refine s5 ?_;refine s5 ?_;refine xa ?_
  (refine KO.no rfl rfl ?_ rfl ?_;(rfl))
  refine qv ?_;refine xa ?_
  (refine KO.no rfl rfl ?_ rfl ?_;(rfl))
  refine qv ?_;refine s5 ?_;refine s5 ?_;refine iW ?_;exact KQ.bB rfl rfl (fun w' hs=>fin _ w' _ Tj hs)
 ·refine HG ?_;refine qY ?_;refine Hz ?_;refine s5 ?_;refine xa ?_
  (refine KO.no rfl rfl ?_ rfl ?_;(rfl))
  refine qv ?_;refine xa ?_
  (refine KO.no rfl rfl ?_ rfl ?_;(rfl))
  refine qv ?_;refine s5 ?_;refine s5 ?_;refine iW ?_;exact KQ.bB rfl rfl (fun w' hs=>fin _ w' _ Tj hs)
 ·refine HG ?_;refine zr ?_;refine pS ?_;refine vD ?_;refine qY ?_;refine Hz ?_;refine xa ?_
  (refine KO.no rfl rfl ?_ rfl ?_;(rfl))
  refine qv ?_;refine xa ?_
  (refine KO.no rfl rfl ?_ rfl ?_;(rfl))
  refine qv ?_;refine s5 ?_;refine s5 ?_;refine iW ?_;exact KQ.bB rfl rfl (fun w' hs=>fin _ w' _ Tj hs)
 ·refine HG ?_;refine zr ?_;refine pS ?_;refine vD ?_;refine zr ?_;refine K3 ?_;refine qY ?_;refine zx ?_
  (refine KO.no rfl rfl ?_ rfl ?_;((simp;omega)))
  refine wi ?_;refine xa ?_
  (refine KO.no rfl rfl ?_ rfl ?_;(rfl))
  refine qv ?_;refine s5 ?_;refine s5 ?_;refine iW ?_;exact KQ.bB rfl rfl (fun w' hs=>fin _ w' _ Tj hs)
 ·refine HG ?_;refine zr ?_;refine pS ?_;refine vD ?_;refine zr ?_;refine K3 ?_;refine Og ?_;refine K0 ?_;refine kF ?_;refine wE ?_
  (refine KO.on rfl rfl ?_ ?_;(simp;omega);refine KO.ce (cp:=[]) rfl rfl rfl call54 rfl (ze w _ _ hb) ?_;rintro v L' ⟨rfl,rfl⟩)
  refine qY ?_;refine Z1 ?_;refine Fz ?_
  (refine KO.no rfl rfl ?_ rfl ?_;(assumption))
  refine KO.mc rfl tr rfl rfl ?_;refine s5 ?_;refine s5 ?_;refine iW ?_;exact KQ.bB rfl rfl (fun w' hs=>fin _ w' _ Tj hs)
 ·refine HG ?_;refine zr ?_;refine pS ?_;refine vD ?_;refine zr ?_;refine K3 ?_;refine Og ?_;refine K0 ?_;refine kF ?_;refine wE ?_
  (refine KO.on rfl rfl ?_ ?_;(simp;omega);refine KO.ce (cp:=[]) rfl rfl rfl call54 rfl (ze w _ _ hb) ?_;rintro v L' ⟨rfl,rfl⟩)
  refine qY ?_;refine Hn ?_;refine N5 ?_;refine s6 ?_;refine wE ?_
  (refine KO.on rfl rfl ?_ ?_;(assumption);refine KO.ce (cp:=[]) rfl rfl rfl call240 rfl (FX w _ _ hq) ?_;rintro v L' ⟨rfl,rfl⟩)
  refine KV ?_;refine Z1 ?_;refine Fz ?_;refine KO.no rfl rfl tr rfl ?_;refine KO.mc rfl tr rfl rfl ?_;refine s5 ?_;refine iW ?_;exact KQ.bB rfl rfl (fun w' hs=>fin _ w' _ Tj hs)
 ·refine HG ?_;refine zr ?_;refine pS ?_;refine vD ?_;refine zr ?_;refine K3 ?_;refine Og ?_;refine K0 ?_;refine kF ?_;refine wE ?_
  (refine KO.on rfl rfl ?_ ?_;(simp;omega);refine KO.ce (cp:=[]) rfl rfl rfl call54 rfl (ze w _ _ hb) ?_;rintro v L' ⟨rfl,rfl⟩)
  refine qY ?_;refine Hn ?_;refine N5 ?_;refine s6 ?_;refine wE ?_
  (refine KO.on rfl rfl ?_ ?_;(assumption);refine KO.ce (cp:=[]) rfl rfl rfl call240 rfl (FX w _ _ hq) ?_;rintro v L' ⟨rfl,rfl⟩)
  refine KV ?_;refine Hn ?_;refine N4 ?_;refine s6 ?_;refine s7 ?_;refine s6 ?_;refine vD ?_;refine KV ?_;refine Hz ?_;refine iW ?_;exact KQ.bB rfl rfl (fun w' hs=>fin _ w' _ Tj hs)
 ·refine HG ?_;refine zr ?_;refine pS ?_;refine vD ?_;refine zr ?_;refine K3 ?_;refine Og ?_;refine K0 ?_;refine kF ?_;refine wE ?_
  (refine KO.on rfl rfl ?_ ?_;(simp;omega);refine KO.ce (cp:=[]) rfl rfl rfl call54 rfl (ze w _ _ hb) ?_;rintro v L' ⟨rfl,rfl⟩)
  refine qY ?_;refine Hn ?_;refine N5 ?_;refine s6 ?_;refine wE ?_
  (refine KO.on rfl rfl ?_ ?_;(assumption);refine KO.ce (cp:=[]) rfl rfl rfl call240 rfl (FX w _ _ hq) ?_;rintro v L' ⟨rfl,rfl⟩)
  refine KV ?_;refine Hn ?_;refine N4 ?_;refine s6 ?_;refine s7 ?_;refine s6 ?_;refine vD ?_;refine KV ?_;refine CL ?_;refine N4 ?_;refine pS ?_;refine wk ?_;refine qY ?_;refine iW ?_;exact KQ.bB rfl rfl (fun w' hs=>fin _ w' _ Tj hs)
theorem XA(w0:World)(L:List HP)(b:Nat)(q:Qu)(m:Ms)(u:Int)(hq:OI q)(hb:m.body.size<=maxLen)(hs:m.queue.size<=maxLen):
 KC prog 56 #[.pointer (some ⟨b,0,none⟩),.agg (dh m).toArray,.int .i64 u] w0 (iP b q::L) (fun v L'=>v=cI 70 (ga q m)/\L'=iP b (mA q m u)::L):=by
 have hl:=hq.len;refine KC.mk (n:=30) func56 rfl ntmps56 aj ?_;refine Z3 ?_;refine KO.box rfl rfl aP rfl ?_;intro b4;refine Z7 ?_;refine N8 ?_;refine dM ?_;refine CZ ?_;refine KO.ce (cp:=[]) rfl rfl rfl call145 rfl (Ip w0 _ m hb hs) ?_;rintro v L' ⟨rfl,rfl⟩;refine oV ?_;refine qE ?_;refine K.cond rfl (fun h=>?_) (fun h=>?_)
 ·have hr:bM m=false:=by simpa using h
  refine wz ?_;refine KQ.bB rfl rfl (fun w' hs=>⟨_,_,rfl,⟨by simp only[ga,hr,if_true];rfl,rfl⟩,?_⟩);rw[show mA q m u=q by simp[mA,ga,hr]];exact(hs.pick bn).O3 Dl
 ·have hr:bM m=true:=by simpa using h
  have hp:=bN hr;refine jB ?_;refine HU ?_;refine KO.ce (cp:=[]) rfl rfl rfl call146 rfl (SY w0 _ _ b q m.id bn ae) ?_;rintro v L' ⟨rfl,rfl⟩;refine qE ?_;refine K.cond rfl (fun h1=>?_) (fun h1=>?_)
  ·refine wz ?_;refine KQ.bB rfl rfl (fun w' hs=>⟨_,_,rfl,⟨by simp only[ga,hr,h1,if_true,Bool.true_eq_false,if_false];rfl,rfl⟩,?_⟩);rw[show mA q m u=q by simp[mA,ga,hr,h1]];exact(hs.pick bn).O3 Dl
  ·refine K.pk (A:=iP b q) bn ?_;refine K.cq (fun _ h=>jh h) fun v=>?_
   refine K.fact (fun _ h=>aU h.drop) ?_;rintro⟨sa,cap,rfl,Ka⟩;refine Z3 ?_;refine lq ?_;refine RL ?_;refine zw ?_;refine vD ?_;refine qE ?_;refine K.br rfl (fun h2=>?_) (fun h2=>?_)
   ·have h3:20<=q.l.length:=by omega
    refine wz ?_;refine KQ.bB rfl rfl (fun w' hs=>⟨_,_,rfl,⟨by simp only[ga,hr,h1,h3,if_true,Bool.true_eq_false,Bool.false_eq_true,if_false];rfl,rfl⟩,?_⟩);rw[show mA q m u=q by simp[mA,ga,hr,h1,h3]];exact jG ((hs.fA bQ bQ).O2 Dl)
   ·have h3:¬20<=q.l.length:=by omega
    refine K.conv (fun _ h=>jG h) ?_
    refine Vv ?_;refine Z8 ?_;refine Al ?_;refine Z1 ?_;refine KO.cl (cp:=[]) rfl rfl rfl call147 rfl (KC.oN bQ (B1 w0 _ b q m u hq (by unfold small;omega))) ?_;rintro v L' ⟨rfl,rfl⟩;refine pP ?_;refine KQ.bB rfl rfl (fun w' hs=>⟨_,_,rfl,⟨by simp only[ga,hr,h1,h3,Bool.true_eq_false,Bool.false_eq_true,if_false];rfl,rfl⟩,?_⟩);rw[show mA q m u=cP q m u by simp[mA,ga,hr,h1,h3]];exact hs.O3 Dl
end Go.Proofs.YtjhogocabcdjbabGreatDoor
namespace WB
open Go Go.RowKit
deriving instance DecidableEq for Ms
section
variable {P:Program} {w:World} {d:Nat} {xs ys:Array Value} {f:Field} {fs:List Field} {r:Bool}
theorem sr{T:TypeId}{off:Nat}{v:Value}(ha:(isAgg T).run P w=.ok false w)(hx:xs[off]? =some v):(part T xs off).run P w=.ok v w:=by
 simp[part,ha,hx]
theorem Cz{k:IntKind}{a c:Int}(hn:f.name≠ "_")(hu:P.underlying f.type=some (.int k))(hT:(isAgg f.type).run P w=.ok false w)(hx:xs[f.offset]? =some (.int k a))(hy:ys[f.offset]? =some (.int k c))(h:(Op.eqFields (d+1) xs ys fs).run P w=.ok r w):
 (Op.eqFields (d+1) xs ys (f::fs)).run P w=.ok (decide (a=c)&&r) w:=by
 simp only[Op.eqFields,if_pos hn,Sem.run_bind,sr hT hx,sr hT hy,Result.andThen_ok,run_equalIn_int w d _ _ k a c hu];by_cases e:a=c
 ·subst e;simp[h]
 ·simp[e]
theorem IZ{a c:ak}(hn:f.name≠ "_")(hu:P.underlying f.type=some .string)(hT:(isAgg f.type).run P w=.ok false w)(hx:xs[f.offset]? =some (.string a))(hy:ys[f.offset]? =some (.string c))(h:(Op.eqFields (d+1) xs ys fs).run P w=.ok r w):
 (Op.eqFields (d+1) xs ys (f::fs)).run P w=.ok (decide (a=c)&&r) w:=by
 simp only[Op.eqFields,if_pos hn,Sem.run_bind,sr hT hx,sr hT hy,Result.andThen_ok,run_equalIn_string w d _ _ _ hu,toList_eq_iff];by_cases e:a=c
 ·subst e;simp[h]
 ·simp[e]
theorem Rl:(Op.eqFields d xs ys []).run P w=.ok true w:=by simp[Op.eqFields]
theorem Mx(a b:Ms):(decide (a.id=b.id)&&(decide (a.pri=b.pri)&&(decide (a.body=b.body)&&(decide (a.queue=b.queue)&&(decide (a.ck=b.ck)&&true)))))=decide (a=b):=by
 obtain⟨a1,a2,a3,a4,a5⟩:=a;obtain⟨b1,b2,b3,b4,b5⟩:=b;rw[Bool.eq_iff_iff];simp
end
inductive iB:List HP->List HP->Prop
 |nil {L:List HP}:iB L []
 |cons {L R M:List HP} {A:HP} (p:bF L A R) (h:iB R M):iB L (A::M)
theorem iB.drop{A:HP}{L M:List HP}(h:iB L M):iB (A::L) M:=by
 induction h with
 |nil=>exact .nil
 |cons p _ ih=>exact .cons (.tail p) ih
theorem iB.refl:∀{L:List HP},iB L L
 |[]=>.nil
 |_::_=>.cons .head iB.refl
theorem iB.gH{L M:List HP}(h:iB L M):∀x,WB.gH L x->∃h1 h2,td h1 h2/\x=oA h1 h2/\WB.gH M h2:=by
 induction h with
 |nil=>exact fun x _=>⟨x,fun _=>none,fun _=>.inr rfl,by rw[sb (fun _=>.inr rfl),wI fun _=>rfl],fun _=>rfl⟩
 |cons p _ ih=>
  intro x hx;obtain⟨h1,h2,d,rfl,a,b⟩:=p.gH hx;obtain⟨g1,g2,d2,rfl,c⟩:=ih h2 b;rw[ll]at d;refine⟨g1,oA h1 g2,ll.2 ⟨d.1.symm,d2⟩,?_,h1,g2,d.2,rfl,a,c⟩;rw[<-mQ,<-mQ,sb d.1]
theorem St.all{w0 w:World}{L M:List HP}(hw:St w0 L w)(h:iB L M):St w0 M w:=by
 obtain⟨x,hx,hs⟩:=hw.own;obtain⟨h1,h2,d,rfl,hm⟩:=h.gH x hs;refine {hw with own:=⟨h2,fun k o hk=>hx k o ?_,hm⟩};rw[sb d];unfold oA;rw[hk];rfl
def pk (a n:Int):Int:=(a%18446744073709551616)%n
theorem jj(a:Int){n:Int}(h1:1<=n):0<=pk a n/\pk a n<n:=⟨Int.emod_nonneg _ ae,Int.emod_lt_of_pos _ ae⟩
section
variable {P:Program} {ops:Array Oper} {d:Bool} {Q:Exit->Act->World->Prop} {n:Nat} {D:List Deferred} {w0:World} {G:Env} {L R:List HP} {l:List (Kd×Oper)} {k:Kd}
 {t:Nat} {op:Op} {ty T T' E EN:TypeId} {pos:String} {af:Array Edge} {x y z:Operand} {v u:Value} {b:Bool} {i off:Nat} {a c r:Int} {ad:Addr} {kk:IntKind}
theorem KO.neA{xs ys:Array Value}(hx:ev G x=some (.agg xs))(hy:ev G y=some (.agg ys))(hg:P.eqGuardType P.depth T=false)(hr:∀w,(Op.equalIn 10000 T (.agg xs) (.agg ys)).run P w=.ok b w)(ht:Nat.blt t n=true)(h:KO P ops d Q n D w0 ((t,.bool (!b))::G) L l):
 KO P ops d Q n D w0 G L ((k,⟨some t,.binOp .neq T x y T',ty,pos,af,none⟩)::l):=
 KO.val (fun a w ha=>by simp[execOp,ha.eval hx,ha.eval hy,run_eqGuard_agg w _ _ _ _ _ _ hg,run_neq_struct,hr w]) ht h
theorem KO.W3(hx:ev G x=some (cI EN c))(hT:P.underlying T=some (.interface (P.methodsAt T)))(ht:Nat.blt t n=true)(h:KO P ops d Q n D w0 ((t,.bool (decide (c=0)))::G) L l):
 KO P ops d Q n D w0 G L ((k,⟨some t,.binOp .eql T x (.const .nilIface) T',ty,pos,af,none⟩)::l):=
 KO.val (fun a w ha=>by
  simp only[execOp,ha.eval hx,show a.eval (.const .nilIface)=.nilIface from rfl];unfold cI;by_cases h0:c=0
  ·simp[h0,run_eql_nil_nil w T hT,eqGuard_nil_constR]
  ·simp[h0,run_eql_held_nil w T _ _ hT,eqGuard_at_iface]) ht h
theorem KO.neN(hx:ev G x=some (cI EN c))(hT:P.underlying T=some (.interface (P.methodsAt T)))(ht:Nat.blt t n=true)(h:KO P ops d Q n D w0 ((t,.bool (decide (c≠0)))::G) L l):
 KO P ops d Q n D w0 G L ((k,⟨some t,.binOp .neq T x (.const .nilIface) T',ty,pos,af,none⟩)::l):=
 KO.val (fun a w ha=>by
  simp only[execOp,ha.eval hx,show a.eval (.const .nilIface)=.nilIface from rfl];unfold cI;by_cases h0:c=0
  ·simp[h0,run_neq_nil_nil w T hT,eqGuard_nil_constR]
  ·simp[h0,run_neq_held_nil w T _ _ hT,eqGuard_at_iface]) ht h
def OM {α:Type} (n:Nat) (D:List Deferred) (w0:World) (E:α->Env) (H:α->List HP) (φ:α->Prop) (a:Act) (w:World):Prop:= ∃y,φ y/\cE n D (E y) a/\St w0 (H y) w
theorem K.qL{α:Type}{c1 c2:Code}{L:List HP}(E:α->Env)(H:α->List HP)(φ:α->Prop)(h1:K P c1 (Exit.then (OM n D w0 E H φ) Q) n D w0 G L)(h2:∀y,φ y->K P c2 Q n D w0 (E y) (H y)):K P (.seq c1 c2) Q n D w0 G L:=fun a w ha hw=>
 wp_seq (Go.wp_mono (h1 a w ha hw) fun e a w hq=>by
  cases e with
  |normal=>obtain⟨y,hy,ha,hw⟩:=hq;exact h2 y hy a w ha hw
  |_=>exact hq)
theorem K.cut{α:Type}{c1 c2:Code}{L:List HP}(E:α->Env)(H:α->List HP)(φ:α->Prop)(h1:K P c1 (Exit.then (OM n D w0 E H φ) Q) n D w0 G L)(h2:∀y,φ y->K P c2 Q n D w0 (E y) (H y)):K P c1 (Exit.then (c2.wp P Q) Q) n D w0 G L:=fun a w ha hw=>
 Go.wp_mono (h1 a w ha hw) fun e a w hq=>by
  cases e with
  |normal=>obtain⟨y,hy,ha,hw⟩:=hq;exact h2 y hy a w ha hw
  |_=>exact hq
theorem KQ.qL{α:Type}{E:α->Env}{H:α->List HP}{φ:α->Prop}(y:α)(hy:φ y)(hG:C5 G (E y))(hL:∀w,St w0 L w->St w0 (H y) w):KQ (Exit.then (OM n D w0 E H φ) Q) .normal n D w0 G L:=fun _ w ha hw=>⟨y,hy,ha.sub hG,hL w hw⟩
theorem KO.db{b:Nat}{cs:List Value}{fz:Nat×Nat}(hk:(!d||k != .pure)=true)(hx:ev G x=some (.pointer (some ad)))(hT:∀w,(isAgg T).run P w=.ok false w)(hp:bF L (bI b (.cells cs.toArray E fz)) R)(ha:ad=⟨b,i,none⟩)(hc:cs[i]? =some v)(ht:Nat.blt t n=true)(h:KO P ops d Q n D w0 ((t,v)::G) L l):KO P ops d Q n D w0 G L ((k,⟨some t,.load T x,ty,pos,af,none⟩)::l):=KO.ld hk (ha▸hx) hT hp hc ht h
theorem DU(v:Value):∀(i:Nat) (cs:List Value),i<cs.length->kR i [v] cs=cs.set i v
 |0,c::cs,_=>by simp[kR]
 |i+1,c::cs,h=>by simp[kR,DU v i cs H4]
theorem KO.fX{b:Nat}{cs:List Value}(hk:(!d||k== .write)=true)(hx:ev G x=some (.pointer (some ad)))(hy:ev G y=some v)(hv:v.cells=[v].toArray)(hn:∀w,(Go.sizeOf T).run P w=.ok 1 w)(h1:v.oneCell'=true)(hp:bF L (bI b (.cells cs.toArray E (0,0))) R)(ha:ad=⟨b,i,none⟩)(hi:i<cs.length)(h:KO P ops d Q n D w0 G (bI b (.cells (cs.set i v).toArray E (0,0))::R) l):
 KO P ops d Q n D w0 G L ((k,⟨none,.store T x y,ty,pos,af,none⟩)::l):=
 KO.Jo hk (ha▸hx) hy hv hn Dj hp (by simp[Nat.ble_eq];omega) (DU v i cs hi) h
theorem KO.Gu{len cap sz:Nat}(hx:ev G x=some (.slice (some ad) len cap))(hy:ev G y=some (.int kk a))(hu:∀w,(underlying T).run P w=.ok (.slice E) w)(hs:∀w,(Go.sizeOf E).run P w=.ok sz w)(ha:a=(i:Int))(hb:i<len)(ht:Nat.blt t n=true)(h:KO P ops d Q n D w0 ((t,.pointer (some (ad.add (i *sz))))::G) L l):KO P ops d Q n D w0 G L ((k,⟨some t,.indexAddr T x y,ty,pos,af,none⟩)::l):=
 KO.val (fun a' w qC=>by
  subst ha;have :(0:Int)<=(i:Int)/\(i:Int)<(len:Int):=⟨by omega,by omega⟩
  simp[execOp,qC.eval hx,qC.eval hy,Instr.indexAt,hu w,asIntOf,hs w,this,hb]) ht h
theorem KO.Zc{fs:Array Field}{f sz off:Nat}{fd:Field}(hx:ev G x=some (.pointer (some ad)))(hu:∀w,(underlying T).run P w=.ok (.struct fs) w)(hf:fs[f]? =some fd)(ho:fd.offset=off)(hs:∀w,(Go.sizeOf fd.type).run P w=.ok (sz+1) w)(ht:Nat.blt t n=true)(h:KO P ops d Q n D w0 ((t,.pointer (some (ad.add off)))::G) L l):KO P ops d Q n D w0 G L ((k,⟨some t,.fieldAddr T x f,ty,pos,af,none⟩)::l):=
 KO.fld hx hu hf hs ht (by rw[ho];exact h)
end
end WB
namespace Go.Proofs.YtjhogocabcdjbabGreatDoor
open Tryz
open Go Go.RowKit WB
theorem mD(w0:World)(L:List HP)(a n:Int)(h1:1<=n)(h2:n<=1000):KE prog 13 #[.int .i64 a,.int .i64 n] w0 L (fun u L'=>u=.int .i64 (pk a n)/\L'=L):=KE.bW fun w _=>by
 have hu:IntKind.u64.wrap a=a%18446744073709551616:=rfl;have h0:0<=a%18446744073709551616:=Int.emod_nonneg _ ae;have hp:(IntKind.u64.wrap a).tmod n=pk a n:=by rw[hu,Int.tmod_eq_emod_of_nonneg h0];rfl
 have hw:wrap64 ((IntKind.u64.wrap a).tmod n)=pk a n:=by rw[hp];have :=jj a h1;unfold wrap64;omega
 have HW:=Lib.hid hw;clear hw hp h0 hu
 go_enter func13,ntmps13
 go_wp2_with fail
 rw[HW.out]
 go_ret
 exact⟨rfl,Below.refl _ _⟩
theorem Mw(a b:Ms)(w:World):(Op.equalIn 10000 44 (.agg (dh a).toArray) (.agg (dh b).toArray)).run prog w=.ok (decide (a=b)) w:=by
 rw[run_equalIn_agg w 9999 44 _ _ bC bC,<-Mx];simp only[Program.fieldsOf,underlying44];refine Cz ai underlying3 (isAgg3 w) rfl rfl (Cz ai underlying3 (isAgg3 w) rfl rfl (IZ ai underlying9 (isAgg9 w) rfl rfl (IZ ai underlying9 (isAgg9 w) rfl rfl (Cz ai underlying3 (isAgg3 w) rfl rfl Rl))))
end Go.Proofs.YtjhogocabcdjbabGreatDoor
namespace WB
open Go Go.RowKit
variable {P:Program} {ops:Array Oper} {Q:Exit->Act->World->Prop}
def via (qV:List (List Nat)) (x i:Nat) (q:Nat×Nat):Bool:=(q.1==x||(qV.getD q.1 []).contains x)&&(q.2==i||(qV.getD i []).contains q.2)
theorem pU{qV:List (List Nat)}(hb:eV ops=true)(ha:qU ops qV=true){l:List Nat}(hv:Valid ops l){q:Nat×Nat}(hE:∀p s,l=p++q.2::s->q.1∈p){x i:Nat}(h:via qV x i q=true):∀p s,l=p++i::s->x∈p:=by
 intro p s hl;unfold via at h;simp only[a_,Bool.or_eq_true,beq_iff_eq]at h;have lt:∀y,y∈l->y<ops.size:=fun y hy=>(hv.2.1 y).1 hy
 have h1:q.1∈p:=by
  rcases h.2 with e|e
  ·exact hE p s (by rw[e];exact hl)
  ·have :=qt hb ha hv i i (aF _) (lt i Lt) p s hl q.2 (List.contains_iff_mem.1 e);obtain⟨p1,p2,rfl⟩:=List.append_of_mem this;have :=hE p1 (p2++i::s) Lt;simp[this]
 rcases h.1 with e|e
 ·rw[<-e];exact h1
 ·obtain⟨p1,p2,rfl⟩:=List.append_of_mem h1;have :=qt hb ha hv q.1 q.1 (aF _) (lt q.1 Lt) p1 (p2++i::s) Lt x (List.contains_iff_mem.1 e);simp[this]
theorem rp{E:List (Nat×Nat)}{ks:List Kd}{qV:List (List Nat)}(hb:eV ops=true)(ha:qU ops qV=true){l:List Nat}(hv:Valid ops l)(hE:∀q∈E,∀p s,l=p++q.2::s->q.1∈p):
 ∀(s p rem:List Nat),l=p++s->(∀x,x∈rem↔x∈s)->
  jW (fun x i=> !(x==i)&&((qV.getD i []).contains x||(iT ops ks x i||E.any (via qV x i)))) rem=true->
  ∀a w,ij P ops Q (rem.map (item ops ks)) a w->wpOps P ops Q s a w
 |[],p,rem,hl,hm,hp,a,w,h=>by
  have :rem=[]:=List.eq_nil_iff_forall_not_mem.2 fun x hx=>by simpa using(hm x).1 hx
  subst this;exact h
 |i::s,p,rem,hl,hm,hp,a,w,h=>by
  have hi:i<ops.size:=(hv.2.1 i).1 Lt;have sK:=hv.1;rw[hl]at sK;have WK:∀x∈i::s,x∉p:=fun x hx Qi=>(List.nodup_append.1 sK).2.2 x Qi x hx rfl
  have Lf:i∉s:=(bJ.1 (List.nodup_append.1 sK).2.1).1;obtain⟨pre,post,rfl⟩:=List.append_of_mem ((hm i).2 List.mem_cons_self);obtain⟨h1,h2,h3⟩:=mE pre hp;have Us:∀x∈pre,iT ops ks x i=true:=fun x hx=>by
   have hf:=h1 x hx;simp only[a_,Bool.or_eq_true]at hf;rcases hf.2 with hc|hc|hc
   ·have Qi:=qt hb ha hv i i (aF _) hi p s hl x (List.contains_iff_mem.1 hc);exact absurd Qi (WK x ((hm x).1 wF))
   ·exact hc
   ·obtain⟨q,hq,hqv⟩:=List.any_eq_true.1 hc;have Qi:=pU hb ha hv (hE q hq) hqv p s hl;exact absurd Qi (WK x ((hm x).1 wF))
  have lG:=Hb pre Us a w h;have zX:∀x,x∈pre++post↔x∈s:=fun x=>by
   have hx:=hm x;constructor
   ·intro XL;have Eu:x∈pre++i::post:=by
     rcases aH.1 XL with e|e<;>simp[e]
    rcases aD.1 (hx.1 Eu)with rfl|e
    ·exfalso;rcases aH.1 XL with e|e
     ·have :=h1 x e;simp at this
     ·have :=h3 x e;simp at this
    ·exact e
   ·intro rY;have :=hx.2 (List.mem_cons_of_mem _ rY);rcases aH.1 this with e|e
    ·simp[e]
    ·rcases aD.1 e with rfl|e
     ·exact absurd rY Lf
     ·simp[e]
  have IH:=rp hb ha hv hE s (p++[i]) (pre++post) Lt zX h2;have kC:ops[i]? =some (item ops ks i).2:=by simp[item,hi]
  simp only[aJ]at lG;simp only[wpOps,kC];cases hw:Region.wanted (item ops ks i).2 (yielded ops a.tmps)with
  |false=>
   simp only[Bool.false_eq_true,if_false];rw[show item ops ks i=((item ops ks i).1,(item ops ks i).2)from rfl,ph hw]at lG;exact IH _ _ lG
  |true=>
   simp only[if_true];left;rw[show item ops ks i=((item ops ks i).1,(item ops ks i).2)from rfl]at lG;by_cases dt:(item ops ks i).1.nb=true
   ·rw[dR dt hw]at lG;obtain⟨v,lM,hr⟩:=lG;have kj:stays (item ops ks i).1 w w:=by
     cases(item ops ks i).1<;>first|trivial|exact Ext.refl w|rfl
    unfold Oper.wp;rcases lM w kj with hg|⟨f,args,hg,gm⟩
    ·rw[hg];exact IH _ _ hr
    ·rw[hg];refine gm.mono ?_;rintro e w' ⟨rfl,rfl⟩;exact IH _ _ hr
   ·generalize hk:(item ops ks i).1=k at lG dt;cases k with
    |c7=>rw[gC hw]at lG;exact jE wQ (fun a w hh=>IH _ _ hh.2) lG
    |write=>rw[dZ hw]at lG;exact jE wQ (fun a w hh=>IH _ _ hh) lG
    |_=>exact absurd rfl dt
def ways:List (Nat×Nat)->List (List (Nat×Nat))
 |[]=>[[]]
 |q::r=>(ways r).map (q:: ·)++(ways r).map ((q.2,q.1):: ·)
theorem tv{l:List Nat}(hn:l.Nodup):∀(X:List (Nat×Nat)),(∀q∈X,q.1∈l/\q.2∈l/\q.1≠q.2)->∃E∈ways X,(∀q∈E,∀p s,l=p++q.2::s->q.1∈p)/\∀q∈E,q.2∈l
 |[],_=>⟨[],by simp[ways],(fun _ h=>by cases h),fun _ h=>by cases h⟩
 |q::X,h=>by
  obtain⟨E,hE,fg,fq⟩:=tv hn X fun q hq=>h q (List.mem_cons_of_mem _ hq)
  obtain⟨h1,h2,h3⟩:=h q List.mem_cons_self;obtain⟨p1,s1,hl⟩:=List.append_of_mem h2;have uniq:∀{y:Nat} {p s p' s':List Nat},l=p++y::s->l=p'++y::s'->p=p':=by
   intro y p s p' s' e1 e2;have :∀(p p' s s':List Nat),(p++y::s).Nodup->p++y::s=p'++y::s'->p=p':=by
    intro p
    induction p with
    |nil=>
     intro p' s s' hn e;cases p' with
     |nil=>rfl
     |cons x p'=>
      simp only[List.nil_append,bz,List.cons.injEq]at e;obtain⟨rfl,e⟩:=e;simp only[List.nil_append,bJ]at hn;exact absurd (by rw[e];simp) hn.1
    |cons x p ih=>
     intro p' s s' hn e;cases p' with
     |nil=>
      simp only[List.nil_append,bz,List.cons.injEq]at e;obtain⟨rfl,e⟩:=e;simp only[bz,bJ]at hn;exact absurd aj hn.1
     |cons x' p'=>
      simp only[bz,List.cons.injEq]at e;simp only[bz,bJ]at hn;rw[e.1,ih p' s s' hn.2 e.2]
   exact this p p' s s' (e1▸hn) (e1.symm.trans e2)
  by_cases sN:q.1∈p1
  ·refine⟨q::E,by simp only[ways,aH,ay];exact .inl ⟨E,hE,rfl⟩,fun q' zT p s e=>?_,fun q' zT=>(aD.1 zT).elim (fun e=>e▸h2) (fq q')⟩;rcases aD.1 zT with rfl|zT
   ·rw[<-uniq hl e];exact sN
   ·exact fg q' zT p s e
  ·refine⟨(q.2,q.1)::E,by simp only[ways,aH,ay];exact .inr ⟨E,hE,rfl⟩,fun q' zT p s e=>?_,fun q' zT=>(aD.1 zT).elim (fun e=>e▸h1) (fq q')⟩;rcases aD.1 zT with rfl|zT
   ·dsimp only at e ⊢;have h4:q.1∈s1:=by
     have :=h1;rw[hl]at this;simp only[aH,aD]at this;rcases this with a|a|a
     ·exact absurd a sN
     ·exact absurd a h3
     ·exact a
    obtain⟨p2,s2,rfl⟩:=List.append_of_mem h4;have e2:l=(p1++q.2::p2)++q.1::s2:=by rw[hl];simp
    rw[<-uniq e2 e];simp
   ·exact fg q' zT p s e
def JO (ops:Array Oper) (ks:List Kd) (E:List (Nat×Nat)) (ord:List Nat):Bool:=
 let qV:=Eg ops.toList []
 eV ops&&(qU ops qV&&((List.range ops.size).all (fun i=>ord.contains i)&&(ord.all (fun i=>Nat.blt i ops.size)&&
  jW (fun x i=> !(x==i)&&((qV.getD i []).contains x||(iT ops ks x i||E.any (via qV x i)))) ord)))
def KM (ops:Array Oper) (E:List (Nat×Nat)):Bool:=
 let qV:=Eg ops.toList []
 qU ops qV&&E.any fun q=>E.any (via qV q.2 q.1)
theorem zf{E:List (Nat×Nat)}(hb:eV ops=true){l:List Nat}(hv:Valid ops l)(hE:∀q∈E,∀p s,l=p++q.2::s->q.1∈p)(hm:∀q∈E,q.2∈l)(h:KM ops E=true):False:=by
 simp only[KM,a_]at h;obtain⟨ha,h⟩:=h;obtain⟨q,hq,h⟩:=List.any_eq_true.1 h;obtain⟨q',zT,h⟩:=List.any_eq_true.1 h;obtain⟨p1,s1,hl⟩:=List.append_of_mem (hm q hq);obtain⟨a,b,rfl⟩:=List.append_of_mem (hE q hq p1 s1 hl);have :=pU hb ha hv (hE q' zT) h a (b++q.2::s1) Lt;have hn:=hv.1;rw[hl]at hn;simp only[aL,bz]at hn;exact(List.nodup_append.1 hn).2.2 q.2 this q.2 aj rfl
def SA (ops:Array Oper) (ks:List Kd):List (List (Nat×Nat))->List (List Nat)->Bool
 |[],[]=>true
 |E::r,O=>if KM ops E then SA ops ks r O else match O with|o::s=>JO ops ks E o&&SA ops ks r s|[]=>false
 |_,_=>false
@[reducible] def CK (f:List Nat->Prop):List (List Nat)->Prop
 |[]=>True
 |o::r=>f o/\CK f r
theorem yd{ks:List Kd}{f:List Nat->Prop}{E:List (Nat×Nat)}:∀{W:List (List (Nat×Nat))} {O:List (List Nat)},SA ops ks W O=true->CK f O->E∈W->KM ops E=true\/∃o,JO ops ks E o=true/\f o
 |[],_,_,_,h=>by cases h
 |F::r,O,h,hf,hE=>by
  cases hB:KM ops F with
  |true=>
   have h2:SA ops ks r O=true:=by unfold SA at h;rw[hB]at h;simpa using h
   rcases aD.1 hE with rfl|hE
   ·exact .inl hB
   ·exact yd h2 hf hE
  |false=>
   unfold SA at h;rw[hB]at h;cases O with
   |nil=>simp at h
   |cons o s=>
    simp only[Bool.false_eq_true,if_false,a_]at h;rcases aD.1 hE with rfl|hE
    ·exact .inr ⟨o,h.1,hf.1⟩
    ·exact yd h.2 hf.2 hE
theorem xf{id:Nat}{a:Act}{w:World}(ks:List Kd)(X:List (Nat×Nat))(O:List (List Nat))(pC:P.follows .mixedOrders=true)(hX:(eV ops&&X.all fun q=>Nat.blt q.1 ops.size&&(Nat.blt q.2 ops.size&& !(q.1==q.2)))=true)(jY:SA ops ks (ways X) O=true)(h:CK (fun ord=>ij P ops Q (ord.map (item ops ks)) a w.drew) O):(Code.region id ops true).wp P Q a w:=by
 rw[a_]at hX;obtain⟨hb,hX⟩:=hX;refine wp_region_draw fun t=>?_
 have hv:Valid ops (Region.schedule (P.follows .mixedOrders) ops t):=je _ pC _ _ fun i o ho d hd=>by
  have hi:i<ops.size:=(Array.getElem?_eq_some_iff.1 ho).1
  have h1:=aI.1 (aI.1 hb i (aZ.2 hi)) d (by
   have :ops.toList.getD i default=o:=by
    simp[Array.getElem?_eq_getElem hi]at ho ⊢;simp[ho]
   rw[this];exact hd)
  simpa[Nat.blt_eq]using h1
 generalize Region.schedule (P.follows .mixedOrders) ops t=l at hv ⊢;obtain⟨E,hE,YP,hEm⟩:=tv hv.1 X fun q hq=>by
  have :=aI.1 hX q hq;simp only[a_,Nat.blt_eq,Bool.not_eq_true',beq_eq_false_iff_ne]at this;exact⟨(hv.2.1 _).2 this.1,(hv.2.1 _).2 this.2.1,this.2.2⟩
 rcases yd jY h hE with eZ|⟨ord,jY,h⟩
 ·exact(zf hb hv YP hEm eZ).elim
 simp only[JO,a_]at jY;obtain⟨hb,ha,fg,dt,hp⟩:=jY;refine rp hb ha hv YP l [] ord rfl (fun x=>?_) hp a _ h;rw[hv.2.1 x];constructor
 ·intro hx;simpa[Nat.blt_eq]using aI.1 dt x hx
 ·intro hx;exact List.contains_iff_mem.1 (aI.1 fg x (aZ.2 hx))
theorem uI{f g:List Nat->Prop}(h:∀o,f o->g o):∀{O:List (List Nat)},CK f O->CK g O
 |[],_=>trivial
 |_::_,hf=>⟨h _ hf.1,uI h hf.2⟩
theorem K.I1{n:Nat}{D:List Deferred}{w0:World}{G:Env}{L:List HP}{id:Nat}(ks:List Kd)(X:List (Nat×Nat))(O:List (List Nat))(pC:P.follows .mixedOrders=true)(hX:(eV ops&&X.all fun q=>Nat.blt q.1 ops.size&&(Nat.blt q.2 ops.size&& !(q.1==q.2)))=true)(jY:SA ops ks (ways X) O=true)(h:CK (fun ord=>KO P ops true Q n D w0 G L (ord.map (item ops ks))) O):K P (.region id ops true) Q n D w0 G L:=fun a _ ha hw=>
 xf ks X O pC hX jY (uI (fun _ hh=>hh a _ ha hw.drew) h)
end WB
namespace WB
open Go Go.RowKit
def Src {α:Type} (w:World) (cf:α->List Value) (v:Value) (xs:List α):Prop:=
 ∃a cap,v=.slice a xs.length cap/\(a=none->xs=[])/\∀ad,a=some ad->cr w ad (xs.flatMap cf)
section
variable {w0 w:World} {L R:List HP} {E:TypeId} {α:Type} {cf:α->List Value} {sz:Nat} {xs ys:List α} {v:Value}
theorem nj(dr:∀e,(cf e).length=sz):∀xs:List α,(xs.flatMap cf).length=xs.length *sz
 |[]=>by simp
 |a::l=>by simp[nj dr l,dr,Nat.succ_mul];omega
theorem cr.take{ad:Addr}{cs ds:List Value}(h:cr w ad (cs++ds)):cr w ad cs:=fun j c hj=>h j c (by rw[List.getElem?_append_left (au.1 hj).1];exact hj)
theorem Src.of(hp:bF L (SL E sz cf v xs) R)(w:World)(hw:St w0 L w):Src w cf v xs:=by
 rcases(hw.pick hp).cH with⟨h1,h2,h3,_⟩|⟨g,cap,cur,h1,h2,h3,h4,h5,h6,h7⟩
 ·have :xs=[]:=List.eq_nil_of_length_eq_zero h2;exact⟨none,0,by rw[h1,this];rfl,fun _=>this,fun ad h=>(by cases h)⟩
 ·refine⟨some ⟨g,0,none⟩,cap,h1,(fun h=>by cases h),fun ad h=>?_⟩;cases h
  have hl:=h7.look.2;intro j c hj;rw[Addr.add_lit,World.cell?,hl];rw[<-h5,List.getElem?_take]at hj;split at hj
  ·simpa using hj
  ·simp at hj
theorem Src.take{a:Option Addr}{len cap:Nat}(h:Src w cf (.slice a len cap) xs)(k:Nat)(hk:k<=xs.length):Src w cf (.slice a k cap) (xs.take k):=by
 obtain⟨b,c,e,h1,h2⟩:=h;simp only[Value.slice.injEq]at e;obtain⟨rfl,rfl,rfl⟩:=e;refine⟨a,cap,by rw[bA,Nat.min_eq_left hk],fun e=>by rw[h1 e];simp,fun ad e=>?_⟩;have :=h2 ad e;rw[<-List.take_append_drop k xs,List.flatMap_append]at this;exact this.take
theorem Src.cut(dr:∀e,(cf e).length=sz){g len cap:Nat}(h:Src w cf (.slice (some ⟨g,0,none⟩) len cap) xs)(k:Nat)(hk:k<=xs.length)(hc:xs.length<=cap):Src w cf (.slice (some (cutAt g k sz cap)) (xs.length-k) (cap-k)) (xs.drop k):=by
 obtain⟨b,c,e,h1,h2⟩:=h;simp only[Value.slice.injEq]at e;obtain⟨rfl,rfl,rfl⟩:=e;refine⟨_,_,by rw[bu],(fun e=>by cases e),fun ad e=>?_⟩;cases e
 unfold cutAt;by_cases hck:cap=k
 ·have :xs.drop k=[]:=List.drop_eq_nil_of_le ae;rw[this];exact fun j c hj=>by simp at hj
 ·rw[if_neg hck];have :=h2 _ rfl;rw[<-List.take_append_drop k xs,List.flatMap_append]at this;intro j c hj
  have h3:=this (k *sz+j) c (by
   rw[aY (by rw[nj dr,bA];have :=Nat.mul_le_mul_right sz (Nat.min_le_left k xs.length);omega)];rw[nj dr,bA,Nat.min_eq_left hk]
   simpa using hj)
  rw[Addr.add_lit]at h3 ⊢;simpa using h3
theorem Src.ext{w':World}(h:Src w cf v xs)(e:Ext w w'):Src w' cf v xs:=by
 obtain⟨a,cap,h1,h2,h3⟩:=h;exact⟨a,cap,h1,h2,fun ad ha=>(h3 ad ha).ext e⟩
theorem H7{g n cap:Nat}(hw:St w0 (SL E sz cf (.slice (some ⟨g,0,none⟩) n cap) xs::R) w):n=xs.length/\n<=cap:=by
 obtain⟨h1,h2,_⟩:=gp hw;exact⟨h1,h2⟩
end
section
variable {P:Program} {ops:Array Oper} {d:Bool} {Q:Exit->Act->World->Prop} {n:Nat} {D:List Deferred} {w0:World} {G:Env} {L R R' N:List HP} {l:List (Kd×Oper)} {k:Kd}
 {t:Nat} {op:Op} {ty T T' E E':TypeId} {pos:String} {af:Array Edge} {x y:Operand} {v u z:Value} {i j:Nat} {a c r:Int} {ad:Addr} {α:Type} {cf:α->List Value} {sz dI:Nat} {xs ys:List α} {e e':α}
theorem vJ(w:World)(t e:TypeId)(sz:Nat)(hu:P.underlying t=some (.slice e))(hs:(Go.sizeOf e).run P w=.ok sz w):
 (Instr.buildSlice t 0 #[]).run P w=.ok (.slice (some ⟨w.heap.size,0,none⟩) 0 0) (w.alloc (.cells #[] e)):=by
 simp[Instr.buildSlice,run_underlying hu,hs,Instr.fill,newRow];rw[show Array.range 0=#[]from rfl,Array.map_empty]
theorem KO.bs0(cf:α->List Value)(hk:(!d||(k== .c7||k== .write))=true)(hT:P.underlying T=some (.slice E))(hs:∀w,(Go.sizeOf E).run P w=.ok sz w)(ht:Nat.blt t n=true)(h:∀bb,KO P ops d Q n D w0 ((t,.slice (some ⟨bb,0,none⟩) 0 0)::G) (SL E sz cf (.slice (some ⟨bb,0,none⟩) 0 0) []::L) l):KO P ops d Q n D w0 G L ((k,⟨some t,.buildSlice T 0 #[],ty,pos,af,none⟩)::l):=by
 refine KO.qb hk (F:=fun bb=>.slice (some ⟨bb,0,none⟩) 0 0) (N:=fun bb=>SL E sz cf (.slice (some ⟨bb,0,none⟩) 0 0) []::L) (fun a w ha hw=>⟨w.heap.size,w.alloc (.cells #[] E),?_,Ext.alloc w _,?_⟩) ht h
 ·have hr:=vJ (P:=P) w T E sz hT (hs w);simp[execOp,hr]
 ·exact(hw.alloc (.cells #[] E)).kx (n:=0) (cap:=0) (aF _) R_ aj aj
theorem vK(w:World)(t ty e:TypeId)(b:Option Addr)(m cap c s:Nat)(hu:P.underlying t=some (.slice e))(hs:(Go.sizeOf e).run P w=.ok s w)(h:m<=cap):
 (Builtin.append_ #[t,t] ty #[.slice b m cap,.slice none 0 c]).run P w=.ok (.slice b m cap) w:=by
 cases b<;>simp[Builtin.append_,run_underlying hu,hs,Builtin.lenOf,Builtin.firstCells,h,storeCells]
theorem KO.RA(hk:(!d||k== .write)=true)(hx:ev G x=some v)(hy:ev G y=some u)(hp:bF L (SL E sz cf v xs) R)(hs:∀w,St w0 L w->Src w cf u ys)(hT:P.underlying T=some (.slice E))(hi:(P.info? E).map (fun i=>(i.zero,i.size,i.bytes))=some (some z,sz,dI))(Qh:z.cells.size=sz)(dr:∀e,(cf e).length=sz)(h1:∀e,(cf e).all Value.oneCell'=true)(hb:xs.length+ys.length<1000000000)(Yv:dI<=10000)(ht:Nat.blt t n=true)(h:∀v',KO P ops d Q n D w0 ((t,v')::G) (SL E sz cf v' (xs++ys)::R) l):KO P ops d Q n D w0 G L ((k,⟨some t,.call ⟨.builtin .append,#[x,y],#[T,T]⟩,ty,pos,af,none⟩)::l):=by
 obtain⟨i0,OW,wW,mM,wV⟩:=info_parts hi;refine KO.wvE hk (F:=fun v'=>SL E sz cf v' (xs++ys)::R) (fun a w ha hw=>?_) ht h;have tY:=hw.pick hp;obtain⟨sa,cap,rfl,hn,hc⟩:=hs w hw;cases sa with
 |none=>
  obtain rfl:=hn rfl;obtain⟨b,c2,rfl,jC⟩:∃b c2,v=.slice b xs.length c2/\xs.length<=c2:=by
   rcases tY.cH with⟨h1,h2,_⟩|⟨g,cap,cur,h1,h2,_⟩
   ·exact⟨none,0,by rw[h1,h2],by omega⟩
   ·exact⟨_,cap,h1,h2⟩
  refine⟨.slice b xs.length c2,w,kT x y T T rfl _ _ (ha.eval hx) (ha.eval hy) (vK (P:=P) w T ty E b _ c2 cap sz hT (by simp[Go.sizeOf,typeInfo,OW,mM]) jC),?_⟩;rw[List.append_nil];exact tY
 |some ad=>
  have GN:=hc ad rfl;have Yy:(xs.length+ys.length)*dI<=140737488355328:=by
   have :=Nat.mul_le_mul (show xs.length+ys.length<=1000000000 by omega) Yv;omega
  obtain⟨v',w',hr,kj⟩:=qq (P:=P) T ty E i0 z sz dI hT OW wW mM wV Qh tY ad ys.length cap (ys.flatMap cf) (nj dr ys) GN (yP (fun e u hu=>aI.1 (h1 e) u hu) ys) R_ Yy;refine⟨v',w',kT x y T T rfl v _ (ha.eval hx) (ha.eval hy) hr,?_⟩
  show St w0 (ke E sz v' (xs++ys).length ((xs++ys).flatMap cf)::R) w'
  rw[aX,List.flatMap_append];exact kj
theorem rW.nil:∀(M:List HP),rW [] M
 |[]=>.refl
 |_::M=>.drop (rW.nil M)
theorem KO.Ub{s:ak}{b:UInt8}(hx:ev G x=some (.string s))(hy:ev G y=some (.int .i64 a))(hT:P.underlying T=some .string)(ha:a=(i:Int))(hc:s[i]? =some b)(ht:Nat.blt t n=true)(h:KO P ops d Q n D w0 ((t,.int .u8 (b.toNat:Nat))::G) L l):KO P ops d Q n D w0 G L ((k,⟨some t,.index T x y,ty,pos,af,none⟩)::l):=
 KO.val (fun a' w qC=>by
  subst ha
  simp[execOp,qC.eval hx,qC.eval hy,Instr.index,asIntOf,run_underlying hT,hc]) ht h
def P2 (u:Option TypeDesc):Bool:=match u with|some (.interface _)=>false|none=>false|some _=>true
theorem KO.qJ{T0:TypeId}(hx:ev G x=some (.iface T0 v))(hu:P2 (P.underlying T')=true)(gh:Nat.beq T0 T'=false)(hz:∀w,(zeroValue T').run P w=.ok z w)(ht:Nat.blt t n=true)(h:KO P ops d Q n D w0 ((t,.tuple #[z,.bool false])::G) L l):KO P ops d Q n D w0 G L ((k,⟨some t,.typeAssert x T T' true,ty,pos,af,none⟩)::l):=
 KO.val (fun a' w qC=>by
  have hn:¬T0=T':=fun e=>by rw[e,Nat.beq_refl]at gh;cases gh
  cases hd:P.underlying T' with
  |none=>rw[hd]at hu;cases hu
  |some dd=>
   rw[hd]at hu;simp only[execOp,qC.eval hx,Instr.typeAssert,run_underlying hd,Sem.run_bind,Result.andThen_ok]
   cases dd<;>first|(cases hu;done)|simp[hn,hz w]) ht h
theorem KO.abA{T0:TypeId}(hx:ev G x=some (.iface T0 v))(hT:P.underlying T=some (.interface (P.methodsAt T)))(ht:Nat.blt t n=true)(h:KO P ops d Q n D w0 ((t,.bool true)::G) L l):
 KO P ops d Q n D w0 G L ((k,⟨some t,.binOp .neq T x (.const .nilIface) T',ty,pos,af,none⟩)::l):=
 KO.val (fun a w ha=>by
  simp only[execOp,ha.eval hx,show a.eval (.const .nilIface)=.nilIface from rfl]
  simp[run_neq_held_nil w T _ _ hT,eqGuard_at_iface]) ht h
theorem KO.ady{T0:TypeId}(hx:ev G x=some (.iface T0 v))(hT:P.underlying T=some (.interface (P.methodsAt T)))(ht:Nat.blt t n=true)(h:KO P ops d Q n D w0 ((t,.bool false)::G) L l):
 KO P ops d Q n D w0 G L ((k,⟨some t,.binOp .eql T x (.const .nilIface) T',ty,pos,af,none⟩)::l):=
 KO.val (fun a w ha=>by
  simp only[execOp,ha.eval hx,show a.eval (.const .nilIface)=.nilIface from rfl]
  simp[run_eql_held_nil w T _ _ hT,eqGuard_at_iface]) ht h
theorem KO.abB(hx:ev G x=some .nilIface)(hT:P.underlying T=some (.interface (P.methodsAt T)))(ht:Nat.blt t n=true)(h:KO P ops d Q n D w0 ((t,.bool false)::G) L l):
 KO P ops d Q n D w0 G L ((k,⟨some t,.binOp .neq T x (.const .nilIface) T',ty,pos,af,none⟩)::l):=
 KO.val (fun a w ha=>by
  simp only[execOp,ha.eval hx,show a.eval (.const .nilIface)=.nilIface from rfl]
  simp[run_neq_nil_nil w T hT,eqGuard_nil_constR]) ht h
theorem KO.adz(hx:ev G x=some .nilIface)(hT:P.underlying T=some (.interface (P.methodsAt T)))(ht:Nat.blt t n=true)(h:KO P ops d Q n D w0 ((t,.bool true)::G) L l):
 KO P ops d Q n D w0 G L ((k,⟨some t,.binOp .eql T x (.const .nilIface) T',ty,pos,af,none⟩)::l):=
 KO.val (fun a w ha=>by
  simp only[execOp,ha.eval hx,show a.eval (.const .nilIface)=.nilIface from rfl]
  simp[run_eql_nil_nil w T hT,eqGuard_nil_constR]) ht h
end
section
variable {P:Program} {fn:Func} {R:Ending->World->Prop} {n:Nat} {w0:World} {G:Env} {L M:List HP} {v v1 v2 v3:Value} {t t1 t2 t3:Nat} {T E:TypeId} {b:Nat} {cs:List Value} {fz:Nat×Nat}
end
theorem KE.oK{P:Program}{f:FuncId}{args:Array Value}{w0:World}{L:List HP}{R R':Value->List HP->Prop}(h:KE P f args w0 L R)(hr:∀v M,R v M->∃M',R' v M'/\∀w,St w0 M w->St w0 M' w):KE P f args w0 L R':=fun w hw=>
 (h w hw).mono fun _ _ ⟨v,M,e,r,s,b⟩=>let⟨M',r',c⟩:=hr v M r;⟨v,M',e,r',c _ s,b⟩
end WB
namespace Go.Proofs.YtjhogocabcdjbabGreatDoor
open Tryz
open Go Go.RowKit WB
abbrev atB (b:Nat) (k p:Int):HP:=bI b (.cells [Value.int .i64 k,.int .i64 p].toArray 248 (0,0))
def atV (b:Nat):Value:=.iface 247 (.pointer (some ⟨b,0,none⟩))
end Go.Proofs.YtjhogocabcdjbabGreatDoor
namespace WB
open Go
def bP (n:Int):ak:=⟨(Lib.itoa n).toArray⟩
def cS (xs:List ak) (sep:ak):ak:=⟨(Lib.join (xs.map (·.data.toList)) sep.data.toList).toArray⟩
def ob (n:Int):Prop:= -9223372036854775808<=n/\n<=9223372036854775807
def sp:ak:=⟨#[32]⟩
def oP (m:Ms):ak:=bP m.id++sp++bP m.pri++sp++m.body++sp++m.queue++sp++bP m.ck
def plus:ak:=⟨#[43]⟩
def ct (xs:List Ms):ak:=cS (xs.map oP) plus
theorem jw(s:ak):s.size=s.data.toList.length:=rfl
theorem cv{n:Int}(h:ob n):(bP n).size<=21:=by
 have :=Lib.itoa_length_le n h.1 h.2;simpa[bP,ByteArray.size]using this
theorem yv(x y:List UInt8)(r:List (List UInt8))(sep:List UInt8):Lib.join (x::y::r) sep=x++sep++Lib.join (y::r) sep:=by
 simp[Lib.join_cons,Lib.joinTail]
theorem J0(l:List (List UInt8))(x sep:List UInt8)(h:l≠[]):Lib.join (l++[x]) sep=Lib.join l sep++sep++x:=by
 cases l with
 |nil=>exact absurd rfl h
 |cons a r=>rw[bz,Lib.join_cons,Lib.join_cons];simp[Lib.joinTail]
theorem Gr(l:List ak)(x sep:ak)(h:l≠[]):cS (l++[x]) sep=cS l sep++sep++x:=by
 unfold cS;rw[aN,aJ,List.map_nil,J0 _ _ _ H4];apply ByteArray.ext;apply Array.ext';simp
theorem jL(x sep:ak):cS [x] sep=x:=by
 unfold cS;rw[aJ,List.map_nil,Lib.join_one]
theorem A0(sep:ak):cS [] sep=⟨#[]⟩:=rfl
theorem J1(x y sep:ak):cS [x,y] sep=x++sep++y:=by
 have :=Gr [x] y sep aj;rw[jL]at this;exact this
theorem fB(x y:ak)(r:List ak)(sep:ak):cS (x::y::r) sep=x++sep++cS (y::r) sep:=by
 unfold cS;rw[aJ,aJ,yv];apply ByteArray.ext;apply Array.ext';simp
theorem fN(sep:ak)(c:Nat):∀(l:List ak),(∀x∈l,x.size<=c)->(cS l sep).size<=l.length *(c+sep.size)
 |[],_=>by rw[A0];exact aV _
 |[x],h=>by
  have :=h x aj;rw[jL];simp;omega
 |x::y::r,h=>by
  have h1:=fN sep c (y::r) fun z hz=>h z (List.mem_cons_of_mem _ hz)
  have h2:=h x aj;rw[fB,aQ,aQ,List.length_cons,Nat.succ_mul];omega
theorem MH(l:List ak)(sep:ak):(Lib.join (l.map (·.data.toList)) sep.data.toList).length=(cS l sep).size:=by simp[cS,ByteArray.size]
theorem KB(a b c:ak):a++b++c=a++(b++c):=ByteArray.append_assoc
theorem AU{m:Ms}(h:bM m=true):(oP m).size<=100:=by
 obtain⟨h1,h2,h3,h4,h5,h6,h7,h8⟩:=bN h;have a1:=cv (n:=m.id) ⟨by omega,by omega⟩;have a2:=cv (n:=m.pri) ⟨by omega,by omega⟩;have a3:=cv (n:=m.ck) ⟨by omega,by omega⟩;have a4:m.body.size<=12:=by unfold ko du at h5;simp at h5;omega
 have a5:m.queue.size<=8:=by unfold c6 du at h6;simp at h6;omega
 have a6:sp.size=1:=rfl;unfold oP;simp only[aQ,a6];omega
theorem jZ{l:List Ms}(h:∀m∈l,bM m=true):(ct l).size<=l.length *101:=by
 unfold ct;have :=fN plus 100 (l.map oP) (fun x hx=>by obtain⟨m,hm,rfl⟩:=ay.1 hx;exact AU (h m hm));rw[aW]at this;exact this
def iV (xs:List Ms):Option Nat:=xs.findIdx? fun m=> !bM m
def abj (xs:List Ms):Int:=match iV xs with|none=>0|some _=>1
def abi (xs:List Ms):Int:=match iV xs with|none=> -1|some k=>(k:Int)
def abh (xs:List Ms):ak:=match iV xs with|none=>ct xs|some _=>⟨#[]⟩
theorem KK{xs:List Ms}(h:∀(j:Nat) m,xs[j]? =some m->bM m=true):iV xs=none:=by
 unfold iV;rw[List.findIdx?_eq_none_iff];intro m hm;obtain⟨j,hj,rfl⟩:=List.getElem_of_mem hm;simp[h j _ (ao hj)]
theorem dx{xs:List Ms}(h:iV xs=none):∀m∈xs,bM m=true:=by
 unfold iV at h;intro m hm;simpa using List.findIdx?_eq_none_iff.1 h m hm
open Go Go.RowKit Go.ChangeShapes Go.WideShapes Go.Deep
section
variable {H:Type} {enc:TypeId×Value->H}
theorem xo{C:Checked}{os:Os}{f:FuncId}{fn:Func}{s:OpenSpec}{conds:List PathCond}{apart:Bool}{laid:List (String×DataW Unit)}(modest:Bool)(w0:World)(args:Array Value)(Ci:w0.os=os)(hsh:(w0.forCall (fun _ _=>0) ⟨#[],args,[]⟩).Shaped C.prog)(jY:Input.okWideB C.prog (w0.forCall (fun _ _=>0) ⟨#[],args,[]⟩) f ⟨#[],args,[]⟩=true)(ab1:s.preRow enc C.prog fn conds apart laid (w0.forCall (fun _ _=>0) ⟨#[],args,[]⟩).memory args):
 ∃(w:World) (tape:Tape) (i:Input),w.os=os/\(w.forCall tape i).Shaped C.prog/\i.vars=[]/\Input.okWide C.prog (w.forCall tape i) .any w.heap.size f i/\
  s.preRow enc C.prog fn conds apart laid (w.forCall tape i).memory i.args/\({modest:=modest}:Assume).holds C.prog (lone (Frame.enter C.prog f i.args .normal) [] (w.forCall tape i)):=
 ⟨w0,fun _ _=>0,⟨#[],args,[]⟩,Ci,hsh,(Input.okWide_of_okWideB (base:=0) jY).1,(Input.okWide_of_okWideB jY).2,ab1,by
  simp only[Assume.holds]
  exact⟨by simp,by simp,fun _=>Modest.zero,by simp,by simp⟩⟩
variable {P:Program}
theorem El(hl:laidOutB P=true){W W':World}(hb:Below W.heap.size W W'):∀{ts:List TypeId} {vs:List Value} {ds:List (DataW H)} {ps:List MemPlace},(ts.all fun t=>P.readableRec t&&decide (t<P.types.size))=true->
 DataW.TrodAll enc P W 0 (fun _=>true) true ts vs ds ps->(∀x∈ps,x.block<W.heap.size)->DataW.TrodAll enc P W' 0 (fun b=>decide (b<W.heap.size)) true ts vs ds ps
 |[],[],[],_,_,h,_=>h
 |t::ts,v::vs,d::ds,ps,hr,⟨p,q,h1,h2,e⟩,dt=>by
  simp only[List.all_cons,a_,decide_eq_true_eq]at hr;exact⟨p,q,Below.trod hl hr.1.1 hr.1.2 h1 hb (fun x hx=>dt x (by rw[e];exact List.mem_append_left _ hx)),El hl hb (by simpa using hr.2) h2 (fun x hx=>dt x (by rw[e];exact List.mem_append_right _ hx)),e⟩
theorem sD{α:Type}{p:Nat->α->Prop}:∀(n:Nat),(∀i,i<n->∃x,p i x)->∃l:List α,l.length=n/\∀(i:Nat) (x:α),l[i]? =some x->p i x
 |0,_=>⟨[],rfl,fun i x h=>by simp at h⟩
 |n+1,h=>by
  obtain⟨l,hl,hp⟩:=sD n fun i hi=>h i ae
  obtain⟨x,hx⟩:=h n ae;refine⟨l++[x],by simp[hl],fun i y hy=>?_⟩;by_cases hi:i<l.length
  ·rw[List.getElem?_append_left hi]at hy;exact hp i y hy
  ·rw[aY ae]at hy;have :i-l.length=0:=by
    rcases Nat.eq_zero_or_pos (i-l.length)with h0|h0
    ·exact h0
    ·rw[bH fx]at hy;simp at hy
   rw[this]at hy;simp only[List.getElem?_cons_zero,az]at hy;rw[<-hy,show i=n by omega];exact hx
def vE {α:Type} (W:World) (sz:Nat) (cf:α->List Value) (v:Value) (xs:List α):Prop:=
 ∃a cap,v=.slice a xs.length cap/\∀(i:Nat) (x:α),xs[i]? =some x->∃ad,a=some ad/\cr W (ad.add (i *sz)) (cf x)
theorem PY{α:Type}{φ:α->Prop}{cf:α->List Value}{W:World}{t e:TypeId}{v:Value}{d:DataW H}{p:List MemPlace}{r:Reach}{base sz:Nat}(ht:P.underlying t=some (.slice e))(hv:Value.okWide P W r base t v)(h:DataW.Trod enc P W 0 (fun _=>true) true t v d p)(dr:P.cellsOf e=sz)(rd:∀n cs y,DataW.trod enc P W 0 (fun _=>true) true n e cs=some y->∃x:α,φ x/\cs=cf x):
 ∃xs:List α,vE W sz cf v xs/\∀x∈xs,φ x:=by
 obtain⟨a,len,cap,rfl⟩:=okWide_slice ht hv;obtain⟨fuel,hf⟩:=h;rcases open_slice ht hf with⟨kJ,_⟩|⟨a',afx,nz,m,n,D,Pl,kJ,_,hl,_,hm,_,hi⟩
 ·simp[Value.cells]at kJ;obtain⟨rfl,rfl,rfl⟩:=kJ;exact⟨[],⟨none,0,rfl,fun i x h=>by simp at h⟩,fun x hx=>by simp at hx⟩
 ·simp[Value.cells]at kJ;obtain⟨rfl,rfl,rfl⟩:=kJ;have key:∀i,i<len->∃x:α,φ x/\cr W (a'.add (i *sz)) (cf x):=fun i dt=>by
   obtain⟨Dc,hc,htr⟩:=hi i (by rw[hm];simp;omega);obtain⟨x,hx,rfl⟩:=rd n Dc _ htr;obtain⟨_,hlen,h_⟩:=World.cells?_some hc;refine⟨x,hx,fun j c hj=>?_⟩;have sM:=(au.1 hj).1;rw[<-dr];rw[h_ j ae];exact hj
  obtain⟨l,WM,hp⟩:=sD len key;refine⟨l,⟨some a',cap,by rw[WM],fun i x hx=>⟨a',rfl,(hp i x hx).2⟩⟩,fun x hx=>?_⟩;obtain⟨i,hi,rfl⟩:=List.getElem_of_mem hx;exact(hp i _ (ao hi)).1
end
section
variable {H:Type} {enc:TypeId×Value->H} {P:Program} {W:World} {base:Nat} {spare:Nat->Bool} {held:Bool}
theorem LI{t:TypeId}{fs:Array Field}{n:Nat}{cs:List Value}{y:DataW H×List MemPlace}(hu:P.underlying t=some (.struct fs))(h:DataW.trod enc P W base spare held n t cs=some y){k:Nat}(hk:P.cellsOf t=k):cs.length=k:=by
 obtain⟨_,_,_,_,hl,_⟩:=DataW.trod_struct hu h;rw[hl,hk]
theorem F1{t:TypeId}{fs:Array Field}{n:Nat}{cs:List Value}{y:DataW H×List MemPlace}(hu:P.underlying t=some (.struct fs))(h:DataW.trod enc P W base spare held n t cs=some y)(i off:Nat)(ty:TypeId)(sz:Nat)(hf:(fs[i]?).map (fun f=>(f.offset,f.type))=some (off,ty))(hc:P.cellsOf ty=sz):∃m y',DataW.trod enc P W base spare held m ty ((cs.drop off).take sz)=some y':=by
 obtain⟨xs,m,_,_,_,hx,fg⟩:=DataW.trod_struct hu h;cases Lj:fs[i]? with
 |none=>rw[Lj]at hf;simp at hf
 |some f=>
  rw[Lj]at hf;simp only[Option.map_some,az,Prod.mk.injEq]at hf;obtain⟨rfl,rfl⟩:=hf;have h1:=fg i f Lj;have dt:i<xs.length:=by rw[hx];exact(Array.getElem?_eq_some_iff.1 Lj).1
  rw[ao dt,hc]at h1;exact⟨m,_,h1⟩
theorem xB{t:TypeId}{fs:Array Field}{n:Nat}{cs:List Value}{y:DataW H×List MemPlace}(hu:P.underlying t=some (.struct fs))(h:DataW.trod enc P W base spare held n t cs=some y)(i off:Nat)(ty:TypeId){k:IntKind}(hf:(fs[i]?).map (fun f=>(f.offset,f.type))=some (off,ty))(hc:P.cellsOf ty=1)(XU:P.underlying ty=some (.int k)):∃z:Int,cs[off]? =some (.int k z)/\(Lit.int k z).wf=true:=by
 obtain⟨m,y',h1⟩:=F1 hu h i off ty 1 hf hc;obtain⟨z,e,_,hz⟩:=DataW.trod_int XU h1;refine⟨z,?_,hz⟩;have :=congrArg (fun l=>l[0]?) e;simpa using this
end
open Go Go.RowKit
theorem oa{P:Program}{W:World}:∀{l:List (String×DataW Unit)} {ps:List MemPlace},DataW.LaidVars P W l ps->∀x∈l,∃g t cs fuel p,P.globalNamed x.1=some g/\(P.globals[g]?).map (·.type)=some t/\W.var? P x.1=some cs/\DataW.trod (fun _=>()) P W 0 (fun _=>true) false fuel t cs.toList=some (x.2,p)
 |[],_,_,x,hx=>by cases hx
 |(n,d)::r,ps,h,x,hx=>by
  obtain⟨g,t,cs,fuel,p,q,h1,h2,h3,h4,h5,_⟩:=h;rcases aD.1 hx with rfl|hx
  ·exact⟨g,t,cs,fuel,p,h1,h2,h3,h4⟩
  ·exact oa h5 x hx
theorem DD{P:Program}{W:World}{name:String}{k:IntKind}{zs:List Int}{l:List (String×DataW Unit)}{g:Nat}{t e:TypeId}{n:Nat}(h:laidMet P l W)(hm:(name,Lib.tabData k zs)∈l)(hg:P.globalNamed name=some g)(XU:(P.globals[g]?).map (·.type)=some t)(ht:P.underlying t=some (.array n e))(he:P.underlying e=some (.int k))(hce:P.cellsOf e=1)(Nh:P.cellsOf t=n):Lib.TabIs P W name k zs:=by
 obtain⟨ps,hv,_⟩:=h;obtain⟨g',t',cs,fuel,p,h1,h2,h3,h4⟩:=oa hv _ hm;obtain rfl:=Option.some.inj (hg.symm.trans h1);obtain rfl:=Option.some.inj (XU.symm.trans h2);unfold Lib.TabIs;rw[h3,<-Lib.cells_of_tab ht he hce Nh h4]
end WB
namespace Go.Proofs.YtjhogocabcdjbabGreatDoor
open Tryz
open Go Go.RowKit WB
def o0 (w:World):Prop:=Lib.TabIs prog w "internal/strconv.uint64pow10" .u64 Lib.pow10Tab
theorem o0.ext{w w':World}(h:o0 w)(e:Ext w w'):o0 w':=by
 unfold o0 Lib.TabIs World.var? at *;cases hg:prog.globalNamed "internal/strconv.uint64pow10" with
 |none=>rw[hg]at h;simp at h
 |some g=>
  rw[hg]at h;simp only[Option.bind_some]at h ⊢;cases hb:w.heap[g]? with
  |none=>rw[hb]at h;simp at h
  |some o=>rw[e.2 g (Array.getElem?_eq_some_iff.1 hb).1,hb];rw[hb]at h;exact h
theorem jM(w0:World)(L:List HP)(n:Int)(hT:o0 w0)(hn:ob n):KE prog 59 #[.int .i64 n] w0 L (fun u M=>u=.string (bP n)/\M=L):=KE.bW fun w hw=>by
 refine(Tryz.strconv_Itoa n hn.1 hn.2 w (hT.ext (Ext.bW hw.below))).mono ?_;rintro e w' ⟨rfl,k,os,rfl⟩;exact⟨rfl,Lib.below_grow _ _ (aF _) _ _⟩
theorem xZ{W W':World}{v:Value}{xs:List Ms}(h:vE W 5 dh v xs)(e:Ext W W'):vE W' 5 dh v xs:=by
 obtain⟨a,cap,rfl,hc⟩:=h;exact⟨a,cap,rfl,fun i x hx=>by obtain⟨ad,rfl,hh⟩:=hc i x hx;exact⟨ad,rfl,hh.ext e⟩⟩
def j7 (s:ak):List Value:=[.string s]
abbrev kO (v:Value) (xs:List ak):HP:=SL 9 1 j7 v xs
theorem lv:(prog.info? 9).map (fun i=>(i.zero,i.size,i.bytes))=some (some (Value.string ⟨#[]⟩),1,16):=by kernel_rfl
theorem tU(w0:World)(L R:List HP)(v:Value)(xs:List ak)(sep:ak)(hp:bF L (kO v xs) R)(hn:xs.length<=1000000)(hs:(cS xs sep).size<=1000000000):KE prog 62 #[v,.string sep] w0 L (fun u M=>u=.string (cS xs sep)/\M=L):=KE.bW fun w hw=>by
 rcases(hw.pick hp).cH with⟨h1,h2,_⟩|⟨g,cap,cur,h1,h2,h3,h4,h5,h6,h7⟩
 ·have hx:xs=[]:=List.eq_nil_of_length_eq_zero h2;subst hx;subst h1;refine(Tryz.strings_Join_none none 0 sep w).mono ?_;rintro e w' ⟨rfl,rfl⟩;exact⟨rfl,Below.refl _ _⟩
 ·subst h1;have hc:∀(j:Nat) x,xs[j]? =some x->w.cell? ⟨g,0+j,none⟩=some (.string x):=fun j x hx=>by
   have :=nF (cf:=j7) (sz:=1) (fun _=>rfl) (hw.pick hp) hx 0 ai;rw[Nat.zero_add];simpa[j7]using this
  refine(Tryz.strings_Join g 0 cap xs sep w hc h7.lt ae h2 (by rw[MH];omega)).mono ?_;rintro e w' ⟨rfl,hb⟩;exact⟨rfl,hb⟩
def inC (n:Int):List Value:=[.int .i64 n]
theorem JQ(w0:World)(L:List HP)(m:Ms)(hb:m.body.size<=maxLen)(hq:m.queue.size<=maxLen):KE prog 154 #[.agg (dh m).toArray] w0 L (fun u M=>u=.bool (!bM m)/\M=L):=by
 refine KE.mk (n:=6) func154 rfl ntmps154 aj ?_;intro w hw;refine Z3 ?_;refine KO.box rfl rfl aP rfl ?_;intro b1;refine lZ ?_;refine CZ ?_;refine KO.ce (cp:=[]) rfl rfl rfl call145 rfl (Ip w _ m hb hq) ?_;rintro v' L' ⟨rfl,rfl⟩;refine oV ?_;refine iW ?_;refine KQ.bB rfl rfl (fun w' hs=>⟨_,_,rfl,⟨rfl,rfl⟩,hw.aC hs.below,hs.below⟩)
theorem MP(w0:World)(L:List HP)(v:Value)(xs:List Ms)(f:FuncId)(cp:List Value)(pf:Ms->Bool)(hr:∀w,St w0 L w->vE w 5 dh v xs)(hlen:xs.length<1000000)(gm:∀args w,(callFunc f args).run prog w=.ok (.enter f args) w)(qg:∀e,e∈xs->KE prog f ([]++([Value.agg (dh e).toArray]++cp)).toArray w0 L (fun v L'=>v=.bool (pf e)/\L'=L)):
 KE prog 153 #[v,.func (.func f) [].toArray cp.toArray] w0 L (fun v L'=>v=.int .i64 (np pf xs)/\L'=L):=by
 refine KE.mk (n:=19) func153 rfl ntmps153 aj ?_;intro w hw;obtain⟨a,cap,rfl,hc⟩:=hr w hw;refine oX ?_;refine CU ?_;refine K.loop (fun k:Nat=>[(0,.slice a xs.length cap),(1,.func (.func f) [].toArray cp.toArray),(7,.int .i64 (xs.length:Nat)),(8,.int .i64 (k:Nat))]) (fun _=>[]) (fun k=>k<=xs.length/\∀(j:Nat) (u:Ms),j<k->xs[j]? =some u->pf u=false) (fun k=>xs.length-k) 0 ⟨by omega,fun j u h=>by omega⟩ ⟨rfl,rfl,rfl,rfl,trivial⟩ (fun _ h=>h) ?_;rintro k ⟨hk,qO⟩;refine hF ?_;refine K.br rfl (fun h=>?_) (fun h=>?_)
 ·have dt:k<xs.length:=by omega
  obtain⟨e,he⟩:∃e,xs[k]? =some e:=⟨xs[k],ao dt⟩;obtain⟨ad,rfl,hh⟩:=hc k e he;refine sZ ?_;refine lL ?_;refine lK ?_;refine KO.Gu rfl rfl runUnderlying49 sizeOf44 aP ae rfl ?_;refine KO.JX (cs:=(dh e).toArray) rfl rfl isAgg44 sizeOf44 rfl hh rfl ?_;refine KO.ce rfl rfl rfl gm rfl ((qg e (ax he)).px hw) ?_;rintro v L' ⟨rfl,rfl⟩;refine Z2 ?_;refine K.cond rfl (fun h1=>?_) (fun h1=>?_)
  ·refine jB ?_;refine kG ?_;refine KQ.bB rfl rfl (fun w' hs=>⟨_,_,rfl,⟨?_,rfl⟩,hw.aC hs.below,hs.below⟩);rw[yS he h1 qO]
  ·refine qF ?_;refine KQ.round (k+1) ⟨by omega,fun j u hj hu=>?_⟩ ae ⟨rfl,rfl,rfl,rfl,trivial⟩ (fun _ h=>h);by_cases IL:j=k
   ·subst IL;rw[he]at hu;simp only[az]at hu;rw[<-hu];exact h1
   ·exact qO j u ae hu
 ·refine Hv ?_;refine KQ.bB rfl rfl (fun w' hs=>⟨_,_,rfl,⟨?_,rfl⟩,hw.aC hs.below,hs.below⟩);rw[ur fun j u hu=>qO j u Y16 hu]
def OJ (L:List HP) (xs:List Ms) (u:Value) (M:List HP):Prop:=
 match iV xs with
 |none=>u=.tuple #[.string (ct xs),.nilIface]/\M=L
 |some k=> ∃b,u=.tuple #[.string ⟨#[]⟩,atV b]/\M=atB b 1 k::L
theorem kg(w0:World)(L:List HP)(v:Value)(xs:List Ms)(hr:∀w,St w0 L w->vE w 5 dh v xs)(hT:o0 w0)(dr:∀m∈xs,m.body.size<=maxLen/\m.queue.size<=maxLen)(hl:xs.length<=100000):
 KE prog 60 #[v] w0 L (OJ L xs):=by
 refine KE.mk (n:=49) func60 rfl ntmps60 aj ?_;intro w hw;have UW:=hT.ext (Ext.bW hw.below);have hrw:=hr w hw;obtain⟨sa,cap,rfl,hc⟩:=hrw;refine rN ?_;refine lL ?_;refine KO.ce (cp:=[]) rfl rfl rfl call153 rfl (MP w _ _ xs 154 [] (fun m=> !bM m) (fun w' hw'=>xZ ⟨sa,cap,rfl,hc⟩ (Ext.bW hw'.below)) ae call154 (fun e he=>JQ w _ e (dr e he).1 (dr e he).2)) ?_;rintro v' L' ⟨rfl,rfl⟩;refine lL ?_;refine vD ?_;refine Z2 ?_;refine K.br rfl (fun h=>?_) (fun h=>?_)
 ·obtain⟨k,m,hk,hm,hb,dt,Lj⟩:=mo h;have eZ:iV xs=some k:=Lj;rw[hk];refine jB ?_;refine KO.Vq (pl:=[(0,1),(1,1)]) [.int .i64 1,.int .i64 (k:Nat)] rfl zeroValue248 runUnderlying248 (by intro w;simp[sizeOf3,sizeOf70]) rfl rfl ?_;refine KO.box rfl rfl aP rfl ?_;intro b14;refine Z30 ?_;refine qX ?_;refine KQ.eE rfl rfl rfl (fun w' hs=>⟨_,_,rfl,?_,hw.stack hs,hs.below⟩);unfold OJ;rw[eZ];exact⟨_,rfl,rfl⟩
 ·have eZ:iV xs=none:=sR ae;have fg:=dx eZ;refine wx ?_;refine lL ?_;refine CU ?_;refine K.loop (fun s:Nat×Value=>[(5,s.2),(16,.slice sa xs.length cap),(17,.int .i64 (xs.length:Nat)),(18,.int .i64 (s.1:Nat))]) (fun s=>[kO s.2 ((xs.take s.1).map oP)]) (fun s=>s.1<=xs.length) (fun s=>xs.length-s.1) (0,.slice none 0 0)
   (aV _) ⟨rfl,rfl,rfl,rfl,trivial⟩ (fun _ h=>cD h) ?_
  rintro⟨k,vo⟩ hk;dsimp only at hk ⊢;refine hF ?_;refine K.br rfl (fun h1=>?_) (fun h1=>?_)
  ·obtain⟨m,hm⟩:∃e,xs[k]? =some e:=⟨xs[k],ao ae⟩;obtain⟨ad,rfl,hh⟩:=hc k m hm;have h6:=fg m (ax hm);have hrp:=bN h6;have i1:ob m.id:=⟨by omega,by omega⟩;have i2:ob m.pri:=⟨by omega,by omega⟩;have i3:ob m.ck:=⟨by omega,by omega⟩;have z1:=cv i1;have z2:=cv i2;have z3:=cv i3;have z4:m.body.size<=12:=by have :=hrp.2.2.2.2.1;unfold ko du at this;simp at this;omega
   have z5:m.queue.size<=8:=by have :=hrp.2.2.2.2.2.1;unfold c6 du at this;simp at this;omega
   have z6:(⟨#[32]⟩:ak).size=1:=rfl;have z7:sp.size=1:=rfl;have hlen:((xs.take k).map oP).length<1000000:=by simp;omega
   refine oY ?_;refine KO.Gu rfl rfl runUnderlying49 sizeOf44 aP ae rfl ?_;refine KO.JX (cs:=(dh m).toArray) rfl rfl isAgg44 sizeOf44 rfl hh rfl ?_;refine KO.alloc rfl zeroValue44 aP rfl ?_;intro b7;refine Jc ?_;refine Z2 ?_;refine K.draw [.pure,.pure,.read,.c7,.pure,.pure,.read,.c7,.pure,.pure,.pure,.read,.pure,.pure,.pure,.read,.pure,.pure,.pure,.read,.c7,.pure,.c7,.write,.pure] [0,1,2,5,6,10,11,14,15,18,19,3,4,7,8,9,12,13,16,17,20,21,22,23,24] bC bC ?_;refine Z1 ?_;refine HU ?_;refine Vx ?_;refine s7 ?_;refine K0 ?_;refine wE ?_;refine N5 ?_;refine wE ?_;refine N4 ?_;refine s7 ?_;refine KO.ce (cp:=[]) rfl rfl rfl call59 rfl (jM w _ m.id UW i1) ?_;rintro v' L' ⟨rfl,rfl⟩;refine Fu ?_;refine KO.ce (cp:=[]) rfl rfl rfl call59 rfl (jM w _ m.pri UW i2) ?_;rintro v' L' ⟨rfl,rfl⟩;refine Fu ?_;refine Fu ?_;refine Fu ?_;refine Fu ?_;refine Fu ?_;refine Fu ?_;refine KO.ce (cp:=[]) rfl rfl rfl call59 rfl (jM w _ m.ck UW i3) ?_;rintro v' L' ⟨rfl,rfl⟩;refine Fu ?_;refine KO.kL (z:=(Value.string ⟨#[]⟩)) (sz:=1) (dI:=16) rfl rfl underlying115 bC aP aP ai ai rfl ?_;intro Lp
   refine KO.app (z:=Value.string ⟨#[]⟩) (sz:=1) (dI:=16) rfl rfl rfl bn bQ underlying115 lv rfl (oP m) aP aP aP ae ai rfl ?_;intro v';refine uM ?_;refine KQ.round (k+1,v') gV gV ⟨rfl,rfl,rfl,rfl,trivial⟩ (fun _ h=>?_);dsimp only;rw[bG hm,aN,aJ,List.map_nil];exact(h.pick bQ).O3 (rW.nil _)
  ·have ru:k=xs.length:=by omega
   rw[ru,List.take_length];have sG:=jZ fg;refine wo ?_;refine KO.ce (cp:=[]) rfl rfl rfl call62 rfl (tU w _ _ vo (xs.map oP) plus bQ fx (by unfold ct at sG;omega)) ?_;rintro v' L' ⟨rfl,rfl⟩;refine pO ?_;refine KQ.eE rfl rfl rfl (fun w' hs=>⟨_,_,rfl,?_,hw.aC hs.below,hs.below⟩);unfold OJ;rw[eZ];exact⟨rfl,rfl⟩
end Go.Proofs.YtjhogocabcdjbabGreatDoor
namespace WB
open Go Go.RowKit
def kf (o:Oper):Bool:=match o.op with| .defer _=>false|_=>true
abbrev FR (l:Nat):Fence:=Fence.wide.inRound l
section
variable {P:Program} {ops:Array Oper} {Q:Exit->Act->World->Prop} {l:Nat}
theorem Eb{o:Oper}(h:kf o=true):∀c,o.op≠ .defer c:=fun c e=>by unfold kf at h;rw[e]at h;cases h
theorem Jx{row:String}{args:Array Value}{w:World}{R:Value->World->Prop}(h:Rows P row args w R):RowsIn (FR l) 0 P row args w R:=fun c cs _=>
 let⟨v,w',r,s⟩:=h c cs;⟨v,w',r,stepsIn_wide.2 s⟩
theorem Ji{o:Oper}{a:Act}{N N':Act->World->Prop}{r:Result Next}(hn:∀a w,N a w->N' a w)(h:o.upon P a N Q r):o.uponIn (FR l) 0 P a N' Q r:=by
 cases r with
 |ok x w'=>
  cases x with
  |value v=>exact hn _ _ h
  |skip=>exact hn _ _ h
  |defer d=>exact hn _ _ h
  |enter f args=>
   refine⟨fun _=>by simp[Fence.wide]at *,CallsIn.inRound l (callsIn_wide.2 (h.mono fun e w hh=>?_))⟩;cases e with
   |returned v=>exact hn _ _ hh
   |panicked c=>exact hh
   |outgrown=>exact hh
  |row row args=>exact⟨fun _=>by simp[Fence.wide]at *,(Jx h).mono fun v w hh=>hn _ _ hh⟩
  |_=>exact h.elim
 |halt s w'=>
  cases s with
  |panic v=>exact h
  |_=>exact h.elim
theorem xg{o:Oper}{a:Act}{w:World}{N N':Act->World->Prop}(hd:kf o=true)(hn:∀a w,N a w->N' a w)(h:o.wp P a w N Q):o.wpIn (FR l) 0 P a w N' Q:=
 ⟨fun _ _=>trivial,by
  show o.uponIn (FR l) 0 P a N' Q ((o.semAt (some l) a.eval).run P w)
  rw[Oper.semAt_some l _ _ (Eb hd)]
  exact Ji hn h⟩
theorem pd(hQ:∀a w,¬Q .outgrown a w):∀{os:List Oper} (_:os.all kf=true) {a:Act} {w:World},wpList P ops Q os a w->wpListIn (FR l) 0 P ops Q os a w
 |[],_,_,_,h=>h
 |o::os,hd,a,w,h=>by
  simp only[List.all_cons,a_]at hd;unfold wpList at h;unfold wpListIn;split
  ·rename_i hw;rw[if_pos hw]at h;rcases h with h|⟨_,a0,w0,h⟩
   ·exact xg hd.1 (fun a w hh=>pd hQ hd.2 hh) h
   ·exact absurd h (hQ _ _)
  ·rename_i hw;rw[if_neg hw]at h;exact⟨fun _ _=>trivial,pd hQ hd.2 h⟩
theorem nL(hQ:∀a w,¬Q .outgrown a w)(hd:ops.toList.all kf=true):∀{s:List Nat} {a:Act} {w:World},wpOps P ops Q s a w->wpOpsIn (FR l) 0 P ops Q s a w
 |[],_,_,h=>h
 |i::s,a,w,h=>by
  unfold wpOps at h;unfold wpOpsIn;cases ho:ops[i]? with
  |none=>rw[ho]at h;exact nL hQ hd h
  |some o=>
   rw[ho]at h;simp only at h ⊢;split
   ·rename_i hw;rw[if_pos hw]at h;rcases h with h|⟨_,a0,w0,h⟩
    ·exact xg (aI.1 hd o (Array.mem_toList_iff.2 (Array.mem_of_getElem? ho))) (fun a w hh=>nL hQ hd hh) h
    ·exact absurd h (hQ _ _)
   ·rename_i hw;rw[if_neg hw]at h;exact⟨fun _ _=>trivial,nL hQ hd h⟩
theorem vG{id:Nat}{a:Act}{w:World}(ks:List Kd)(ord:List Nat)(pC:P.follows .mixedOrders=true)(jY:Wu ops ks ord=true)(hQ:∀a w,¬Q .outgrown a w)(hd:ops.toList.all kf=true)(h:ij P ops Q (ord.map (item ops ks)) a w.drew):(Code.region id ops true).wpIn (FR l) 0 P Q a w:=by
 simp only[Wu,a_]at jY;obtain⟨hb,ha,fg,dt,hp⟩:=jY;refine wpIn_region_draw fun t=>nL hQ hd ?_
 have hv:Valid ops (Region.schedule (P.follows .mixedOrders) ops t):=je _ pC _ _ fun i o ho d hd=>by
  have hi:i<ops.size:=(Array.getElem?_eq_some_iff.1 ho).1
  have h1:=aI.1 (aI.1 hb i (aZ.2 hi)) d (by
   have :ops.toList.getD i default=o:=by
    simp[Array.getElem?_eq_getElem hi]at ho ⊢;simp[ho]
   rw[this];exact hd)
  simpa[Nat.blt_eq]using h1
 generalize Region.schedule (P.follows .mixedOrders) ops t=l at hv ⊢;refine tP hb ha hv l [] ord rfl (fun x=>?_) hp a _ h;rw[hv.2.1 x];constructor
 ·intro hx;simpa[Nat.blt_eq]using aI.1 dt x hx
 ·intro hx;exact List.contains_iff_mem.1 (aI.1 fg x (aZ.2 hx))
end
def KR (l:Nat) (P:Program) (c:Code) (Q:Exit->Act->World->Prop) (n:Nat) (D:List Deferred) (w0:World) (G:Env) (L:List HP):Prop:=
 ∀a w,cE n D G a->St w0 L w->c.wpIn (FR l) 0 P Q a w
section
variable {P:Program} {ops:Array Oper} {Q:Exit->Act->World->Prop} {n l:Nat} {D:List Deferred} {w0:World} {G G':Env} {L L' R:List HP} {c x y:Code} {e:Exit}
theorem KR.K9{id:Nat}{os:List Oper}(hd:os.all kf=true)(hQ:∀a w,¬Q .outgrown a w)(h:KO P os.toArray false Q n D w0 G L (wr os)):KR l P (.region id os.toArray false) Q n D w0 G L:=fun a w ha hw=>by
 have :=h a w ha hw;simp only[Ii,FV]at this;exact wpIn_region_lit (pd hQ hd this)
theorem KR.draw{id:Nat}(ks:List Kd)(ord:List Nat)(pC:P.follows .mixedOrders=true)(jY:Wu ops ks ord=true)(hd:ops.toList.all kf=true)(hQ:∀a w,¬Q .outgrown a w)(h:KO P ops true Q n D w0 G L (ord.map (item ops ks))):KR l P (.region id ops true) Q n D w0 G L:=fun a _ ha hw=>
 vG ks ord pC jY hQ hd (h a _ ha hw.drew)
theorem KR.seq(h:KR l P x (Exit.then (y.wpIn (FR l) 0 P Q) Q) n D w0 G L):KR l P (.seq x y) Q n D w0 G L:=fun a w ha hw=>wpIn_seq (h a w ha hw)
theorem KR.block{id:Nat}(h:KR l P x (Exit.inBlock id Q) n D w0 G L):KR l P (.block id x) Q n D w0 G L:=fun a w ha hw=>wpIn_block (h a w ha hw)
theorem KR.ret(h:KQ Q .ret n D w0 G L):KR l P .ret Q n D w0 G L:=fun a w ha hw=>wpIn_ret (h a w ha hw)
theorem KR.skip(h:KQ Q .normal n D w0 G L):KR l P .skip Q n D w0 G L:=fun a w ha hw=>wpIn_skip (h a w ha hw)
theorem KR.exit{id:Nat}(h:KQ Q (.exit id) n D w0 G L):KR l P (.exit id) Q n D w0 G L:=fun a w ha hw=>wpIn_exit (h a w ha hw)
theorem KR.cond{cd:Operand}{b:Bool}(hc:ev G cd=some (.bool b))(ht:b=true->KR l P x Q n D w0 G L)(hf:b=false->KR l P y Q n D w0 G L):KR l P (.cond cd x y) Q n D w0 G L:=fun a w ha hw=>
 wpIn_cond_split (ha.eval hc) (fun e=>ht e a w ha hw) (fun e=>hf e a w ha hw)
theorem KR.br{cd:Operand}{p:Prop}[Decidable p](hc:ev G cd=some (.bool (decide p)))(ht:p->KR l P x Q n D w0 G L)(hf:¬p->KR l P y Q n D w0 G L):KR l P (.cond cd x y) Q n D w0 G L:=
 KR.cond hc (fun e=>ht (of_decide_eq_true e)) (fun e=>hf (of_decide_eq_false e))
theorem KR.cL{cd:Operand}{b:Bool}(hc:ev G cd=some (.bool b))(hb:b=true)(h:KR l P x Q n D w0 G L):KR l P (.cond cd x y) Q n D w0 G L:=
 KR.cond hc (fun _=>h) (fun e=>by rw[hb]at e;cases e)
theorem KR.da{cd:Operand}{b:Bool}(hc:ev G cd=some (.bool b))(hb:b=false)(h:KR l P y Q n D w0 G L):KR l P (.cond cd x y) Q n D w0 G L:=
 KR.cond hc (fun e=>by rw[hb]at e;cases e) (fun _=>h)
theorem KQ.sx(h:KR l P y Q n D w0 G L):KQ (Exit.then (y.wpIn (FR l) 0 P Q) Q) .normal n D w0 G L:=h
theorem KR.conv(hs:∀w,St w0 L w->St w0 L' w)(h:KR l P c Q n D w0 G L'):KR l P c Q n D w0 G L:=fun a w ha hw=>h a w ha (hs w hw)
theorem KR.cut{α:Type}{c1 c2:Code}{L:List HP}(E:α->Env)(H:α->List HP)(φ:α->Prop)(h1:KR l P c1 (Exit.then (OM n D w0 E H φ) Q) n D w0 G L)(h2:∀y,φ y->KR l P c2 Q n D w0 (E y) (H y)):KR l P c1 (Exit.then (c2.wpIn (FR l) 0 P Q) Q) n D w0 G L:=fun a w ha hw=>
 Go.wpIn_mono (h1 a w ha hw) fun e a w hq=>by
  cases e with
  |normal=>obtain⟨y,hy,ha,hw⟩:=hq;exact h2 y hy a w ha hw
  |_=>exact hq
theorem KR.loop{α:Type}(E:α->Env)(H:α->List HP)(φ:α->Prop)(m:α->Nat)(x0:α)(h0:φ x0)(hG:C5 G (E x0))(hL:∀w,St w0 L w->St w0 (H x0) w)(round:∀x,φ x->KR l P c (Exit.then (ON n D w0 E H φ m x) Q) n D w0 (E x) (H x)):KR l P (.loop c) Q n D w0 G L:=fun a w ha hw=>by
 intro b k cs hro hb hr;have key:∀(N:Nat) (x:α) (a:Act) (w:World),m x<N->φ x->cE n D (E x) a->St w0 (H x) w->
  ∃e a' w',Q e a' w'/\ArrivesIn (Machine.fenced P (FR l)) P (lone (b.atR a (.code c::.inLoop c::k)) cs w) b k cs e a' w':=by
  intro N
  induction N with
  |zero=>intro x a w h;omega
  |succ N ih=>
   intro x a w dt hx ha hw;obtain⟨e,a₁,w₁,hq,EU⟩:=round x hx a w ha hw b (.inLoop c::k) cs hro hb hr;cases e with
   |normal=>
    obtain⟨y,hy,QH,qC,hw'⟩:=hq;obtain⟨e₂,a₂,w₂,hq₂,YB⟩:=ih y a₁ w₁ ae hy qC hw';exact⟨e₂,a₂,w₂,hq₂,.of_steps (StepsIn.trans EU (.one (fenced_calm hb hr rfl) stepR_inLoop)) YB⟩
   |exit id=>exact⟨_,a₁,w₁,hq,.pass (x:=.inLoop c) rfl (fun _ _=>.inl aj) EU⟩
   |goto l=>exact⟨_,a₁,w₁,hq,.pass (x:=.inLoop c) rfl (fun _ _=>.inl aj) EU⟩
   |ret=>exact⟨_,a₁,w₁,hq,.pass (x:=.inLoop c) rfl (fun _ _=>.inl aj) EU⟩
   |panic ch=>exact⟨_,a₁,w₁,hq,.pass (x:=.inLoop c) rfl (fun _ _=>.inl aj) EU⟩
   |outgrown=>exact⟨_,a₁,w₁,hq,.pass (x:=.inLoop c) rfl (fun _ _=>.inl aj) EU⟩
 obtain⟨e,a',w',hq,EU⟩:=key (m x0+1) x0 a w (Nat.lt_succ_self _) h0 (ha.sub hG) (hL w hw);exact⟨e,a',w',hq,.of_steps (.one (fenced_calm hb hr rfl) stepR_loop) EU⟩
end
def OS (b:Nat):Deferred:={target:=.collected b,args:=#[]}
theorem St.put{w0 w:World}{L:List HP}{b:Nat}{o:Obj}(h:St w0 (bI b o::L) w)(o':Obj):St w0 (bI b o'::L) (w.putObj b o'):=
 h.upd rfl rfl rfl aj (World.putObj_heap_same h.lt) fun k hk=>World.putObj_heap_other hk
section
variable {P:Program} {f:FuncId} {args:Array Value} {w0:World} {L M M' KL:List HP} {R:Value->List HP->Prop} {fn:Func} {n:Nat} {G:Env} {RE:Ending->World->Prop} {v v1 v2:Value} {t1 t2:Nat} {T T' E E':TypeId} {b1 b2:Nat} {cs Dc:List Value} {fz fz':Nat×Nat}
theorem KE.mkM{c:Code}(hf:P.funcs[f]? =some fn)(hb:fn.body=some c)(hn:fn.ntmps=n)(dr:args.size<=n)(h:∀w,St w0 L w->K P c (bodyPostM Fence.wide 0 P fn fun e w'=> ∃v L',e=.returned v/\R v L'/\St w0 L' w'/\Below w.heap.size w w') n [] w (oq 0 args.toList) []):KE P f args w0 L R:=fun w hw=>by
 subst hn;exact callsIn_wide.1 (callsIn_of_wp_marks (n:=0) hf hb trivial (wpIn_wide.2 (h w hw _ w (cE.enter dr) (St.init w))))
theorem KQ.adt(hr:∀a w,cE n [] G a->St w0 L w->(results fn a.tmps).run P w=.ok v w)(h:∀w,St w0 L w->RE (.returned v) w):KQ (bodyPostM Fence.wide 0 P fn RE) .ret n [] w0 G L:=fun a w ha hw=>by
 show LeavesInM _ _ _ _ _ _ a.defers _ _
 rw[ha.defers];exact⟨v,hr a w ha hw,h w hw⟩
theorem KQ.Zd{b:Nat}(hp:bF L (bI b (.deferred (some []))) M)(hr:∀a w,cE n [OS b] G a->St w0 M w->(results fn a.tmps).run P w=.ok v w)(h:∀w,St w0 M w->RE (.returned v) w):KQ (bodyPostM Fence.wide 0 P fn RE) .ret n [OS b] w0 G L:=fun a w ha hw=>by
 show LeavesInM _ _ _ _ _ _ a.defers _ _
 rw[ha.defers];have h1:=hw.pick hp;have h2:=(h1.put (.deferred none)).drop;exact⟨by simp,.inl ⟨b,_,rfl,run_takeDeferred h1.look.2,v,hr a _ ha h2,h _ h2⟩⟩
theorem Sx{D:List Deferred}(hr:fn.results=#[.cell t1 T,.cell t2 T'])(h1:cQ G t1=some (.pointer (some ⟨b1,0,none⟩)))(h2:cQ G t2=some (.pointer (some ⟨b2,0,none⟩)))(hT:∀w,(isAgg T).run P w=.ok false w)(YF:∀w,(isAgg T').run P w=.ok false w)(hp:bF L (bI b1 (.cells [v1].toArray E fz)) M)(zV:bF L (bI b2 (.cells [v2].toArray E' fz')) M')(a:Act)(w:World)(ha:cE n D G a)(hw:St w0 L w):
 (results fn a.tmps).run P w=.ok (.tuple #[v1,v2]) w:=by
 have l1:(loadVar T ⟨b1,0,none⟩).run P w=.ok v1 w:=fJ (hT w) (by rw[World.cell?,(hw.oD hp).2];simp);have l2:(loadVar T' ⟨b2,0,none⟩).run P w=.ok v2 w:=fJ (YF w) (by rw[World.cell?,(hw.oD zV).2];simp);simp[results,hr,Array.getD_eq_getD_getElem?,ha.get _ _ h1,ha.get _ _ h2,asAddr,l1,l2]
theorem KQ.TF(hr:fn.results=#[.cell t1 T,.cell t2 T'])(h1:cQ G t1=some (.pointer (some ⟨b1,0,none⟩)))(h2:cQ G t2=some (.pointer (some ⟨b2,0,none⟩)))(hT:∀w,(isAgg T).run P w=.ok false w)(YF:∀w,(isAgg T').run P w=.ok false w)(hp:bF L (bI b1 (.cells [v1].toArray E fz)) M)(zV:bF L (bI b2 (.cells [v2].toArray E' fz')) M')(h:∀w,St w0 L w->RE (.returned (.tuple #[v1,v2])) w):
 KQ (bodyPostM Fence.wide 0 P fn RE) .ret n [] w0 G L:=KQ.adt (fun a w ha hw=>Sx hr h1 h2 hT YF hp zV a w ha hw) h
theorem KQ.wN{b:Nat}(hd:bF L (bI b (.deferred (some []))) KL)(hr:fn.results=#[.cell t1 T,.cell t2 T'])(h1:cQ G t1=some (.pointer (some ⟨b1,0,none⟩)))(h2:cQ G t2=some (.pointer (some ⟨b2,0,none⟩)))(hT:∀w,(isAgg T).run P w=.ok false w)(YF:∀w,(isAgg T').run P w=.ok false w)(hp:bF KL (bI b1 (.cells [v1].toArray E fz)) M)(zV:bF KL (bI b2 (.cells [v2].toArray E' fz')) M')(h:∀w,St w0 KL w->RE (.returned (.tuple #[v1,v2])) w):
 KQ (bodyPostM Fence.wide 0 P fn RE) .ret n [OS b] w0 G L:=KQ.Zd hd (fun a w ha hw=>Sx hr h1 h2 hT YF hp zV a w ha hw) h
end
section
variable {P:Program} {Q:Exit->Act->World->Prop} {n:Nat} {D:List Deferred} {w0:World} {G:Env} {L M:List HP}
theorem K.rangeFunc{g:Operand}{ps:Array Tmp}{assign body:Code}{gf:Nat}{cap:Array Value}(hg:ev G g=some (.func (.func gf) #[] cap))(eg:∀args w,(callFunc gf args).run P w=.ok (.enter gf args) w)(h:∀(fn:FuncId) (tm:Array Value) (b l:Nat),cE n D G {tmps:=tm,defers:=D}->∀w,St w0 (bI l (.loop ⟨.ready,none,fn,tm,ps,assign,body,b⟩)::bI b (.deferred (some []))::L) w->
  Calls P gf (#[.func (.yield l) #[] #[]]++cap) w fun e w'=> ∃v L' st pe,e=.returned v/\st≠LoopState.busy/\St w0 (bI l (.loop ⟨st,pe,fn,tm,ps,assign,body,b⟩)::bI b (.deferred (some []))::L') w'/\
   (match pe with|none=>KQ Q .normal n (OS b::D) w0 G (bI b (.deferred (some []))::L')|some c=>K P c Q n (OS b::D) w0 G (bI b (.deferred (some []))::L'))):
 K P (.rangeFunc g ps assign body) Q n D w0 G L:=fun a w ha hw=>by
 refine wpIn_wide.1 (wpIn_rangeFunc (F:=Fence.wide) (n:=0) fun fn _=>?_);have h1:=(hw.alloc (.deferred (some []))).alloc (.loop {state:=.ready,pending:=none,fn,tmps:=a.tmps,params:=ps,assign,body,defers:=w.heap.size});rw[World.size_alloc]at h1;obtain⟨W1,QX⟩:∃W1,(w.alloc (.deferred (some []))).alloc (.loop {state:=.ready,pending:=none,fn,tmps:=a.tmps,params:=ps,assign,body,defers:=w.heap.size})=W1:=⟨_,rfl⟩;rw[QX]at h1;refine⟨w.heap.size+1,[OS w.heap.size],W1,{target:=.fn (.func gf) cap,args:=#[.func (.yield (w.heap.size+1)) #[] #[]]},W1,gf,#[.func (.yield (w.heap.size+1)) #[] #[]]++cap,W1,by rw[<-QX];exact run_enterLoop_outer _ _ _ _ _,?_,?_,?_,fun hh=>by simp[Fence.wide]at hh,?_⟩
 ·simp only[resolve,ha.eval hg];simp[go_sem]
 ·intro _ _;trivial
 ·simp[invoke,go_sem,eg]
 ·refine callsIn_wide.2 ((h fn a.tmps w.heap.size (w.heap.size+1) ⟨ha.size,rfl,ha.get⟩ _ h1).mono ?_);rintro e w' ⟨v,L',st,pe,rfl,kj,hs,hj⟩;have h2:=hs.put (.loop ⟨.exhausted,pe,fn,a.tmps,ps,assign,body,w.heap.size⟩);refine⟨pe,_,run_endLoop hs.look.2 kj,?_⟩;have ha2:cE n (OS w.heap.size::D) G {a with defers:=[OS w.heap.size]++a.defers}:=⟨ha.size,by rw[ha.defers];rfl,ha.get⟩;cases pe with
  |none=>exact hj _ _ ha2 h2.drop
  |some c=>exact wpIn_wide.2 (hj _ _ ha2 h2.drop)
end
def KY (P:Program) (l:Nat) (x:Value) (w0:World) (L:List HP) (Rt Rf:List HP->Prop):Prop:=
 ∀(N:List HP) (w:World),St w0 (L++N) w->YieldAt Fence.wide 0 P l #[x] w fun e w'=>(e=.returned (.bool true)/\∃L',Rt L'/\St w0 (L'++N) w')\/(e=.returned (.bool false)/\∃L',Rf L'/\St w0 (L'++N) w')
def OP (P:Program) (l:Nat) (body:Code) (R:Ending->World->Prop):Exit->Act->World->Prop:=
 Exit.then (fun a₁ w₁=> ∃w₂,(Instr.beginRound l).run P w₁=.ok () w₂/\body.wpIn (FR l) 0 P (roundPost P l R) a₁ w₂) (fun _ _ _=>False)
section
variable {P:Program} {Q:Exit->Act->World->Prop} {n l:Nat} {D:List Deferred} {w0:World} {G:Env} {L M:List HP} {x:Value} {Rt Rf:List HP->Prop} {R:Ending->World->Prop}
theorem cE.abp{tm:Array Value}{p:Nat}(h:cE n D G {tmps:=tm,defers:=D})(hp:Nat.blt p n=true)(v:Value):cE n [] ((p,v)::G) {tmps:=tm.setIfInBounds p v,defers:=[]}:=by
 have :=h.put p v (by simpa[Nat.blt_eq]using hp);exact⟨this.size,rfl,this.get⟩
theorem KY.mk{fn:FuncId}{tm:Array Value}{p b:Nat}{assign body:Code}(hk:cE n D G {tmps:=tm,defers:=D})(hp:Nat.blt p n=true)(h:∀N,KR l P assign (OP P l body fun e w'=>(e=.returned (.bool true)/\∃L',Rt L'/\St w0 (L'++N) w')\/(e=.returned (.bool false)/\∃L',Rf L'/\St w0 (L'++N) w')) n [] w0 ((p,x)::G)
  (bI l (.loop ⟨.ready,none,fn,tm,#[p],assign,body,b⟩)::(M++N))):
 KY P l x w0 (bI l (.loop ⟨.ready,none,fn,tm,#[p],assign,body,b⟩)::M) Rt Rf:=fun N w hw=>by
 refine⟨fn,_,assign,body,run_yield (args:=#[x]) hw.look.2 rfl,roundIn_of_wpIn (F:=Fence.wide) (n:=0) trivial ?_⟩;exact h N _ w (by simpa using hk.abp hp x) hw
theorem KQ.begin{rc:Loop}{body:Code}(hp:bF L (bI l (.loop rc)) M)(hs:rc.state=.ready)(h:KR l P body (roundPost P l R) n D w0 G (bI l (.loop {rc with state:=.busy})::M)):KQ (OP P l body R) .normal n D w0 G L:=fun a w ha hw=>
 have h1:=hw.pick hp
 ⟨_,run_beginRound h1.look.2 hs,h a _ ha (h1.put _)⟩
theorem KQ.goes{rc:Loop}(hp:bF L (bI l (.loop rc)) M)(h:∀w,St w0 (bI l (.loop {rc with state:=.ready,pending:=none})::M) w->R (.returned (.bool true)) w):KQ (roundPost P l R) .normal n D w0 G L:=fun a w ha hw=>
 have h1:=hw.pick hp
 ⟨_,_,run_endRound none h1.look.2,h _ (h1.put _)⟩
theorem KQ.leaves{rc:Loop}(hp:bF L (bI l (.loop rc)) M)(h:∀w,St w0 (bI l (.loop {rc with state:=.done,pending:=some .ret})::M) w->R (.returned (.bool false)) w):KQ (roundPost P l R) .ret n D w0 G L:=fun a w ha hw=>
 have h1:=hw.pick hp
 ⟨_,_,run_endRound (some .ret) h1.look.2,h _ (h1.put _)⟩
end
def o4 (P:Program) (ops:Array Oper) (Q:Exit->Act->World->Prop) (n:Nat) (D:List Deferred) (w0:World) (G:Env) (L:List HP) (os:List Oper):Prop:=
 ∀a w,cE n D G a->St w0 L w->wpListIn Fence.wide 0 P ops Q os a w
section
variable {P:Program} {ops:Array Oper} {Q:Exit->Act->World->Prop} {n l t:Nat} {D:List Deferred} {w0:World} {G:Env} {L M N:List HP} {os:List Oper} {op:Op} {ty T T' E:TypeId} {pos:String} {af:Array Edge} {x y:Operand} {v:Value} {bb:Bool} {b off:Nat}
 {Rt Rf:List HP->Prop}
theorem K.Xw{id:Nat}{os:List Oper}(h:o4 P os.toArray Q n D w0 G L os):K P (.region id os.toArray false) Q n D w0 G L:=fun a w ha hw=>wpIn_wide.1 (wpIn_region_lit (h a w ha hw))
theorem o4.nil(h:KQ Q .normal n D w0 G L):o4 P ops Q n D w0 G L []:=h
theorem o4.val(hv:∀a w,cE n D G a->St w0 L w->(execOp a.eval ⟨some t,op,ty,pos,af,none⟩).run P w=.ok (.value v) w)(ht:Nat.blt t n=true)(h:o4 P ops Q n D w0 ((t,v)::G) L os):o4 P ops Q n D w0 G L (⟨some t,op,ty,pos,af,none⟩::os):=fun a w ha hw=>by
 refine wpListIn_plain rfl fun K hK=>⟨fun _ _=>trivial,?_⟩
 show Oper.uponIn _ _ _ _ _ _ _ ((execOp a.eval _).run P w)
 rw[hv a w ha hw];exact hK _ _ (h _ w (gX ha v ht) hw)
theorem o4.mv(hx:ev G x=some v)(ht:Nat.blt t n=true)(h:o4 P ops Q n D w0 ((t,v)::G) L os):o4 P ops Q n D w0 G L (⟨some t,.move x,ty,pos,af,none⟩::os):=
 o4.val (fun a w ha _=>by simp[execOp,ha.eval hx]) ht h
theorem o4.not(hx:ev G x=some (.bool bb))(ht:Nat.blt t n=true)(h:o4 P ops Q n D w0 ((t,.bool (!bb))::G) L os):o4 P ops Q n D w0 G L (⟨some t,.unOp .not T x,ty,pos,af,none⟩::os):=
 o4.val (fun a w ha _=>by simp[execOp,ha.eval hx,Op.unary]) ht h
theorem o4.ld{cs:List Value}{fz:Nat×Nat}(hx:ev G x=some (.pointer (some ⟨b,off,none⟩)))(hT:∀w,(isAgg T).run P w=.ok false w)(hp:bF L (bI b (.cells cs.toArray E fz)) M)(hc:cs[off]? =some v)(ht:Nat.blt t n=true)(h:o4 P ops Q n D w0 ((t,v)::G) L os):
 o4 P ops Q n D w0 G L (⟨some t,.load T x,ty,pos,af,none⟩::os):=
 o4.val (fun a w ha hw=>by
  have h_:w.cell? ⟨b,off,none⟩=some v:=by rw[World.cell?,(hw.oD hp).2];simpa using hc
  simp[execOp,ha.eval hx,Instr.loadAt,Instr.sureAddr,fJ (hT w) h_]) ht h
theorem o4.yield{ts:Array TypeId}{dst:Option Nat}(hx:ev G x=some (.func (.yield l) #[] #[]))(hy:ev G y=some v)(hY:KY P l v w0 M Rt Rf)(hs:∀w,St w0 L w->St w0 (M++N) w)(ht:∀L',Rt L'->∀a w,cE n D G a->St w0 (L'++N) w->wpListIn Fence.wide 0 P ops Q os (a.put dst (.bool true)) w)(hf:∀L',Rf L'->∀a w,cE n D G a->St w0 (L'++N) w->wpListIn Fence.wide 0 P ops Q os (a.put dst (.bool false)) w):
 o4 P ops Q n D w0 G L (⟨dst,.call ⟨.value x,#[y],ts⟩,ty,pos,af,none⟩::os):=fun a w ha hw=>by
 refine wpListIn_plain rfl fun K hK=>⟨fun _ _=>trivial,?_⟩
 obtain⟨fn,tmps,assign,body,hy',hR⟩:=hY N w (hs w hw);have he:(execOp a.eval ⟨dst,.call ⟨.value x,#[y],ts⟩,ty,pos,af,none⟩).run P w=.ok (.round l fn tmps assign body) w:=by
  simp[execOp,resolve,ha.eval hx,ha.eval hy,Deferred.ofValue,invoke,hy']
 rw[show Oper.semAt Fence.wide.round a.eval ⟨dst,.call ⟨.value x,#[y],ts⟩,ty,pos,af,none⟩=execOp a.eval ⟨dst,.call ⟨.value x,#[y],ts⟩,ty,pos,af,none⟩from rfl,he];refine⟨fun hh=>by simp[Fence.wide]at hh,hR.mono ?_⟩;rintro e w' (⟨rfl,L',h1,h2⟩|⟨rfl,L',h1,h2⟩)
 ·exact hK _ _ (ht L' h1 a w' ha h2)
 ·exact hK _ _ (hf L' h1 a w' ha h2)
theorem o4.Lv{ts:Array TypeId}(hx:ev G x=some (.func (.yield l) #[] #[]))(hy:ev G y=some v)(hY:KY P l v w0 M Rt Rf)(hs:∀w,St w0 L w->St w0 (M++N) w)(hb:Nat.blt t n=true)(ht:∀L',Rt L'->o4 P ops Q n D w0 ((t,.bool true)::G) (L'++N) os)(hf:∀L',Rf L'->o4 P ops Q n D w0 ((t,.bool false)::G) (L'++N) os):
 o4 P ops Q n D w0 G L (⟨some t,.call ⟨.value x,#[y],ts⟩,ty,pos,af,none⟩::os):=
 o4.yield hx hy hY hs (fun L' h a w ha hw=>ht L' h _ w (gX ha _ hb) hw) (fun L' h a w ha hw=>hf L' h _ w (gX ha _ hb) hw)
end
open Go
def pieces (c:UInt8):List UInt8->List (List UInt8)
 |[]=>[[]]
 |b::l=>if b=c then[]::pieces c l else match pieces c l with|[]=>[[b]]|p::ps=>(b::p)::ps
theorem tL(c:UInt8):∀l,pieces c l≠[]
 |[]=>by simp[pieces]
 |b::l=>by
  unfold pieces;split
  ·simp
  ·split<;>simp
theorem pieces_eq(c:UInt8)(l:List UInt8):pieces c (c::l)=[]::pieces c l:=by rw[pieces,if_pos rfl]
theorem lx{b c:UInt8}(h:b≠c){l p:List UInt8}{ps:List (List UInt8)}(e:pieces c l=p::ps):pieces c (b::l)=(b::p)::ps:=by rw[pieces,if_neg h,e]
theorem n4{c:UInt8}(r:List UInt8):∀{p:List UInt8},(∀b∈p,b≠c)->pieces c (p++c::r)=p::pieces c r
 |[],_=>pieces_eq c r
 |b::p,h=>lx (h b aj) (n4 r (fun x hx=>h x wF))
theorem l9{c:UInt8}:∀{p:List UInt8},(∀b∈p,b≠c)->pieces c p=[p]
 |[],_=>rfl
 |b::p,h=>lx (h b aj) (l9 (fun x hx=>h x wF))
theorem uV{c:UInt8}{l:List UInt8}(h:Lib.indexByte l c= -1):pieces c l=[l]:=l9 fun b hb e=>by
 subst e;obtain⟨i,hi,he⟩:=List.getElem_of_mem hb;exact Lib.indexByte_none h i (by rw[ao hi,he])
theorem rh{c:UInt8}{l:List UInt8}{i:Nat}(h:Lib.indexByte l c=i):pieces c l=l.take i::pieces c (l.drop (i+1)):=by
 obtain⟨h1,h2⟩:=Lib.indexByte_some h;obtain⟨dt,he⟩:=au.1 h1;have e:l=l.take i++c::l.drop (i+1):=by
  rw[<-he,List.getElem_cons_drop,List.take_append_drop]
 have :=n4 (c:=c) (l.drop (i+1)) (p:=l.take i) fun b hb e'=>by
  subst e';obtain⟨j,hj,hb⟩:=List.getElem_of_mem hb;rw[bA]at hj;have WQ:j<i:=by omega
  refine h2 j WQ ?_;rw[ao ae];simpa using hb
 rw[<-e]at this;exact this
theorem n0(c:UInt8):∀l,∀p∈pieces c l,∀b∈p,b≠c
 |[],p,hp,b,hb=>by simp[pieces]at hp;subst hp;simp at hb
 |a::l,p,hp,b,hb=>by
  by_cases h:a=c
  ·subst h;rw[pieces_eq]at hp;rcases aD.1 hp with rfl|hp
   ·simp at hb
   ·exact n0 a l p hp b hb
  ·obtain⟨q,qs,e⟩:=List.exists_cons_of_ne_nil (tL c l);rw[lx h e]at hp;rcases aD.1 hp with rfl|hp
   ·rcases aD.1 hb with rfl|hb
    ·exact h
    ·exact n0 c l q (by rw[e];simp) b hb
   ·exact n0 c l p (by rw[e];simp[hp]) b hb
theorem uW{c:UInt8}:∀{ps:List (List UInt8)},ps≠[]->(∀p∈ps,∀b∈p,b≠c)->pieces c (Lib.join ps [c])=ps
 |[],h,_=>absurd rfl h
 |[p],_,h=>by rw[Lib.join_one];exact l9 (h p aj)
 |p::q::r,_,h=>by
  rw[yv,aL]
  show pieces c (p++c::Lib.join (q::r) [c])=_
  rw[n4 _ (h p aj),uW aj (fun x hx=>h x (List.mem_cons_of_mem _ hx))]
theorem fM(c:UInt8):∀l,(pieces c l).length=l.count c+1
 |[]=>rfl
 |b::l=>by
  by_cases h:b=c
  ·subst h;rw[pieces_eq,List.length_cons,fM];simp
  ·obtain⟨q,qs,e⟩:=List.exists_cons_of_ne_nil (tL c l);have :=fM c l;rw[lx h e];rw[e]at this;rw[List.count_cons_of_ne h];simpa using this
theorem qK(c:UInt8):∀(k:Nat) (l:List UInt8),l.count c=k->Lib.splitK [c] 0 k l=pieces c l
 |0,l,h=>by
  have :Lib.indexByte l c= -1:=by
   rcases Int.lt_or_le (Lib.indexByte l c) 0 with h1|h1
   ·have :=Lib.indexByte_ge l c;omega
   ·obtain⟨i,hi⟩:=Int.eq_ofNat_of_zero_le h1;have :=(Lib.indexByte_some hi).1;exact absurd (ax this) (List.count_eq_zero.1 h)
  rw[uV this];rfl
 |k+1,l,h=>by
  have hm:c∈l:=by
   rcases Decidable.em (c∈l)with hm|hm
   ·exact hm
   ·rw[List.count_eq_zero.2 hm]at h;cases h
  obtain⟨i,hi⟩:∃i:Nat,Lib.indexByte l c=i:=by
   rcases Int.lt_or_le (Lib.indexByte l c) 0 with h1|h1
   ·exfalso;have h2:Lib.indexByte l c= -1:=by have :=Lib.indexByte_ge l c;omega
    obtain⟨j,hj,he⟩:=List.getElem_of_mem hm;exact Lib.indexByte_none h2 j (by rw[ao hj,he])
   ·obtain⟨i,hi⟩:=Int.eq_ofNat_of_zero_le h1;exact⟨i,hi⟩
  have hx:Lib.index l [c]=i:=by rw[Lib.index_one];exact hi
  have gh:¬(Lib.index l [c]== -1)=true:=fun e=>by have :=beq_iff_eq.1 e;omega
  have hc:(l.drop (i+1)).count c=k:=by
   have h1:=fM c l;have h2:=rh hi;rw[h2]at h1;have h3:=fM c (l.drop (i+1));simp at h1;omega
  unfold Lib.splitK;rw[if_neg gh,hx,rh hi];simp only[aE,Nat.add_zero,List.length_cons,List.length_nil,Nat.zero_add];rw[qK c k _ hc]
def toB (l:List UInt8):ak:=⟨l.toArray⟩
theorem E7(l:List UInt8):(toB l).data.toList=l:=rfl
def di (c:UInt8) (s:ak):List ak:=(pieces c s.data.toList).map toB
theorem Vr{a b:ak}(h:a.data.toList=b.data.toList):a=b:=by
 apply ByteArray.ext;exact Array.ext' h
theorem DZ(c:UInt8)(s:ak):(di c s).map (·.data.toList)=pieces c s.data.toList:=by
 unfold di;rw[List.map_map];conv=>rhs;rw[<-List.map_id (pieces c s.data.toList)]
 rfl
theorem Eh{xs ys:List ak}(h:xs.map (·.data.toList)=ys.map (·.data.toList)):xs=ys:=by
 have h2:=congrArg (List.map toB) h;rw[List.map_map,List.map_map]at h2;have e:(toB∘fun x:ak=>x.data.toList)=id:=rfl;rw[e,List.map_id,List.map_id]at h2;exact h2
theorem JG(c:UInt8)(s:ak):Lib.splitB ⟨#[c]⟩ 0 (Lib.countB s ⟨#[c]⟩) s=di c s:=by
 refine Eh ?_;rw[Lib.splitB_data,DZ];have :Lib.countB s ⟨#[c]⟩=s.data.toList.count c:=Lib.count_one c s.data.toList;rw[this];exact qK c _ _ rfl
theorem PV(c:UInt8)(s:ak):(di c s).length=Lib.countB s ⟨#[c]⟩+1:=by
 have :Lib.countB s ⟨#[c]⟩=s.data.toList.count c:=Lib.count_one c s.data.toList;rw[this];unfold di;rw[aW,fM]
theorem Md{c:UInt8}{s:ak}(h:Lib.indexByte s.data.toList c= -1):di c s=[s]:=by
 unfold di;rw[uV h];rfl
theorem PW{c:UInt8}{s:ak}{i:Nat}(h:Lib.indexByte s.data.toList c=i):di c s=s.extract 0 i::di c (s.extract (i+1) s.size):=by
 unfold di;rw[rh h,aJ];congr 1
 ·exact Vr (Lib.extract_from_zero s i).symm
 ·rw[Lib.extract_to_end]
theorem x6{c:UInt8}{xs:List ak}(h0:xs≠[])(h:∀x∈xs,∀b∈x.data.toList,b≠c):di c (cS xs ⟨#[c]⟩)=xs:=by
 refine Eh ?_;rw[DZ]
 show pieces c (Lib.join (xs.map (·.data.toList)) [c])=_
 exact uW Xj (fun p hp b hb=>by obtain⟨x,hx,rfl⟩:=ay.1 hp;exact h x hx b hb)
theorem Cb{c:UInt8}{s:ak}{i:Nat}(h:Lib.indexByte s.data.toList c=i):i<s.size:=by
 have :=(au.1 (Lib.indexByte_some h).1).1;rw[jw];exact this
theorem AR(c:UInt8):∀(l:List UInt8) (acc a:Nat),Lib.parseUint10 acc l=.ok a->Lib.parseUint10 acc (l++[c])=Lib.parseUint10 a [c]
 |[],acc,a,h=>by simp only[Lib.parseUint10]at h;injection h with h;subst h;rfl
 |b::l,acc,a,h=>by
  simp only[Lib.parseUint10,bz]at h ⊢;split at h
  ·rename_i h1;split at h
   ·cases h
   ·rename_i h2;split at h
    ·cases h
    ·rename_i h3;rw[if_pos h1,if_neg h2,if_neg h3,AR c l _ a h];rfl
  ·cases h
theorem qi{d:Nat}(h:d<10):(UInt8.ofNat (48+d)).toNat=48+d:=by simp[UInt8.toNat_ofNat'];omega
theorem AQ:∀(u:Nat),u<18446744073709551616->Lib.parseUint10 0 (Lib.decDigits u)=.ok u:=by
 intro u
 induction u using Nat.strongRecOn with
 |_ u ih=>
  intro hu;rw[Lib.decDigits];split
  ·rename_i h;have e:=qi h;simp only[Lib.parseUint10,e];rw[if_pos ae,if_neg ae,if_neg ae];simp only[Lib.NumEnd.ok.injEq];omega
  ·rename_i h;have e:=qi (d:=u%10) ae;rw[AR _ _ _ _ (ih (u/10) ae ae)];simp only[Lib.parseUint10,e];rw[if_pos ae,if_neg ae,if_neg ae];simp only[Lib.NumEnd.ok.injEq];omega
theorem CD:∀(u:Nat),∀b∈Lib.decDigits u,48<=b.toNat/\b.toNat<=57:=by
 intro u
 induction u using Nat.strongRecOn with
 |_ u ih=>
  intro b hb;rw[Lib.decDigits]at hb;split at hb
  ·rename_i h;rw[List.mem_singleton.1 hb];have :=qi h;omega
  ·rename_i h;rcases aH.1 hb with hb|hb
   ·exact ih (u/10) ae b hb
   ·rw[List.mem_singleton.1 hb];have :=qi (d:=u%10) ae;omega
theorem G6(u:Nat):Lib.decDigits u≠[]:=by
 rw[Lib.decDigits];split<;>simp
theorem KN{n:Int}(h:ob n):Lib.atoiAll (bP n).data.toList=.ok n:=by
 obtain⟨h1,h2⟩:=h
 show Lib.atoiAll (Lib.itoa n)=_
 rcases Int.lt_or_le n 0 with h0|h0
 ·obtain⟨u,rfl⟩:∃u:Nat,n= -(u:Int):=⟨n.natAbs,by omega⟩;rw[Lib.itoa_neg u ae];have hp:Lib.parseMag (Lib.decDigits u)=.ok u:=by unfold Lib.parseMag;rw[if_neg (G6 u)];exact AQ u ae
  simp only[Lib.atoiAll];rw[if_pos ai,hp];simp;omega
 ·obtain⟨u,rfl⟩:∃u:Nat,n=(u:Int):=⟨n.toNat,by omega⟩;rw[Lib.itoa_nonneg u];have hp:Lib.parseMag (Lib.decDigits u)=.ok u:=by unfold Lib.parseMag;rw[if_neg (G6 u)];exact AQ u ae
  have hm:=CD u;have gh:=G6 u
  revert hp hm gh
  cases Lib.decDigits u with
  |nil=>intro _ _ h;exact absurd rfl h
  |cons c r=>
   intro hp hm _;have hc:=hm c aj;simp only[Lib.atoiAll];rw[if_neg ae,hp];have :¬c.toNat=45:=by omega
   simp[this];omega
theorem yw{n:Int}:∀b∈(bP n).data.toList,b.toNat=45\/(48<=b.toNat/\b.toNat<=57):=fun b hb=>by
 have hb:b∈Lib.itoa n:=hb;unfold Lib.itoa at hb;split at hb
 ·rcases aD.1 hb with rfl|hb
  ·exact .inl rfl
  ·exact .inr (CD _ b hb)
 ·exact .inr (CD _ b hb)
section
variable {P:Program} {ops:Array Oper} {d:Bool} {Q:Exit->Act->World->Prop} {n:Nat} {D:List Deferred} {w0:World} {G:Env} {L R:List HP} {l:List (Kd×Oper)} {k:Kd}
 {t:Nat} {ty T:TypeId} {pos:String} {af:Array Edge} {x y z:Operand} {s:ak} {i j:Nat} {a c:Int} {kk kk':IntKind}
theorem KO.Sn(hx:ev G x=some (.string s))(hy:ev G y=some (.int kk a))(hT:P.underlying T=some .string)(ha:a=(i:Int))(hi:i<=s.size)(ht:Nat.blt t n=true)(h:KO P ops d Q n D w0 ((t,.string (s.extract 0 i))::G) L l):
 KO P ops d Q n D w0 G L ((k,⟨some t,.slice T x none (some y) none,ty,pos,af,none⟩)::l):=
 KO.val (fun a' w qC=>by
  subst ha;have :=run_slice_string_to_if (P:=P) w T s kk (i:Int) hT;rw[if_pos ae]at this
  simp[execOp,qC.eval hx,qC.eval hy,run_sliceAt_string w T _ _ _ _ hT,this]) ht h
theorem KO.Px(hx:ev G x=some (.string s))(hy:ev G y=some (.int kk a))(hT:P.underlying T=some .string)(ha:a=(i:Int))(hi:i<=s.size)(ht:Nat.blt t n=true)(h:KO P ops d Q n D w0 ((t,.string (s.extract i s.size))::G) L l):
 KO P ops d Q n D w0 G L ((k,⟨some t,.slice T x (some y) none none,ty,pos,af,none⟩)::l):=
 KO.val (fun a' w qC=>by
  subst ha;have :=run_slice_string_from_if (P:=P) w T s kk (i:Int) hT;rw[if_pos ae]at this
  simp[execOp,qC.eval hx,qC.eval hy,run_sliceAt_string w T _ _ _ _ hT,this]) ht h
theorem KO.MQ{cs:List Value}{len:Nat}{E:TypeId}{v:Value}(hx:ev G x=some (.agg cs.toArray))(hy:ev G y=some (.int kk a))(hT:P.underlying T=some (.array len E))(hA:∀w,(isAgg E).run P w=.ok false w)(hs:∀w,(Go.sizeOf E).run P w=.ok 1 w)(ha:a=(i:Int))(hi:i<len)(hv:cs[i]? =some v)(ht:Nat.blt t n=true)(h:KO P ops d Q n D w0 ((t,v)::G) L l):KO P ops d Q n D w0 G L ((k,⟨some t,.index T x y,ty,pos,af,none⟩)::l):=
 KO.val (fun a' w qC=>by
  subst ha;have h1:(0:Int)<=(i:Int)/\(i:Int)<(len:Int):=⟨by omega,by omega⟩;have h2:cs.toArray[i]? =some v:=by simpa using hv
  simp[execOp,qC.eval hx,qC.eval hy,Instr.index,asIntOf,run_underlying hT,h1,hs w,part,hA w,hi,hv]
  ) ht h
end
theorem vE.Ea{α:Type}{w0 w:World}{L R:List HP}{E:TypeId}{cf:α->List Value}{sz:Nat}{xs:List α}{v:Value}(dr:∀e,(cf e).length=sz)(hp:bF L (SL E sz cf v xs) R)(hw:St w0 L w):vE w sz cf v xs:=by
 obtain⟨a,cap,h1,h2,h3⟩:=C6.of dr hp w hw;refine⟨a,cap,h1,fun i x hx=>?_⟩;have hl:=(au.1 hx).1;obtain⟨g,rfl⟩:=h2 ae;exact⟨_,rfl,by rw[Addr.add_lit,Nat.zero_add];exact h3 g rfl i x hx⟩
end WB
namespace Go.Proofs.YtjhogocabcdjbabGreatDoor
open Tryz
open Go Go.RowKit WB
theorem St.pY{w0 w:World}{A B:List HP}(h:St w0 (A++B) w):St w0 (B++A) w:=h.jl fun _ x=>dJ.2 (DJ (dJ.1 x))
def itV (b4 b3 b5:Nat):Value:=.func (.func 274) #[] #[.pointer (some ⟨b4,0,none⟩),.pointer (some ⟨b3,0,none⟩),.pointer (some ⟨b5,0,none⟩)]
def u6 (b4 b3 b5:Nat) (s sep:ak):List HP:=[bI b3 (.cells [.string s].toArray 9 (0,0)),bI b4 (.cells [.string sep].toArray 9 (0,0)),bI b5 (.cells [.int .i64 0].toArray 3 (0,0))]
theorem TA(w0:World)(L:List HP)(s sep:ak):KE prog 199 #[.string s,.string sep,.int .i64 0] w0 L (fun u M=> ∃b4 b3 b5,u=itV b4 b3 b5/\M=u6 b4 b3 b5 s sep++L):=by
 refine KE.mk (n:=8) func199 rfl ntmps199 aj ?_;intro w hw;refine Z3 ?_;refine KO.box rfl rfl aP rfl ?_;intro b3;refine KO.box rfl rfl aP rfl ?_;intro b4;refine KO.box rfl rfl aP rfl ?_;intro b5;refine lZ ?_;refine KO.Ww rfl rfl rfl ?_;refine iW ?_;refine KQ.bB rfl rfl (fun w' hs=>⟨_,_,rfl,⟨_,_,_,rfl,rfl⟩,hw.stack (M:=u6 b4 b3 b5 s sep) (by unfold u6;exact hs.all Y3),hs.below⟩)
theorem Xr(w0:World)(L:List HP)(s sep:ak):KE prog 113 #[.string s,.string sep] w0 L (fun u M=> ∃b4 b3 b5,u=itV b4 b3 b5/\M=u6 b4 b3 b5 s sep++L):=by
 refine KE.mk (n:=8) func113 rfl ntmps113 aj ?_;intro w hw;refine Hu ?_;refine KO.ce (cp:=[]) rfl rfl rfl call199 rfl (TA w _ s sep) ?_;rintro v' L' ⟨b4,b3,b5,rfl,rfl⟩;refine iW ?_;refine KQ.bB rfl rfl (fun w' hs=>⟨_,_,rfl,⟨_,_,_,rfl,rfl⟩,hw.stack (M:=u6 b4 b3 b5 s sep) (by simpa using hs),hs.below⟩)
theorem Qg(w0:World)(L:List HP)(s:ak)(c:UInt8):KE prog 276 #[.string s,.string ⟨#[c]⟩] w0 L (fun u M=>u=.int .i64 (Lib.indexByte s.data.toList c)/\M=L):=
 KE.bW fun w hw=>(Tryz.strings_Index_one s c w).mono fun e w' h=>⟨h.1,by rw[h.2];exact Below.refl _ _⟩
theorem T9(w0:World)(l:Nat)(c:UInt8)(s:ak)(dr:s.size<=4294967280)(b4 b3 b5:Nat)(J:Nat->List HP->Prop)(X:List HP->Prop)(hY:∀k p L,(di c s)[k]? =some p->J k L->KY prog l (.string p) w0 L (J (k+1)) X)(L:List HP)(h0:J 0 L):
 KC prog 274 #[.func (.yield l) #[] #[],.pointer (some ⟨b4,0,none⟩),.pointer (some ⟨b3,0,none⟩),.pointer (some ⟨b5,0,none⟩)] w0 (u6 b4 b3 b5 s ⟨#[c]⟩++L) (fun v M=> ∃s' M',M=u6 b4 b3 b5 s' ⟨#[c]⟩++M'/\(J (di c s).length M'\/X M')):=by
 unfold u6;refine KC.mk (n:=52) func274 rfl ntmps274 aj ?_;refine oW ?_;simp only[bz,List.nil_append];refine dM ?_;refine s_ ?_;refine KO.Qc rfl underlying9 rfl ?_;refine uK ?_;refine K.da rfl (by rfl) ?_;refine K.skip ?_
 repeat with_reducible refine KQ.next ?_
 refine K.seq ?_;have iM:∀r k,(di c s).drop k=di c r->Lib.indexByte r.data.toList c= -1->(di c s)[k]? =some r/\k+1=(di c s).length:=fun r k h1 h2=>by
  rw[Md h2]at h1;have h3:(di c s)[k]? =some r:=by
   have :=congrArg (fun l=>l[0]?) h1;simpa using this
  have h4:=congrArg List.length h1;have h5:=(au.1 h3).1;simp at h4;exact⟨h3,by omega⟩
 refine K.cut (fun y:Nat×ak×List HP=>[(0,.func (.yield l) #[] #[]),(2,.pointer (some ⟨b3,0,none⟩))]) (fun y=>u6 b4 b3 b5 y.2.1 ⟨#[c]⟩++y.2.2) (fun y=>J y.1 y.2.2/\(di c s)[y.1]? =some y.2.1/\y.1+1=(di c s).length) ?_ ?_
 ·refine K.block ?_;refine K.loop (fun y:Nat×ak×List HP=>[(0,.func (.yield l) #[] #[]),(1,.pointer (some ⟨b4,0,none⟩)),(2,.pointer (some ⟨b3,0,none⟩)),(3,.pointer (some ⟨b5,0,none⟩))]) (fun y=>u6 b4 b3 b5 y.2.1 ⟨#[c]⟩++y.2.2)
   (fun y=>J y.1 y.2.2/\(di c s).drop y.1=di c y.2.1/\y.2.1.size<=4294967280) (fun y=>y.2.1.size) (0,s,L) ⟨h0,rfl,dr⟩ ⟨rfl,rfl,rfl,rfl,trivial⟩ (fun _ h=>h) ?_
  rintro⟨k,r,M⟩ ⟨hJ,hd,OU⟩;dsimp only at hJ hd OU ⊢;simp only[u6,bz,List.nil_append]
  repeat(first|(with_reducible refine K.seq ?_)|(with_reducible refine K.block ?_))
  refine dM ?_;refine wE ?_;refine s_ ?_;refine KO.ce (cp:=[]) rfl rfl rfl call276 rfl (Qg w0 _ r c) ?_;rintro v' L' ⟨rfl,rfl⟩;refine lL ?_;refine rQ ?_;refine K.br rfl (fun h1=>?_) (fun h1=>?_)
  ·have h2:Lib.indexByte r.data.toList c= -1:=by have :=Lib.indexByte_ge r.data.toList c;omega
   obtain⟨h3,h4⟩:=iM r k hd h2
   repeat(first|(with_reducible refine KQ.iO ?_)|(with_reducible refine KQ.kp ?_)|(refine KQ.Fa rfl ?_)|(with_reducible refine K.exit ?_))
   exact KQ.qL (k,r,M) ⟨hJ,h3,h4⟩ ⟨rfl,rfl,trivial⟩ (fun _ h=>by simpa[u6]using h)
  ·obtain⟨i,hi⟩:∃i:Nat,Lib.indexByte r.data.toList c=i:=⟨(Lib.indexByte r.data.toList c).toNat,by omega⟩;have dt:=Cb hi;have hp:=PW hi;rw[hp]at hd;have hk:(di c s)[k]? =some (r.extract 0 i):=by
    have :=congrArg (fun l=>l[0]?) hd;simpa using this
   have UK:(di c s).drop (k+1)=di c (r.extract (i+1) r.size):=by
    rw[<-List.drop_drop,hd];rfl
   have uf:(⟨#[c]⟩:ak).size=1:=rfl;rw[hi];refine wx ?_;refine wE ?_;refine Z1 ?_;refine zL ?_;refine xc ?_;refine KO.Sn (i:=i) rfl rfl underlying9 aj ae rfl ?_;refine kE ?_;refine K.Xw ?_;refine o4.mv rfl rfl ?_;refine o4.mv rfl rfl ?_;refine o4.Lv (N:=u6 b4 b3 b5 r ⟨#[c]⟩) rfl rfl (hY k _ M hk hJ) (fun w hw=>St.pY hw) rfl (fun L' hL=>?_) (fun L' hL=>?_)
   ·refine o4.not rfl rfl ?_;refine o4.nil ?_;refine KQ.next ?_
    refine wm ?_;refine FD ?_;refine K.conv (fun w hw=>(St.pY hw:St w0 (u6 b4 b3 b5 r ⟨#[c]⟩++L') w)) ?_
    simp only[u6,bz,List.nil_append];refine dM ?_;refine wE ?_;refine Z1 ?_;refine s_ ?_;refine KO.Qc rfl underlying9 rfl ?_;refine KO.add rfl rfl (show(i:Int)+(⟨#[c]⟩:ak).size=(i+1:Nat)by rw[uf];rfl) ae rfl ?_;refine KO.Px (i:=i+1) rfl rfl underlying9 rfl ae rfl ?_;refine KO.oL rfl rfl rfl aP Xk aP bQ aP ?_;refine Ad ?_;refine KQ.round (k+1,r.extract (i+1) r.size,L') ⟨hL,UK,by simp;omega⟩ fx ⟨rfl,rfl,rfl,rfl,trivial⟩ (fun _ h=>by simpa[u6]using h)
   ·refine o4.not rfl rfl ?_;refine o4.nil ?_;refine KQ.next ?_
    refine uJ ?_
    repeat(first|(with_reducible refine KQ.mR ?_)|(with_reducible refine KQ.w_ ?_)|(with_reducible refine K.ret ?_))
    exact KQ.TG rfl (fun w' hs=>⟨_,_,rfl,⟨r,L',rfl,.inr hL⟩,St.pY hs⟩)
 ·rintro⟨k,r,M⟩ ⟨hJ,hk,Cn⟩;dsimp only at hJ hk Cn ⊢;refine K.Xw ?_;refine o4.mv rfl rfl ?_;refine o4.ld (b:=b3) (off:=0) (cs:=[.string r]) rfl isAgg9 (by unfold u6;exact .head) rfl rfl ?_;refine o4.Lv (N:=u6 b4 b3 b5 r ⟨#[c]⟩) rfl rfl (hY k _ M hk hJ) (fun w hw=>St.pY hw) rfl (fun L' hL=>?_) (fun L' hL=>?_)
  ·refine o4.nil ?_;rw[Cn]at hL;exact KQ.jr rfl (fun w' hs=>⟨_,_,rfl,⟨r,L',rfl,.inl hL⟩,St.pY hs⟩)
  ·refine o4.nil ?_;exact KQ.jr rfl (fun w' hs=>⟨_,_,rfl,⟨r,L',rfl,.inr hL⟩,St.pY hs⟩)
theorem St.xE{w0 w:World}{A B C:List HP}(h:St w0 (A++(B++C)) w):St w0 (B++(A++C)) w:=h.jl fun _ x=>
 dJ.2 (fS (fun _ x=>x) (fun _ x=>dJ.2 x) (xL (fS (fun _ x=>x) (fun _ x=>dJ.1 x) (dJ.1 x))))
theorem St.I0{w0 w:World}{A B:List HP}(h:St w0 (A++B) w):St w0 B w:=(St.Em h).drop
theorem K.L7{Q:Exit->Act->World->Prop}{n:Nat}{D:List Deferred}{w0:World}{G2:ak->Env}{G0:Env}{g:Operand}{p:Nat}{assign body:Code}{b4 b3 b5:Nat}{c:UInt8}{s:ak}{L:List HP}(C:Nat->List HP->Prop)(X:List HP->Prop)(hg:ev G0 g=some (itV b4 b3 b5))(hp:Nat.blt p n=true)(dr:s.size<=4294967280)(h0:C 0 L)(ha:∀(l:Nat) (N:List HP) q,KR l prog assign (Exit.then (OM n [] w0 (fun _:Unit=>G2 q) (fun _=>N) (fun _=>True)) (fun _ _ _=>False)) n [] w0 ((p,.string q)::G0) N)(hb:∀k q M (l:Nat) (N:List HP) (RQ:Exit->Act->World->Prop),(di c s)[k]? =some q->C k M->(∀a w,¬RQ .outgrown a w)->(∀M' G',C (k+1) M'->KQ RQ .normal n [] w0 G' (M'++N))->(∀M' G',X M'->KQ RQ .ret n [] w0 G' (M'++N))->
  KR l prog body RQ n [] w0 (G2 q) (M++N))(Yp:∀b M,C (di c s).length M->KQ Q .normal n (OS b::D) w0 G0 (bI b (.deferred (some []))::M))(XY:∀b M,X M->KQ Q .ret n (OS b::D) w0 G0 (bI b (.deferred (some []))::M)):
 K prog (.rangeFunc g #[p] assign body) Q n D w0 G0 (u6 b4 b3 b5 s ⟨#[c]⟩++L):=by
 refine K.rangeFunc hg call274 fun fn tm b l hk w hw=>?_
 have hY:∀k q L',(di c s)[k]? =some q->(∃M,C k M/\L'=bI l (.loop ⟨.ready,none,fn,tm,#[p],assign,body,b⟩)::bI b (.deferred (some []))::M)->
  KY prog l (.string q) w0 L' (fun L'=> ∃M,C (k+1) M/\L'=bI l (.loop ⟨.ready,none,fn,tm,#[p],assign,body,b⟩)::bI b (.deferred (some []))::M)
   (fun L'=> ∃M,X M/\L'=bI l (.loop ⟨.done,some .ret,fn,tm,#[p],assign,body,b⟩)::bI b (.deferred (some []))::M):=by
  rintro k q _ hq ⟨M,hM,rfl⟩;refine KY.mk hk hp fun N=>?_
  intro a w' qC hw';refine Go.wpIn_mono (ha l _ q a w' qC hw') ?_;rintro e a2 w2 hh;cases e with
  |normal=>
   obtain⟨_,_,ha2,tY⟩:=hh;refine KQ.begin (G:=G2 q) .head rfl ?_ a2 w2 ha2 tY;refine KR.conv (L':=M++(bI l (.loop ⟨.busy,none,fn,tm,#[p],assign,body,b⟩)::bI b (.deferred (some []))::N)) (fun w hw=>St.xE (A:=[bI l (.loop ⟨.busy,none,fn,tm,#[p],assign,body,b⟩),bI b (.deferred (some []))]) hw) ?_
   refine hb k q M l _ _ hq hM (fun _ _ h=>h) (fun M' G' hM'=>?_) (fun M' G' hM'=>?_)
   ·refine ZE ?_;refine KQ.goes .head fun w hw=>.inl ⟨rfl,_,⟨M',hM',rfl⟩,hw⟩
   ·refine ZE ?_;refine KQ.leaves .head fun w hw=>.inr ⟨rfl,_,⟨M',hM',rfl⟩,hw⟩
  |_=>exact hh.elim
 have tY:=St.xE (A:=[bI l (.loop ⟨.ready,none,fn,tm,#[p],assign,body,b⟩),bI b (.deferred (some []))]) (B:=u6 b4 b3 b5 s ⟨#[c]⟩) (C:=L) hw
 refine((T9 w0 l c s dr b4 b3 b5 (fun k L'=> ∃M,C k M/\L'=bI l (.loop ⟨.ready,none,fn,tm,#[p],assign,body,b⟩)::bI b (.deferred (some []))::M)
  (fun L'=> ∃M,X M/\L'=bI l (.loop ⟨.done,some .ret,fn,tm,#[p],assign,body,b⟩)::bI b (.deferred (some []))::M) hY _ ⟨L,h0,rfl⟩) w tY).mono ?_
 rintro e w' ⟨v,L',rfl,⟨s',M',rfl,(⟨M,hM,rfl⟩|⟨M,hM,rfl⟩)⟩,hs⟩
 ·refine⟨_,u6 b4 b3 b5 s' ⟨#[c]⟩++M,.ready,none,rfl,ai,St.xE (B:=[bI l (.loop ⟨.ready,none,fn,tm,#[p],assign,body,b⟩),bI b (.deferred (some []))]) hs,?_⟩;exact KQ.conv (fun w hw=>St.I0 (St.xE (A:=[bI b (.deferred (some []))]) (B:=u6 b4 b3 b5 s' ⟨#[c]⟩) hw)) (Yp b M hM)
 ·refine⟨_,u6 b4 b3 b5 s' ⟨#[c]⟩++M,.done,some .ret,rfl,ai,St.xE (B:=[bI l (.loop ⟨.done,some .ret,fn,tm,#[p],assign,body,b⟩),bI b (.deferred (some []))]) hs,?_⟩;exact K.ret (KQ.conv (fun w hw=>St.I0 (St.xE (A:=[bI b (.deferred (some []))]) (B:=u6 b4 b3 b5 s' ⟨#[c]⟩) hw)) (XY b M hM))
end Go.Proofs.YtjhogocabcdjbabGreatDoor
namespace WB
open Go
def ep (s:ak):Option Int:=match Lib.atoiAll s.data.toList with| .ok v=>some v|_=>none
def fk (p:ak):Option Ms:=
 match di 32 p with
 |[a,b,c,d,e]=>match ep a,ep b,ep e with|some x,some y,some z=>some ⟨x,y,c,d,z⟩|_,_,_=>none
 |_=>none
def eh:List ak->Option (List Ms)
 |[]=>some []
 |p::ps=>match fk p,eh ps with|some m,some ms=>some (m::ms)|_,_=>none
def rn (s:ak):Option (List Ms):=
 if s=⟨#[]⟩then some []else match eh (di 43 s)with|none=>none|some xs=>if iV xs=none/\ct xs=s then some xs else none
theorem uX{p:ak}:∀{ps:List ak} {xs:List Ms},eh ps=some xs->eh (ps++[p])=(fk p).map fun m=>xs++[m]
 |[],xs,h=>by
  simp only[eh,az]at h;subst h;simp only[List.nil_append,eh];cases fk p<;>rfl
 |q::ps,xs,h=>by
  simp only[eh]at h;cases h1:fk q with
  |none=>rw[h1]at h;simp at h
  |some m=>
   rw[h1]at h;cases h2:eh ps with
   |none=>rw[h2]at h;simp at h
   |some ms=>
    rw[h2]at h;simp only[az]at h;subst h;have ih:=uX (p:=p) h2;simp only[bz,eh,h1,ih];cases fk p<;>rfl
theorem j_{p:ak}(hp:fk p=none):∀{ps:List ak},p∈ps->eh ps=none
 |[],h=>by cases h
 |q::ps,h=>by
  rcases aD.1 h with rfl|h
  ·simp only[eh,hp]
  ·simp only[eh,j_ hp h];cases fk q<;>rfl
theorem x7:∀{xs:List Ms} {f:Ms->ak},(∀m∈xs,fk (f m)=some m)->eh (xs.map f)=some xs
 |[],_,_=>rfl
 |m::xs,f,h=>by
  simp only[aJ,eh,h m aj,x7 (fun x hx=>h x (List.mem_cons_of_mem _ hx))]
theorem rj:∀{ps:List ak} {xs:List Ms},eh ps=some xs->xs.length=ps.length
 |[],xs,h=>by simp only[eh,az]at h;subst h;rfl
 |q::ps,xs,h=>by
  simp only[eh]at h;cases h1:fk q with
  |none=>rw[h1]at h;simp at h
  |some m=>
   rw[h1]at h;cases h2:eh ps with
   |none=>rw[h2]at h;simp at h
   |some ms=>
    rw[h2]at h;simp only[az]at h;subst h;simp[rj h2]
theorem sE{s:ak}(h:gS s=true):∀b∈s.data.toList,b≠32/\b≠43:=fun b hb=>by
 unfold gS at h;have :=aI.1 h b hb;constructor<;>(rintro rfl;revert this;decide)
theorem lf{n:Int}:∀b∈(bP n).data.toList,b≠32/\b≠43:=fun b hb=>by
 have :=yw b hb;constructor<;>(rintro rfl;revert this;decide)
theorem sV{s:ak}(h:ko s=true):gS s=true:=by unfold ko du at h;simp at h;exact h.2.2
theorem gB{s:ak}(h:c6 s=true):gS s=true:=by unfold c6 du at h;simp at h;exact h.2.2
theorem p8(m:Ms):oP m=cS [bP m.id,bP m.pri,m.body,m.queue,bP m.ck] sp:=by
 rw[fB,fB,fB,J1];unfold oP;simp only[KB]
theorem gZ{n:Int}(h:ob n):ep (bP n)=some n:=by unfold ep;rw[KN h]
theorem JI{m:Ms}(h:bM m=true):fk (oP m)=some m:=by
 obtain⟨h1,h2,h3,h4,h5,h6,h7,h8⟩:=bN h;have hb:=sE (sV h5);have hq:=sE (gB h6);have :di 32 (oP m)=[bP m.id,bP m.pri,m.body,m.queue,bP m.ck]:=by
  rw[p8];refine x6 aj fun x hx b YA=>?_
  simp only[aD,List.not_mem_nil,or_false]at hx;rcases hx with rfl|rfl|rfl|rfl|rfl
  ·exact(lf b YA).1
  ·exact(lf b YA).1
  ·exact(hb b YA).1
  ·exact(hq b YA).1
  ·exact(lf b YA).1
 unfold fk;rw[this];simp only[gZ (n:=m.id) ⟨by omega,by omega⟩,gZ (n:=m.pri) ⟨by omega,by omega⟩,gZ (n:=m.ck) ⟨by omega,by omega⟩]
theorem iS{sep:ak}:∀{l:List ak} {b:UInt8},b∈(cS l sep).data.toList->b∈sep.data.toList\/∃x∈l,b∈x.data.toList
 |[],b,h=>by rw[A0]at h;simp at h
 |[x],b,h=>by rw[jL]at h;exact .inr ⟨x,by simp,h⟩
 |x::y::r,b,h=>by
  rw[fB]at h;simp only[ByteArray.data_append,Array.toList_append,aH]at h;rcases h with(h|h)|h
  ·exact .inr ⟨x,by simp,h⟩
  ·exact .inl h
  ·rcases iS h with h|⟨z,hz,h⟩
   ·exact .inl h
   ·exact .inr ⟨z,List.mem_cons_of_mem _ hz,h⟩
theorem Mv{m:Ms}(h:bM m=true):∀b∈(oP m).data.toList,b≠43:=fun b hb=>by
 obtain⟨h1,h2,h3,h4,h5,h6,h7,h8⟩:=bN h;rw[p8]at hb;rcases iS hb with hb|⟨x,hx,hb⟩
 ·have :b=32:=by simpa[sp]using hb
  subst this;decide
 ·simp only[aD,List.not_mem_nil,or_false]at hx;rcases hx with rfl|rfl|rfl|rfl|rfl
  ·exact(lf b hb).2
  ·exact(lf b hb).2
  ·exact(sE (sV h5) b hb).2
  ·exact(sE (gB h6) b hb).2
  ·exact(lf b hb).2
theorem D3{xs:List Ms}(h:iV xs=none)(h0:xs≠[]):eh (di 43 (ct xs))=some xs:=by
 have hr:=dx h;have :di 43 (ct xs)=xs.map oP:=by
  unfold ct;refine x6 Xj fun x hx=>?_
  obtain⟨m,hm,rfl⟩:=ay.1 hx;exact Mv (hr m hm)
 rw[this];exact x7 fun m hm=>JI (hr m hm)
theorem P6(m:Ms):1<=(oP m).size:=by
 unfold oP;simp only[aQ];have :sp.size=1:=rfl;omega
theorem Jg{xs:List Ms}(h0:xs≠[]):ct xs≠⟨#[]⟩:=by
 cases xs with
 |nil=>exact absurd rfl h0
 |cons m r=>
  intro h;have h1:=congrArg ByteArray.size h;have h2:=P6 m;unfold ct at h1;rw[aJ]at h1;cases r with
  |nil=>rw[List.map_nil,jL]at h1;have :(⟨#[]⟩:ak).size=0:=rfl;omega
  |cons m' r=>rw[aJ,fB]at h1;simp only[aQ]at h1;have :(⟨#[]⟩:ak).size=0:=rfl;omega
theorem p9{xs:List Ms}(h:iV xs=none):rn (ct xs)=some xs:=by
 unfold rn;by_cases h0:xs=[]
 ·subst h0;rfl
 ·rw[if_neg (Jg h0),D3 h h0];simp[h]
theorem mY{s:ak}{xs:List Ms}(h:rn s=some xs):iV xs=none/\ct xs=s:=by
 unfold rn at h;split at h
 ·rename_i h0;simp only[az]at h;subst h;exact⟨rfl,h0.symm⟩
 ·split at h
  ·cases h
  ·split at h
   ·rename_i h1;simp only[az]at h;subst h;exact h1
   ·cases h
theorem l8(c:UInt8):∀l,∀p∈pieces c l,p.length<=l.length
 |[],p,hp=>by simp[pieces]at hp;subst hp;exact aF _
 |a::l,p,hp=>by
  by_cases h:a=c
  ·subst h;rw[pieces_eq]at hp;rcases aD.1 hp with rfl|hp
   ·simp
   ·have :=l8 a l p hp;simp;omega
  ·obtain⟨q,qs,e⟩:=List.exists_cons_of_ne_nil (tL c l);rw[lx h e]at hp;rcases aD.1 hp with rfl|hp
   ·have :=l8 c l q (by rw[e];simp);simp;omega
   ·have :=l8 c l p (by rw[e];simp[hp]);simp;omega
theorem gJ{c:UInt8}{s p:ak}(h:p∈di c s):p.size<=s.size:=by
 unfold di at h;obtain⟨q,hq,rfl⟩:=ay.1 h;have :=l8 c _ q hq;rw[jw,jw,E7];exact this
theorem D4{p:ak}{m:Ms}(h:fk p=some m):m.body.size<=p.size/\m.queue.size<=p.size:=by
 unfold fk at h;split at h
 ·rename_i a b c d e hp;split at h
  ·simp only[az]at h;subst h;exact⟨gJ (c:=32) (by rw[hp];simp),gJ (c:=32) (by rw[hp];simp)⟩
  ·cases h
 ·cases h
theorem uY{B:Nat}:∀{ps:List ak} {xs:List Ms},eh ps=some xs->(∀p∈ps,p.size<=B)->∀m∈xs,m.body.size<=B/\m.queue.size<=B
 |[],xs,h,_,m,hm=>by simp only[eh,az]at h;subst h;cases hm
 |q::ps,xs,h,hB,m,hm=>by
  simp only[eh]at h;cases h1:fk q with
  |none=>rw[h1]at h;simp at h
  |some m'=>
   rw[h1]at h;cases h2:eh ps with
   |none=>rw[h2]at h;simp at h
   |some ms=>
    rw[h2]at h;simp only[az]at h;subst h;rcases aD.1 hm with rfl|hm
    ·have :=D4 h1;have :=hB q aj;omega
    ·exact uY h2 (fun p hp=>hB p (List.mem_cons_of_mem _ hp)) m hm
theorem ri(c:UInt8)(s:ak):(di c s).length<=s.size+1:=by
 unfold di;rw[aW,fM];have :=List.count_le_length (a:=c) (l:=s.data.toList);rw[jw];omega
theorem nX{m:Ms}(h:bM m=true):m.body.size<=maxLen/\m.queue.size<=maxLen:=by
 obtain⟨h1,h2,h3,h4,h5,h6,h7,h8⟩:=bN h;have a4:m.body.size<=12:=by unfold ko du at h5;simp at h5;omega
 have a5:m.queue.size<=8:=by unfold c6 du at h6;simp at h6;omega
 unfold maxLen;omega
end WB
namespace Go.Proofs.YtjhogocabcdjbabGreatDoor
open Tryz
open Go Go.RowKit WB
def o2 (w:World):Prop:=(∃m,w.cell? ⟨1,0,none⟩=some (.int .i64 m))/\(∃t p,w.cell? ⟨2,0,none⟩=some (.iface t p))/\(∃t p,w.cell? ⟨3,0,none⟩=some (.iface t p))
theorem o2.ext{w w':World}(h:o2 w)(e:Ext w w'):o2 w':=by
 obtain⟨⟨m,h1⟩,⟨t,p,h2⟩,⟨t',p',h3⟩⟩:=h;exact⟨⟨m,e.cell h1⟩,⟨t,p,e.cell h2⟩,⟨t',p',e.cell h3⟩⟩
theorem Ay{w0 w:World}{L:List HP}{b k:Nat}{xs:List ak}{vs:List Value}(h:St w0 (bI b (.cells vs.toArray 9 (0,0))::L) w)(Qn:vs=xs.map Value.string)(hk:xs.length=k)(hle:k<=1000000000):St w0 (kO (.slice (some ⟨b,0,none⟩) k k) xs::L) w:=by
 subst hk;have hf:xs.flatMap j7=vs:=by rw[Qn];clear Qn h hle;induction xs with
  |nil=>rfl
  |cons a l ih=>rw[aR,ih];rfl
 refine h.kx (aF _) R_ ?_ ?_
 ·rw[Qn];simp
 ·rw[hf,Qn,Nat.mul_one];exact List.take_of_length_le aj
theorem kP(w0:World)(L:List HP)(s:ak)(c:UInt8)(hs:s.size<=100000000)(hM:o2 w0):KE prog 133 #[.string s,.string ⟨#[c]⟩] w0 L (fun u M=> ∃b,u=.slice (some ⟨b,0,none⟩) (di c s).length (di c s).length/\M=kO (.slice (some ⟨b,0,none⟩) (di c s).length (di c s).length) (di c s)::L):=fun w hw=>by
 obtain⟨⟨m,hm⟩,_⟩:=hM.ext (Ext.bW hw.below);refine(Tryz.strings_Split s ⟨#[c]⟩ m w ae hm (aF _)).mono ?_;rintro e w' ⟨rfl,rfl⟩;rw[JG,<-PV];have hl:(di c s).length<=s.size+1:=by unfold di;rw[aW,fM];have :=List.count_le_length (a:=c) (l:=s.data.toList);rw[jw];omega
 exact⟨_,_,rfl,⟨w.heap.size,rfl,rfl⟩,Ay (hw.alloc _) rfl rfl ae,Below.alloc (Below.refl _ w) (aF _) _⟩
def jx (s:ak) (u:Value):Prop:=match ep s with|some v=>u=.tuple #[.int .i64 v,.nilIface]|none=> ∃x T y,u=.tuple #[.int .i64 x,.iface T y]
theorem gR(w0:World)(L:List HP)(s:ak)(hs:s.size<=100000000)(hM:o2 w0):KE prog 136 #[.string s] w0 L (fun u M=>jx s u/\M=L):=fun w hw=>by
 obtain⟨_,⟨t,p,h2⟩,⟨t',p',h3⟩⟩:=hM.ext (Ext.bW hw.below);unfold jx;rcases h:Lib.atoiAll s.data.toList with v|_|_
 ·have hn:ep s=some v:=by unfold ep;rw[h]
  refine(Tryz.strconv_Atoi_ok s ae v h w).mono ?_;rintro e w' ⟨rfl,hw'⟩;have hb:Below w.heap.size w w':=by
   rcases hw' with rfl|⟨t,rfl⟩
   ·exact Below.refl _ _
   ·exact Lib.bytesWorld_below _ _ _
  exact⟨_,_,rfl,⟨by rw[hn],rfl⟩,hw.aC hb,hb⟩
 ·have hn:ep s=none:=by unfold ep;rw[h]
  refine(Tryz.strconv_Atoi_syntax s ae h _ w h2 (.inr ⟨t,p,rfl⟩)).mono ?_;rintro e w' ⟨N,rfl,_,_,hb⟩;exact⟨_,_,rfl,⟨by rw[hn];exact⟨_,_,_,rfl⟩,rfl⟩,hw.aC hb,hb⟩
 ·have hn:ep s=none:=by unfold ep;rw[h]
  refine(Tryz.strconv_Atoi_range s ae h _ w h3 (.inr ⟨t',p',rfl⟩)).mono ?_;rintro e w' ⟨N,rfl,_,_,hb⟩;exact⟨_,_,rfl,⟨by rw[hn];exact⟨_,_,_,rfl⟩,rfl⟩,hw.aC hb,hb⟩
def Sd (L:List HP) (s:ak) (u:Value) (M:List HP):Prop:=
 match rn s with
 |some xs=> ∃v,u=.tuple #[v,.nilIface]/\M=SL 44 5 dh v xs::L
 |none=>u=.tuple #[.slice none 0 0,cI 70 3]/\M=L
def Rz (x y z:Int):Nat->List Value
 |0=>[.int .i64 0,.int .i64 0,.int .i64 0,.int .i64 0,.int .i64 0]
 |1=>[.int .i64 x,.int .i64 0,.int .i64 0,.int .i64 0,.int .i64 0]
 |2=>[.int .i64 x,.int .i64 y,.int .i64 0,.int .i64 0,.int .i64 0]
 |_=>[.int .i64 x,.int .i64 y,.int .i64 0,.int .i64 0,.int .i64 z]
def L6 (b4 b3 b2:Nat) (v e:Value) (xs:List Ms):List HP:=[bI b4 (.cells [v].toArray 49 (0,0)),bI b3 (.cells [e].toArray 31 (0,0)),bI b2 (.cells [.slice none 0 0].toArray 49 (0,0)),SL 44 5 dh v xs]
def rdC (s:ak) (b4 b3 b2:Nat) (k:Nat) (M:List HP):Prop:= ∃v xs,M=L6 b4 b3 b2 v .nilIface xs/\eh ((di 43 s).take k)=some xs
def rdX (s:ak) (b4 b3 b2:Nat) (M:List HP):Prop:=(∃v xs,M=L6 b4 b3 b2 v (cI 70 3) xs)/\eh (di 43 s)=none
theorem Mu:(prog.info? 44).map (fun i=>(i.zero,i.size,i.bytes))=some (some (Value.agg #[.int .i64 0,.int .i64 0,.string ⟨#[]⟩,.string ⟨#[]⟩,.int .i64 0]),5,56):=by kernel_rfl
theorem n_(w0:World)(L:List HP)(s:ak)(hs:s.size<=90000)(O1:o0 w0)(YL:o2 w0):KE prog 160 #[.string s] w0 L (Sd L s):=by
 refine KE.mkM (n:=74) func160 rfl ntmps160 aj ?_;intro w hw;have hT:=O1.ext (Ext.bW hw.below);have hM:=YL.ext (Ext.bW hw.below);unfold Sd;refine Z3 ?_;refine KO.alloc rfl zeroValue49 aP rfl ?_;intro b2;refine KO.alloc rfl zeroValue31 aP rfl ?_;intro b3;refine Z0 ?_;by_cases h0:s=⟨#[]⟩
 ·have e0:rn s=some []:=by unfold rn;rw[if_pos h0]
  rw[e0];refine Z8 ?_;refine zo ?_;refine Z2 ?_;refine K.cL rfl Xj ?_;refine Z3 ?_;refine Z90 ?_;refine Z4 ?_;refine KQ.TF rfl rfl rfl isAgg49 isAgg31 bn bQ (fun w' hs=>⟨_,_,rfl,⟨_,rfl,rfl⟩,?_,hs.below⟩);exact cD (hw.aC hs.below)
 refine Z8 ?_;refine zo ?_;refine Z2 ?_;refine K.da rfl Xj ?_;refine wx ?_;refine KO.alloc rfl zeroValue49 aP rfl ?_;intro b4;refine Fi ?_;refine KO.ce (cp:=[]) rfl rfl rfl call113 rfl (Xr w _ s ⟨#[43]⟩) ?_;rintro v' L' ⟨i4,i3,i5,rfl,rfl⟩;refine KO.nil ?_;refine KQ.next ?_
 refine K.block ?_;refine K.conv (L':=u6 i4 i3 i5 s ⟨#[43]⟩++L6 b4 b3 b2 (.slice none 0 0) .nilIface []) (fun w hw=>?_) ?_
 ·simp only[L6,u6,bz,List.nil_append]at hw ⊢;exact(cD hw).all Y3
 have hlen:(di 43 s).length<=s.size+1:=by unfold di;rw[aW,fM];have :=List.count_le_length (a:=43) (l:=s.data.toList);rw[jw];omega
 refine K.L7 (rdC s b4 b3 b2) (rdX s b4 b3 b2) (G2:=fun q=>[(5,.string q),(0,.string s),(2,.pointer (some ⟨b2,0,none⟩)),(3,.pointer (some ⟨b3,0,none⟩)),(4,.pointer (some ⟨b4,0,none⟩))]) rfl rfl ae ⟨_,_,rfl,rfl⟩ ?_ ?_ ?_ ?_
 ·intro l N q;refine KR.K9 bC (fun a w h=>by exact h) ?_;refine uR ?_;exact KQ.qL () trivial ⟨rfl,rfl,rfl,rfl,rfl,trivial⟩ (fun _ h=>h)
 ·rintro k q M l N RQ hq ⟨v,xs,rfl,rY⟩ qO hgo Qv;have rZ:xs.length<100000:=by have :=rj rY;rw[bA]at this;omega
  have WE:q.size<=90000:=by have :=gJ (ax hq);omega
  simp only[L6,bz,List.nil_append]
  repeat(first|(with_reducible refine KR.seq ?_)|(with_reducible refine KR.block ?_))
  refine CN ?_;refine KO.ce (cp:=[]) rfl rfl rfl call133 rfl (kP w _ q 32 ae hM) ?_;rintro v' L' ⟨bq,rfl,rfl⟩;refine Af ?_;by_cases h5:(di 32 q).length=5
  case neg=>
   refine CN ?_;refine N3 ?_;refine Fy ?_;refine KR.cL rfl fx ?_;refine Fx ?_;refine KX ?_;refine KO.nil ?_;refine Z78 ?_;refine Qv _ _ ⟨⟨_,_,rfl⟩,j_ (p:=q) ?_ (ax hq)⟩;unfold fk;split
   ·rename_i h;rw[h]at h5;exact absurd rfl h5
   ·rfl
  refine CN ?_;refine N3 ?_;refine Fy ?_;refine KR.da rfl fx ?_
  repeat(first|(with_reducible refine KR.seq ?_)|(with_reducible refine KQ.sx ?_)|(with_reducible refine KR.skip ?_))
  obtain⟨wa,wb,wc,wd,we,sG⟩:∃wa wb wc wd we,di 32 q=[wa,wb,wc,wd,we]:=by
   generalize di 32 q=l at h5
   match l,h5 with
   |[a,b,c,d,e],_=>exact⟨a,b,c,d,e,rfl⟩
  have OT:∀x∈[wa,wb,wc,wd,we],x.size<=100000000:=fun x hx=>by have :=gJ (c:=32) (s:=q) (p:=x) (by rw[sG];exact hx);omega
  rw[sG];refine N9 ?_;refine KO.alloc rfl zeroValue333 aP rfl ?_;intro b7;refine Xe ?_;refine N9 ?_;refine KO.Zp rfl (by intro w;go_simp;rfl) rfl ?_;refine Xa ?_
  repeat(first|(with_reducible refine KQ.sx ?_)|(with_reducible refine KR.block ?_))
  obtain⟨x,hx⟩:∃x,x=(ep wa).getD 0:=⟨_,rfl⟩;obtain⟨y,hy⟩:∃x,x=(ep wb).getD 0:=⟨_,rfl⟩;obtain⟨z,hz⟩:∃x,x=(ep we).getD 0:=⟨_,rfl⟩;refine KR.loop (fun i:Nat=>[(26,.int .i64 (i:Nat)),(25,.agg [.int .i64 0,.int .i64 1,.int .i64 4].toArray),(7,.pointer (some ⟨b7,0,none⟩)),(6,.slice (some ⟨bq,0,none⟩) 5 5),(5,.string q),(0,.string s),(2,.pointer (some ⟨b2,0,none⟩)),(3,.pointer (some ⟨b3,0,none⟩)),(4,.pointer (some ⟨b4,0,none⟩))])
   (fun i=>bI b7 (.cells (Rz x y z i).toArray 333 (0,0))::kO (.slice (some ⟨bq,0,none⟩) 5 5) [wa,wb,wc,wd,we]::(L6 b4 b3 b2 v .nilIface xs++N))
   (fun i=>i<=3/\(0<i->ep wa=some x)/\(1<i->ep wb=some y)/\(2<i->ep we=some z)) (fun i=>3-i) 0
   ⟨by omega,fun h=>by omega,fun h=>by omega,fun h=>by omega⟩ ⟨rfl,rfl,rfl,rfl,rfl,rfl,rfl,rfl,rfl,trivial⟩ (fun w hw=>hw.all nI) ?_
  rintro i ⟨hi,mH,kB,X7⟩;have qQ:i=0\/i=1\/i=2\/i=3:=by omega
  simp only[L6,bz,List.nil_append];rcases qQ with rfl|rfl|rfl|rfl
  ·
   refine Fx ?_;refine wk ?_;refine Xe ?_;refine V9 ?_;refine N9 ?_;refine KO.MQ (cs:=[.int .i64 0,.int .i64 1,.int .i64 4]) (i:=0) rfl rfl underlying334 isAgg3 sizeOf3 rfl ai rfl rfl ?_;refine Af ?_;cases hn:ep wa with
   |none=>
    refine Zz ?_;refine V0 ?_;refine KO.ce (cp:=[]) rfl rfl rfl call136 rfl (gR w _ wa (OT wa aj) hM) ?_;rintro v' L' ⟨hR,rfl⟩;unfold jx at hR;rw[hn]at hR;obtain⟨xx,TT,yy,rfl⟩:=hR;refine N6 ?_;refine Af ?_;refine CN ?_;refine uO ?_;refine Fy ?_;refine KR.cL rfl rfl ?_;refine Fx ?_;refine KX ?_;refine KO.nil ?_;refine Z78 ?_;refine Qv _ _ ⟨⟨_,_,rfl⟩,j_ (p:=q) ?_ (ax hq)⟩;unfold fk;rw[sG];simp only[];rw[hn]
    all_goals (cases ep wa<;>cases ep wb<;>cases ep we<;>rfl)
   |some vv=>
    have XP:vv=x:=by rw[hx,hn];rfl
    refine Zz ?_;refine V0 ?_;refine KO.ce (cp:=[]) rfl rfl rfl call136 rfl (gR w _ wa (OT wa aj) hM) ?_;rintro v' L' ⟨hR,rfl⟩;unfold jx at hR;rw[hn]at hR;subst hR;refine N6 ?_;refine Af ?_;refine CN ?_;refine I_ ?_;refine Fy ?_;refine V3 ?_;refine Ft ?_;refine KO.jP (i:=0) rfl rfl runUnderlying333 sizeOf3 rfl ai rfl ?_;refine KO.fX (i:=0) rfl rfl rfl aP zM rfl bQ (by rfl) (by simp[Rz]) ?_;refine VZ ?_;refine N9 ?_;refine xc ?_;refine Xa ?_;subst XP;refine KQ.round 1 ⟨by omega,fun h=>?_,fun h=>?_,fun h=>?_⟩ ai ⟨rfl,rfl,rfl,rfl,rfl,rfl,rfl,rfl,rfl,trivial⟩ (fun w hw=>hw.all nI)
    all_goals first|omega|rfl
  ·
   refine Fx ?_;refine wk ?_;refine Xe ?_;refine V9 ?_;refine N9 ?_;refine KO.MQ (cs:=[.int .i64 0,.int .i64 1,.int .i64 4]) (i:=1) rfl rfl underlying334 isAgg3 sizeOf3 rfl ai rfl rfl ?_;refine Af ?_;cases hn:ep wb with
   |none=>
    refine Ft ?_;refine ZM ?_;refine KO.ce (cp:=[]) rfl rfl rfl call136 rfl (gR w _ wb (OT wb aj) hM) ?_;rintro v' L' ⟨hR,rfl⟩;unfold jx at hR;rw[hn]at hR;obtain⟨xx,TT,yy,rfl⟩:=hR;refine N6 ?_;refine Af ?_;refine CN ?_;refine uO ?_;refine Fy ?_;refine KR.cL rfl rfl ?_;refine Fx ?_;refine KX ?_;refine KO.nil ?_;refine Z78 ?_;refine Qv _ _ ⟨⟨_,_,rfl⟩,j_ (p:=q) ?_ (ax hq)⟩;unfold fk;rw[sG];simp only[];rw[hn]
    all_goals (cases ep wa<;>cases ep wb<;>cases ep we<;>rfl)
   |some vv=>
    have XP:vv=y:=by rw[hy,hn];rfl
    refine Ft ?_;refine ZM ?_;refine KO.ce (cp:=[]) rfl rfl rfl call136 rfl (gR w _ wb (OT wb aj) hM) ?_;rintro v' L' ⟨hR,rfl⟩;unfold jx at hR;rw[hn]at hR;subst hR;refine N6 ?_;refine Af ?_;refine CN ?_;refine I_ ?_;refine Fy ?_;refine V3 ?_;refine Ft ?_;refine KO.jP (i:=1) rfl rfl runUnderlying333 sizeOf3 rfl ai rfl ?_;refine KO.fX (i:=1) rfl rfl rfl aP zM rfl bQ (by rfl) (by simp[Rz]) ?_;refine VZ ?_;refine N9 ?_;refine xc ?_;refine Xa ?_;subst XP;refine KQ.round 2 ⟨by omega,fun h=>?_,fun h=>?_,fun h=>?_⟩ ai ⟨rfl,rfl,rfl,rfl,rfl,rfl,rfl,rfl,rfl,trivial⟩ (fun w hw=>hw.all nI)
    all_goals first|omega|rfl|exact mH ae
  ·
   refine Fx ?_;refine wk ?_;refine Xe ?_;refine V9 ?_;refine N9 ?_;refine KO.MQ (cs:=[.int .i64 0,.int .i64 1,.int .i64 4]) (i:=2) rfl rfl underlying334 isAgg3 sizeOf3 rfl ai rfl rfl ?_;refine Af ?_;cases hn:ep we with
   |none=>
    refine Ft ?_;refine ZL ?_;refine KO.ce (cp:=[]) rfl rfl rfl call136 rfl (gR w _ we (OT we aj) hM) ?_;rintro v' L' ⟨hR,rfl⟩;unfold jx at hR;rw[hn]at hR;obtain⟨xx,TT,yy,rfl⟩:=hR;refine N6 ?_;refine Af ?_;refine CN ?_;refine uO ?_;refine Fy ?_;refine KR.cL rfl rfl ?_;refine Fx ?_;refine KX ?_;refine KO.nil ?_;refine Z78 ?_;refine Qv _ _ ⟨⟨_,_,rfl⟩,j_ (p:=q) ?_ (ax hq)⟩;unfold fk;rw[sG];simp only[];rw[hn]
    all_goals (cases ep wa<;>cases ep wb<;>cases ep we<;>rfl)
   |some vv=>
    have XP:vv=z:=by rw[hz,hn];rfl
    refine Ft ?_;refine ZL ?_;refine KO.ce (cp:=[]) rfl rfl rfl call136 rfl (gR w _ we (OT we aj) hM) ?_;rintro v' L' ⟨hR,rfl⟩;unfold jx at hR;rw[hn]at hR;subst hR;refine N6 ?_;refine Af ?_;refine CN ?_;refine I_ ?_;refine Fy ?_;refine V3 ?_;refine Ft ?_;refine KO.jP (i:=4) rfl rfl runUnderlying333 sizeOf3 rfl ai rfl ?_;refine KO.fX (i:=4) rfl rfl rfl aP zM rfl bQ (by rfl) (by simp[Rz]) ?_;refine VZ ?_;refine N9 ?_;refine xc ?_;refine Xa ?_;subst XP;refine KQ.round 3 ⟨by omega,fun h=>?_,fun h=>?_,fun h=>?_⟩ ai ⟨rfl,rfl,rfl,rfl,rfl,rfl,rfl,rfl,rfl,trivial⟩ (fun w hw=>hw.all nI)
    all_goals first|rfl|exact mH ae|exact kB ae
  ·refine Fx ?_;refine wk ?_;refine Xe ?_;refine KR.da rfl rfl ?_
   repeat(first|(with_reducible refine KQ.sx ?_)|(with_reducible refine KQ.iO ?_)|(with_reducible refine KQ.kp ?_)|(with_reducible refine KR.exit ?_))
   refine KR.draw [.read,.pure,.read,.pure,.read,.pure,.pure,.read,.pure,.pure,.read,.pure,.read,.pure,.c7,.write,.write] [0,1,2,3,4,5,6,7,8,9,10,11,12,13,14,15,16] bC bC bC (fun a w h=>by exact qO a w h) ?_;refine Od ?_;refine KO.jP (i:=0) rfl rfl runUnderlying333 sizeOf3 rfl ai rfl ?_;refine s7 ?_;refine KO.jP (i:=1) rfl rfl runUnderlying333 sizeOf3 rfl ai rfl ?_;refine s7 ?_;refine Z1 ?_;refine KO.eF (i:=2) rfl rfl runUnderlying115 sizeOf9 rfl ai rfl ?_;refine ZA ?_;refine Z1 ?_;refine KO.eF (i:=3) rfl rfl runUnderlying115 sizeOf9 rfl ai rfl ?_;refine KO.ia (i:=3) (sz:=1) (cf:=j7) (e:=wd) rfl rfl isAgg9 bn (fun _=>rfl) rfl aP aP rfl ?_;refine KO.jP (i:=4) rfl rfl runUnderlying333 sizeOf3 rfl ai rfl ?_;refine s7 ?_;refine Zw ?_;refine KO.kL (z:=(Value.agg #[.int .i64 0,.int .i64 0,.string ⟨#[]⟩,.string ⟨#[]⟩,.int .i64 0])) (sz:=5) (dI:=56) rfl rfl underlying49 bC aP aP ai ai rfl ?_;intro b58;refine KO.app (z:=Value.agg #[.int .i64 0,.int .i64 0,.string ⟨#[]⟩,.string ⟨#[]⟩,.int .i64 0]) (sz:=5) (dI:=56) rfl rfl rfl bn bQ underlying49 Mu rfl (⟨x,y,wc,wd,z⟩:Ms) aP aP aP ae ai rfl ?_;intro v';refine KO.fact (fun w hw=>aU hw) ?_;rintro⟨sa,cp,rfl,_⟩
   refine KO.oL rfl rfl rfl aP Y43 aP bn aP ?_;refine Ad ?_;refine KQ.conv (fun w hw=>hw.all (M:=L6 b4 b3 b2 (.slice sa (xs++[(⟨x,y,wc,wd,z⟩:Ms)]).length cp) .nilIface (xs++[(⟨x,y,wc,wd,z⟩:Ms)])++N) Y5) ?_
   have WH:fk q=some ⟨x,y,wc,wd,z⟩:=by
    unfold fk;rw[sG];simp only[];rw[mH ae,kB ae,X7 ae]
   refine hgo _ _ ⟨_,_,rfl,?_⟩;rw[bG hq,uX rY,WH];rfl
 ·rintro b M ⟨v,xs,rfl,rY⟩;rw[List.take_length]at rY;have rZ:xs.length<=100000:=by have :=rj rY;omega
  have Ux:∀m∈xs,m.body.size<=maxLen/\m.queue.size<=maxLen:=fun m hm=>by
   have :=uY (B:=90000) rY (fun p hp=>by have :=gJ hp;omega) m hm;unfold maxLen;omega
  have zW:rn s=if iV xs=none/\ct xs=s then some xs else none:=by unfold rn;rw[if_neg h0,rY]
  rw[zW];simp only[L6]
  repeat(first|(with_reducible refine K.seq ?_)|(with_reducible refine KQ.next ?_)|(with_reducible refine KQ.gQ ?_))
  refine K.fact (fun w hw=>aU (hw.pick (.tail (.tail (.tail (.tail .head)))))) ?_;rintro⟨sa,cp,rfl,_⟩;cases hb:iV xs with
  |some kb=>
   rw[if_neg aj];refine dM ?_;refine Od ?_;refine KO.ce (cp:=[]) rfl rfl rfl call60 rfl (kg w _ _ xs (fun w' hw'=>vE.Ea (fun _=>rfl) bn hw') hT Ux rZ) ?_;rintro v' L' hR;unfold OJ at hR;rw[hb]at hR;obtain⟨be,rfl,rfl⟩:=hR;unfold atV;refine jR ?_;refine uO ?_;refine rU ?_;refine uQ ?_;refine Z3 ?_;refine KX ?_;refine Z4 ?_;refine KQ.wN bn rfl rfl rfl isAgg49 isAgg31 bn bQ (fun w' hs=>⟨_,_,rfl,⟨aP,rfl⟩,hw.aC hs.below,hs.below⟩)
  |none=>
   by_cases sG:ct xs=s
   ·rw[if_pos ⟨rfl,sG⟩];refine dM ?_;refine Od ?_;refine KO.ce (cp:=[]) rfl rfl rfl call60 rfl (kg w _ _ xs (fun w' hw'=>vE.Ea (fun _=>rfl) bn hw') hT Ux rZ) ?_;rintro v' L' hR;unfold OJ at hR;rw[hb]at hR;obtain⟨rfl,rfl⟩:=hR;refine Fs ?_;refine KW ?_;refine CM ?_;refine K.da rfl (by simp[sG]) ?_;refine wx ?_;refine Od ?_;refine Z90 ?_;refine Z5 ?_;refine KQ.wN bn rfl rfl rfl isAgg49 isAgg31 bn bQ (fun w' hs=>⟨_,_,rfl,⟨_,rfl,rfl⟩,?_,hs.below⟩);exact hw.stack (M:=[SL 44 5 dh (.slice sa xs.length cp) xs]) (hs.all Y4)
   ·rw[if_neg (fun h=>sG h.2)];refine dM ?_;refine Od ?_;refine KO.ce (cp:=[]) rfl rfl rfl call60 rfl (kg w _ _ xs (fun w' hw'=>vE.Ea (fun _=>rfl) bn hw') hT Ux rZ) ?_;rintro v' L' hR;unfold OJ at hR;rw[hb]at hR;obtain⟨rfl,rfl⟩:=hR;refine Fs ?_;refine KW ?_;refine CM ?_;refine K.cL rfl (by simp[sG]) ?_;refine Z3 ?_;refine KX ?_;refine Z4 ?_;refine KQ.wN bn rfl rfl rfl isAgg49 isAgg31 bn bQ (fun w' hs=>⟨_,_,rfl,⟨aP,rfl⟩,hw.aC hs.below,hs.below⟩)
 ·rintro b M ⟨⟨v,xs,rfl⟩,hx⟩;have zW:rn s=none:=by unfold rn;rw[if_neg h0,hx]
  rw[zW];simp only[L6]
  repeat(first|(with_reducible refine KQ.mR ?_)|(with_reducible refine KQ.w_ ?_))
  refine KQ.wN bQ rfl rfl rfl isAgg49 isAgg31 bn bn (fun w' hs=>⟨_,_,rfl,⟨aP,rfl⟩,hw.aC hs.below,hs.below⟩)
end Go.Proofs.YtjhogocabcdjbabGreatDoor
