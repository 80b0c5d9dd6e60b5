import Derived.Test.YtjhogocabcdjbabGreatDoorB3
set_option linter.unusedSimpArgs false
set_option linter.unusedVariables false
/- frames' text: the program's and the document's -/
namespace Go.Proofs.YtjhogocabcdjbabGreatDoor
open Go Go.RowKit WB
theorem strS_blk {w0 w:World} {L:List HP} {b k:Nat} {xs:List ByteArray} {vs:List Value} (h:St w0 (blk b (.cells vs.toArray 9 (0,0))::L) w) (hvs:vs=xs.map Value.string) (hk:xs.length=k) (hle:k≤1000):St w0 (strS (.slice (some ⟨b,0,none⟩) k k) xs::L) w:=by
 subst hk
 have hf:xs.flatMap strC=vs:=by rw[hvs];clear hvs h hle;induction xs with
  |nil=>rfl
  |cons a l ih=>rw[List.flatMap_cons,ih];rfl
 refine h.osl_mk (Nat.le_refl _) Y35 ?_ ?_
 ·rw[hvs];simp
 ·rw[hf,hvs,Nat.mul_one];exact List.take_of_length_le (by simp)
set_option maxRecDepth 100000 in
set_option maxHeartbeats 4000000 in
theorem fw_e (w0:World) (L:List HP) (f:Fr) (v:Value) (xs:List Ms) (hr0:∀w,St w0 L w→RdA w 5 msC v xs) (hT0:Tab w0) (hsz:∀m∈xs,m.body.size≤maxLen∧m.queue.size≤maxLen):
 KE Tryz.prog 264 #[.agg (frC f v).toArray] w0 L (fun u M=>u=.tuple #[.string (fwT f xs),errV 70 (fwE f xs)]∧M=L):=by
 refine KE.mk (n:=62) Tryz.func264 rfl Tryz.ntmps264 (by simp) ?_
 intro w hw
 have hT:=hT0.ext (Ext.of_below hw.below)
 have hr:=hr0 w hw
 have hr1:=hr
 obtain⟨sa,cap,rfl,hc⟩:=hr1
 have fin:∀(e:Int) (t:ByteArray) (w':World) (M:List HP),e=fwE f xs→t=fwT f xs→St w M w'→∃v L',Ending.returned (.tuple #[.string t,errV 70 e])=Ending.returned v∧(v=.tuple #[.string (fwT f xs),errV 70 (fwE f xs)]∧L'=L)∧St w0 L' w'∧Below w.heap.size w w':=fun e t w' M h1 h2 hs=>⟨_,_,rfl,⟨by rw[h1,h2],rfl⟩,hw.below_step hs.below,hs.below⟩
 refine Z3 ?_
 refine KO.box rfl rfl Y68 rfl ?_;intro b1
 refine Z7 ?_
 refine Z21 ?_
 by_cases a1:f.frm<0
 ·have hbad:=fw_bad (f:=f) (xs:=xs) (fun h=>by unfold okF at h;omega)
  refine Z341 ?_
  refine Z260 ?_
  refine Z261 ?_
  refine Z43 ?_
  refine Z131 ?_
  refine Z45 ?_
  refine Z131 ?_
  refine Z271 ?_
  refine Z42 ?_
  refine Z271 ?_
  refine Z168 ?_
  refine Z169 ?_
  refine KQ.ret2 rfl rfl rfl (fun w' hs=>fin 1 ⟨#[]⟩ w' _ hbad.1.symm hbad.2.symm hs)
 by_cases a2:4≤f.frm
 ·have hbad:=fw_bad (f:=f) (xs:=xs) (fun h=>by unfold okF at h;omega)
  refine Z341 ?_
  refine Z311 ?_
  refine Z51 ?_
  refine Z100 ?_
  refine Z181 ?_
  refine Z261 ?_
  refine Z43 ?_
  refine Z131 ?_
  refine Z271 ?_
  refine Z42 ?_
  refine Z271 ?_
  refine Z45 ?_
  refine Z2 ?_
  refine K.condT rfl (by simp[a2]) ?_
  refine Z169 ?_
  refine KQ.ret2 rfl rfl rfl (fun w' hs=>fin 1 ⟨#[]⟩ w' _ hbad.1.symm hbad.2.symm hs)
 by_cases a3:f.num<0
 ·have hbad:=fw_bad (f:=f) (xs:=xs) (fun h=>by unfold okF at h;omega)
  refine Z341 ?_
  refine Z311 ?_
  refine Z51 ?_
  refine Z100 ?_
  refine Z181 ?_
  refine Z301 ?_
  refine Z31 ?_
  refine Z48 ?_
  refine Z261 ?_
  refine Z43 ?_
  refine Z179 ?_
  refine Z42 ?_
  refine Z271 ?_
  refine Z45 ?_
  refine Z2 ?_
  refine K.condT rfl (by simp[a3]) ?_
  refine Z169 ?_
  refine KQ.ret2 rfl rfl rfl (fun w' hs=>fin 1 ⟨#[]⟩ w' _ hbad.1.symm hbad.2.symm hs)
 by_cases a4:1099511627776<f.num
 ·have hbad:=fw_bad (f:=f) (xs:=xs) (fun h=>by unfold okF at h;omega)
  refine Z341 ?_
  refine Z311 ?_
  refine Z51 ?_
  refine Z100 ?_
  refine Z181 ?_
  refine Z301 ?_
  refine Z31 ?_
  refine Z48 ?_
  refine Z301 ?_
  refine Z340 ?_
  refine Z202 ?_
  refine Z103 ?_
  refine Z43 ?_
  refine Z179 ?_
  refine Z45 ?_
  refine Z2 ?_
  refine K.condT rfl (by simp[a4]) ?_
  refine Z169 ?_
  refine KQ.ret2 rfl rfl rfl (fun w' hs=>fin 1 ⟨#[]⟩ w' _ hbad.1.symm hbad.2.symm hs)
 have hz:decide ((xs.length:Int)=0)=decide (xs.length=0):=decide_eq_decide.2 (by omega)
 by_cases a5:f.ack=decide ((xs.length:Int)=0)
 case neg=>
  have hbad:=fw_bad (f:=f) (xs:=xs) (fun h=>by unfold okF at h;rw[hz]at a5;exact a5 h.2.2.2.2.1)
  have a6:(f.ack !=decide ((xs.length:Int)=0))=true:=by simpa using a5
  refine Z341 ?_
  refine Z311 ?_
  refine Z51 ?_
  refine Z100 ?_
  refine Z181 ?_
  refine Z301 ?_
  refine Z31 ?_
  refine Z48 ?_
  refine Z301 ?_
  refine Z340 ?_
  refine Z32 ?_
  refine Z175 ?_
  refine Z20 ?_
  refine Z290 ?_
  refine Z20 ?_
  refine Z112 ?_
  refine Z20 ?_
  refine Z182 ?_
  refine Z20 ?_
  refine Z101 ?_
  refine Z20 ?_
  refine Z68 ?_
  refine Z343 ?_
  refine Z48 ?_
  refine Z1 ?_
  refine Z136 ?_
  refine Z136 ?_
  refine Z328 ?_
  refine Z2 ?_
  refine K.condT rfl (by simp[a6]) ?_
  refine Z169 ?_
  refine KQ.ret2 rfl rfl rfl (fun w' hs=>fin 1 ⟨#[]⟩ w' _ hbad.1.symm hbad.2.symm hs)
 have a6:(f.ack !=decide ((xs.length:Int)=0))=false:=by simpa using a5
 by_cases a7:3<(xs.length:Int)
 ·have hbad:=fw_bad (f:=f) (xs:=xs) (fun h=>by unfold okF at h;omega)
  refine Z341 ?_
  refine Z311 ?_
  refine Z51 ?_
  refine Z100 ?_
  refine Z181 ?_
  refine Z301 ?_
  refine Z31 ?_
  refine Z48 ?_
  refine Z301 ?_
  refine Z340 ?_
  refine Z32 ?_
  refine Z175 ?_
  refine Z20 ?_
  refine Z290 ?_
  refine Z20 ?_
  refine Z112 ?_
  refine Z20 ?_
  refine Z182 ?_
  refine Z20 ?_
  refine Z101 ?_
  refine Z20 ?_
  refine Z68 ?_
  refine Z343 ?_
  refine Z48 ?_
  refine Z357 ?_
  refine Z112 ?_
  refine Z172 ?_
  refine Z182 ?_
  refine Z172 ?_
  refine Z101 ?_
  refine Z172 ?_
  refine Z170 ?_
  refine KO.pickF rfl Y63 rfl rfl ?_
  refine Z2 ?_
  refine K.condT rfl (by simp[a7]) ?_
  refine Z169 ?_
  refine KQ.ret2 rfl rfl rfl (fun w' hs=>fin 1 ⟨#[]⟩ w' _ hbad.1.symm hbad.2.symm hs)
 refine Z341 ?_
 refine Z311 ?_
 refine Z51 ?_
 refine Z100 ?_
 refine Z181 ?_
 refine Z301 ?_
 refine Z31 ?_
 refine Z48 ?_
 refine Z301 ?_
 refine Z340 ?_
 refine Z32 ?_
 refine Z175 ?_
 refine Z20 ?_
 refine Z290 ?_
 refine Z20 ?_
 refine Z112 ?_
 refine Z20 ?_
 refine Z182 ?_
 refine Z20 ?_
 refine Z101 ?_
 refine Z20 ?_
 refine Z68 ?_
 refine Z343 ?_
 refine Z48 ?_
 refine Z357 ?_
 refine Z112 ?_
 refine Z172 ?_
 refine Z182 ?_
 refine Z172 ?_
 refine Z101 ?_
 refine Z172 ?_
 refine Z170 ?_
 refine KO.pickF rfl Y63 rfl rfl ?_
 refine Z2 ?_
 refine K.condF rfl (by simp[a7]) ?_
 refine Z6 ?_
 cases hb:badI xs with
 |some k=>
  have hbad:=fw_bad (f:=f) (xs:=xs) (fun h=>by unfold okF at h;rw[hb]at h;exact absurd h.2.2.2.2.2.2 (by simp))
  refine Z231 ?_
  refine Z112 ?_
  refine Z182 ?_
  refine KO.ce (cp:=[]) rfl rfl rfl Tryz.call60 rfl (mwrite_e w _ _ xs (fun w' hw'=>rdA_extM hr (Ext.of_below hw'.below)) hT hsz (by omega)) ?_;rintro v' L' hR;unfold MwR at hR;rw[hb]at hR;obtain⟨be,rfl,rfl⟩:=hR;unfold atV
  refine Z106 ?_
  refine Z227 ?_
  refine Z55 ?_
  refine Z169 ?_
  refine KQ.ret2 rfl rfl rfl (fun w' hs=>fin 1 ⟨#[]⟩ w' _ hbad.1.symm hbad.2.symm hs)
 |none=>
  have hok:okF f xs:=by unfold okF;exact⟨by omega,by omega,by omega,by omega,by rw[a5,hz],by omega,hb⟩
  obtain⟨e1,e2⟩:=fw_ok hok
  have i1:intB f.frm:=⟨by omega,by omega⟩
  have i2:intB f.num:=⟨by omega,by omega⟩
  have s1:=itoaS_size i1
  have s2:=itoaS_size i2
  have s3:=writeS_size (badI_all hb)
  refine Z231 ?_
  refine Z112 ?_
  refine Z182 ?_
  refine KO.ce (cp:=[]) rfl rfl rfl Tryz.call60 rfl (mwrite_e w _ _ xs (fun w' hw'=>rdA_extM hr (Ext.of_below hw'.below)) hT hsz (by omega)) ?_;rintro v' L' hR;unfold MwR at hR;rw[hb]at hR;obtain⟨rfl,rfl⟩:=hR
  refine Z106 ?_
  refine Z97 ?_
  refine Z162 ?_
  refine Z231 ?_
  refine Z135 ?_
  refine Z175 ?_
  refine Z290 ?_
  refine Z2 ?_
  have hks:(kindS f.ack).size≤1:=by unfold kindS;split<;>decide
  have hjz:(joinS [kindS f.ack,itoaS f.frm,itoaS f.num,writeS xs] colon).size≤1000000:=by
   have :=joinS_size colon 1000 [kindS f.ack,itoaS f.frm,itoaS f.num,writeS xs] Y10
   have h2:colon.size=1:=rfl
   simp at this;omega
  refine K.cut (fun _:Unit=>[(1,.pointer (some ⟨b1,0,none⟩)),(4,.string (writeS xs)),(6,.string (kindS f.ack))]) (fun _=>[blk b1 (.cells (frC f (.slice sa xs.length cap)).toArray 256 (0,0))]) (fun _=>True) ?_ ?_
  ·refine K.cond rfl (fun h=>?_) (fun h=>?_)
   ·refine Z231 ?_
    refine Z144 ?_
    exact KQ.mid () trivial ⟨rfl,rfl,by rw[h];rfl,trivial⟩ (fun _ h=>h.all Y23)
   ·refine K.skip ?_
    exact KQ.mid () trivial ⟨rfl,rfl,by rw[h];rfl,trivial⟩ (fun _ h=>h.all Y23)
  rintro _ _
  refine Z53 ?_
  refine K.draw [.pure,.pure,.read,.keep,.pure,.read,.keep,.pure,.keep,.keep,.pure,.pure] [0,1,2,4,5,7,3,6,8,9,10,11] Y62 Y62 ?_
  refine Z1 ?_
  refine Z51 ?_
  refine Z17 ?_
  refine Z79 ?_
  refine Z17 ?_
  refine Z1 ?_
  refine KO.ce (cp:=[]) rfl rfl rfl Tryz.call59 rfl (itoa_e w _ f.frm hT i1) ?_;rintro v' L' ⟨rfl,rfl⟩
  refine KO.ce (cp:=[]) rfl rfl rfl Tryz.call59 rfl (itoa_e w _ f.num hT i2) ?_;rintro v' L' ⟨rfl,rfl⟩
  refine KO.bsF (z:=(Value.string ⟨#[]⟩)) (by':=16) rfl [.tmp 52,.tmp 55,.tmp 58,.tmp 59] rfl rfl Tryz.underlying115 Y62 Y68 Y68 (by decide) (by decide) Y68 rfl ?_;intro b60
  refine KO.conv (fun w' hw'=>strS_blk (b:=b60) (vs:=[.string (kindS f.ack),.string (itoaS f.frm),.string (itoaS f.num),.string (writeS xs)]) (xs:=[kindS f.ack,itoaS f.frm,itoaS f.num,writeS xs]) (k:=4) (hw'.pick Y21) rfl rfl (by omega)) ?_;refine KO.ce (cp:=[]) rfl rfl rfl Tryz.call62 rfl (join_e w _ _ (.slice (some ⟨b60,0,none⟩) 4 4) [kindS f.ack,itoaS f.frm,itoaS f.num,writeS xs] colon .head (by simp) (by omega)) ?_;rintro v' L' ⟨rfl,rfl⟩
  refine Z192 ?_
  refine KQ.ret2 rfl rfl rfl (fun w' hs=>fin 0 (frS f xs) w' _ e1.symm e2.symm hs)
end Go.Proofs.YtjhogocabcdjbabGreatDoor
/- houses: what waits for other houses is right -/
namespace WB
open Go
def WR (H:Ho):Prop:= ∀q∈H.ways,∀e∈q.l,msRight e.m=true
theorem WR.of {H H':Ho} (h:WR H) (e:H'.ways=H.ways):WR H':=fun q hq=>h q (by rw[←e];exact hq)
theorem WR.at' {H:Ho} (h:WR H) (j:Nat):∀e∈(H.wAt j).l,msRight e.m=true:=fun e he=>by
 unfold Ho.wAt at he
 rw[List.getD_eq_getElem?_getD]at he
 cases hj:H.ways[j]? with
 |none=>rw[hj]at he;cases he
 |some q=>rw[hj]at he;exact h q (List.mem_of_getElem? hj) e he
theorem WR.setW {H:Ho} (h:WR H) {j:Nat} {q:Qu} (hq:∀e∈q.l,msRight e.m=true):WR (H.setW j q):=fun q' h'=>by
 unfold Ho.setW at h'
 rcases List.mem_or_eq_of_mem_set h' with h1|rfl
 ·exact h q' h1
 ·exact hq
theorem qpush_mem {q:Qu} {m:Ms} {u:Int} {e:It} (h:e∈(qpush q m u).l):e=qitem q m u∨e∈q.l:=by
 unfold qpush at h
 rcases List.mem_append.1 h with h|h
 ·exact .inr (List.mem_of_mem_take h)
 ·rcases List.mem_cons.1 h with h|h
  ·exact .inl h
  ·exact .inr (List.mem_of_mem_drop h)
theorem qtake_mem {q:Qu} {id:Int} {e:It} (h:e∈(qtake q id).l):e∈q.l:=by
 unfold qtake at h
 split at h
 ·exact h
 ·exact(List.eraseIdx_sublist _ _).subset h
theorem qtakes_mem {e:It}:∀(l:List Int) (q:Qu),e∈(qtakes q l).l→e∈q.l
 |[],_,h=>h
 |i::l,q,h=>qtake_mem (qtakes_mem l (qtake q i) h)
theorem hput1_WR {H H1:Ho} {m:Ms} (h:WR H) (hm:msRight m=true) (h1:hput1 H m=some H1):WR H1:=by
 unfold hput1 at h1
 dsimp only at h1
 split at h1
 ·simp only[Option.some.injEq]at h1
  subst h1
  refine WR.setW (H:={H with next:=max H.next (m.id/4+1)}) h fun e he=>?_
  rcases qpush_mem he with rfl|he
  ·exact hm
  ·exact h.at' _ e he
 ·split at h1
  ·cases h1
  ·simp only[Option.some.injEq]at h1
   subst h1
   exact h
theorem hputs_WR:∀(l:List Ms) (H:Ho),WR H→(∀m∈l,msRight m=true)→WR (hputs H l).1
 |[],_,h,_=>h
 |m::r,H,h,hl=>by
  unfold hputs
  cases h1:hput1 H m with
  |none=>exact h
  |some H1=>exact hputs_WR r H1 (hput1_WR h (hl m (by simp)) h1) fun x hx=>hl x Y67
theorem hgets_WR:∀(l:List ByteArray) (H:Ho),WR H→WR (hgets H l).1
 |[],_,h=>h
 |s::r,H,h=>by
  unfold hgets
  cases h1:hget1 H s with
  |none=>exact h
  |some H1=>
   refine hgets_WR r H1 ?_
   unfold hget1 at h1
   split at h1
   ·cases h1
   ·split at h1
    ·cases h1
    ·split at h1
     ·simp only[Option.some.injEq]at h1;subst h1;exact h
     ·cases h1
theorem hcomes_WR:∀(l:List (Ms×ByteArray)) (H:Ho),WR H→WR (hcomes H l).1
 |[],_,h=>h
 |(m,t)::r,H,h=>by
  unfold hcomes
  cases H.qI t with
  |none=>exact h
  |some i=>exact hcomes_WR r _ h
theorem hends_WR {H:Ho} (h:WR H) (s:ByteArray):WR (hends H s).1:=by
 unfold hends
 split
 ·exact h
 ·split
  ·exact h
  ·rename_i l hl
   have h1:=hputs_WR l H h (badI_all (mrd_some hl).1)
   split
   ·exact h1
   ·split
    ·exact h1
    ·exact hgets_WR _ _ h1
theorem hmade_WR {H:Ho} (h:WR H) (s:ByteArray):WR (hmade H s).1:=by
 unfold hmade
 split
 ·split<;>exact h
 ·exact h
theorem hknown_WR {H:Ho} (h:WR H) (s:ByteArray):WR (hknown H s).1:=by
 unfold hknown
 split
 ·split
  ·exact(h.setW fun e he=>h.at' _ e (qtakes_mem _ _ he)).of rfl
  ·exact h
 ·exact h
theorem hcame_WR {H:Ho} (h:WR H) (s:ByteArray):WR (hcame H s).1:=by
 unfold hcame
 split
 ·split
  ·split
   ·split
    ·exact(hcomes_WR _ _ h).of rfl
    ·exact hcomes_WR _ _ h
   ·exact h
  ·exact h
 ·exact h
theorem hplays_WR {H:Ho} (h:WR H) (s:ByteArray):WR (hplays H s).1:=by
 unfold hplays
 split
 ·split
  ·exact h
  ·refine h.of ?_
   unfold hset
   split<;>rfl
 ·split
  ·exact h
  ·split
   ·exact hends_WR h _
   ·split
    ·exact hmade_WR h _
    ·split
     ·exact hknown_WR h _
     ·split
      ·exact hcame_WR h _
      ·exact h
theorem openN_WR (D:Dk):∀(f:Nat) (H:Ho),WR H→WR (openN D f H)
 |0,_,h=>h
 |f+1,H,h=>by
  unfold openN
  split
  ·exact h
  ·split
   ·exact hplays_WR h _
   ·exact openN_WR D f _ ((hplays_WR h _).of rfl)
theorem hNew_WR (id:Int):WR (hNew id):=fun q hq=>by
 have :q=⟨[],0⟩:=List.eq_of_mem_replicate (n:=4) (by exact hq)
 subst this
 intro e he;cases he
theorem openH_WR (id:Int) (D:Dk):WR (openH id D):=openN_WR D 300 _ (hNew_WR id)
theorem qkept_right {H:Ho} (h:WR H) (j:Nat):∀m∈qkept (H.wAt j),msRight m=true:=fun m hm=>by
 unfold qkept at hm
 obtain⟨e,he,rfl⟩:=List.mem_map.1 hm
 exact h.at' j e (List.mem_filter.1 he).1
theorem logH_ways (H:Ho) (D:Dk):(logH H D).ways=H.ways:=by
 unfold logH
 split
 ·rfl
 ·split<;>rfl
theorem wrH_WR {H:Ho} (h:WR H) (D:Dk) (s:ByteArray):WR (wrH H D s):=by
 unfold wrH
 have h1:=h.of (logH_ways H D)
 split
 ·exact hplays_WR h1 s
 ·exact h1
theorem setQ_ql (H:Ho) (i:Nat) (q:Qu):(H.setQ i q).queues.length=H.queues.length:=by unfold Ho.setQ;simp
theorem hput1_ql {H H1:Ho} {m:Ms} (h1:hput1 H m=some H1):H1.queues.length=H.queues.length:=by
 unfold hput1 at h1
 dsimp only at h1
 split at h1
 ·simp only[Option.some.injEq]at h1
  subst h1;rfl
 ·split at h1
  ·cases h1
  ·simp only[Option.some.injEq]at h1
   subst h1
   exact setQ_ql _ _ _
theorem hputs_ql:∀(l:List Ms) (H:Ho),(hputs H l).1.queues.length=H.queues.length
 |[],_=>rfl
 |m::r,H=>by
  unfold hputs
  cases h1:hput1 H m with
  |none=>rfl
  |some H1=>exact(hputs_ql r H1).trans (hput1_ql h1)
theorem hgets_ql:∀(l:List ByteArray) (H:Ho),(hgets H l).1.queues.length=H.queues.length
 |[],_=>rfl
 |s::r,H=>by
  unfold hgets
  cases h1:hget1 H s with
  |none=>rfl
  |some H1=>
   refine(hgets_ql r H1).trans ?_
   unfold hget1 at h1
   split at h1
   ·cases h1
   ·split at h1
    ·cases h1
    ·split at h1
     ·simp only[Option.some.injEq]at h1;subst h1;exact setQ_ql _ _ _
     ·cases h1
theorem hcomes_ql:∀(l:List (Ms×ByteArray)) (H:Ho),(hcomes H l).1.queues.length=H.queues.length
 |[],_=>rfl
 |(m,t)::r,H=>by
  unfold hcomes
  cases H.qI t with
  |none=>rfl
  |some i=>exact(hcomes_ql r _).trans (setQ_ql _ _ _)
theorem hends_ql (H:Ho) (s:ByteArray):(hends H s).1.queues.length=H.queues.length:=by
 unfold hends
 split
 ·rfl
 ·split
  ·rfl
  ·rename_i l hl
   split
   ·exact hputs_ql l H
   ·split
    ·exact hputs_ql l H
    ·exact(hgets_ql _ _).trans (hputs_ql l H)
theorem hmade_ql (H:Ho) (s:ByteArray):(hmade H s).1.queues.length=H.queues.length:=by
 unfold hmade
 split
 ·split<;>rfl
 ·rfl
theorem hknown_ql (H:Ho) (s:ByteArray):(hknown H s).1.queues.length=H.queues.length:=by
 unfold hknown
 split
 ·split<;>rfl
 ·rfl
theorem hcame_ql (H:Ho) (s:ByteArray):(hcame H s).1.queues.length=H.queues.length:=by
 unfold hcame
 split
 ·split
  ·split
   ·split
    ·exact hcomes_ql _ _
    ·exact hcomes_ql _ _
   ·rfl
  ·rfl
 ·rfl
theorem hplays_ql (H:Ho) (s:ByteArray):(hplays H s).1.queues.length≤H.queues.length+1:=by
 unfold hplays
 split
 ·split
  ·exact Nat.le_succ _
  ·dsimp only
   unfold hset
   split
   ·dsimp only
    split
    ·simp
    ·exact Nat.le_succ _
   ·exact Nat.le_succ _
 ·split
  ·exact Nat.le_succ _
  ·split
   ·exact Nat.le_succ_of_le (Nat.le_of_eq (hends_ql _ _))
   ·split
    ·exact Nat.le_succ_of_le (Nat.le_of_eq (hmade_ql _ _))
    ·split
     ·exact Nat.le_succ_of_le (Nat.le_of_eq (hknown_ql _ _))
     ·split
      ·exact Nat.le_succ_of_le (Nat.le_of_eq (hcame_ql _ _))
      ·exact Nat.le_succ _
theorem openN_ql (D:Dk):∀(f:Nat) (H:Ho),H.queues.length≤1+H.used→(openN D f H).queues.length≤2+(openN D f H).used
 |0,H,h=>by show H.queues.length≤2+H.used;omega
 |f+1,H,h=>by
  unfold openN
  split
  ·omega
  ·rename_i s hs
   have h1:=hplays_ql H s
   have h2:=(hplays_same H s).used
   split
   ·rw[h2];omega
   ·refine openN_ql D f _ ?_
    dsimp only
    omega
theorem openH_ql (id:Int) (D:Dk):(openH id D).queues.length≤2+(openH id D).used:=openN_ql D 300 _ (Nat.le_refl 1)
theorem logH_ql (H:Ho) (D:Dk):(logH H D).queues=H.queues∧H.used≤(logH H D).used:=by
 unfold logH
 split
 ·exact⟨rfl,Nat.le_refl _⟩
 ·split
  ·exact⟨rfl,Nat.le_refl _⟩
  ·exact⟨rfl,Nat.le_succ _⟩
theorem wrH_ql {H:Ho} (h:H.queues.length≤2+H.used) (D:Dk) (s:ByteArray):(wrH H D s).queues.length≤2+(wrH H D s).used:=by
 obtain⟨a,b⟩:=logH_ql H D
 unfold wrH
 split
 ·rename_i h0
  have h1:=hplays_ql (logH H D) s
  have h2:=(hplays_same (logH H D) s).used
  have h3:(logH H D).used=H.used+1:=by
   have h4:roomE H=0∧dkErr D=0:=by
    unfold logE at h0
    by_cases h5:roomE H=0
    ·rw[if_neg (by simpa using h5)]at h0;exact⟨h5,h0⟩
    ·rw[if_pos h5]at h0;exact absurd h0 h5
   unfold logH
   rw[if_neg (by simpa using h4.1),if_neg (by simpa using h4.2)]
  rw[a]at h1
  omega
 ·rw[a];omega
end WB
/- a frame's text read: plain -/
namespace WB
open Go
def frd (s:ByteArray):Option (Fr×List Ms):=
 match pcs 58 s with
 |[a,b,c,d]=>match numO b,numO c,mrd d with
  |some x,some y,some xs=>if okF ⟨x,y,decide (a=⟨#[97]⟩)⟩ xs∧frS ⟨x,y,decide (a=⟨#[97]⟩)⟩ xs=s then some (⟨x,y,decide (a=⟨#[97]⟩)⟩,xs)else none
  |_,_,_=>none
 |_=>none
theorem itoa_colon {n:Int}:∀b∈(itoaS n).data.toList,b≠58:=fun b hb=>by
 have :=itoa_mem b hb
 rintro rfl;revert this;decide
theorem let_colon {s:ByteArray} (h:allLet s=true):∀b∈s.data.toList,b≠58:=fun b hb=>by
 unfold allLet at h
 have :=List.all_eq_true.1 h b hb
 rintro rfl;revert this;decide
theorem msg_colon {m:Ms} (h:msRight m=true):∀b∈(msgS m).data.toList,b≠58:=fun b hb=>by
 obtain⟨h1,h2,h3,h4,h5,h6,h7,h8⟩:=msRight_parts h
 rw[msgS_join]at hb
 rcases mem_joinS hb with hb|⟨x,hx,hb⟩
 ·have :b=32:=by simpa[sp]using hb
  subst this;decide
 ·simp only[List.mem_cons,List.not_mem_nil,or_false]at hx
  rcases hx with rfl|rfl|rfl|rfl|rfl
  ·exact itoa_colon b hb
  ·exact itoa_colon b hb
  ·exact let_colon (body_let h5) b hb
  ·exact let_colon (word_let h6) b hb
  ·exact itoa_colon b hb
theorem write_colon {xs:List Ms} (h:badI xs=none):∀b∈(writeS xs).data.toList,b≠58:=fun b hb=>by
 unfold writeS at hb
 rcases mem_joinS hb with hb|⟨x,hx,hb⟩
 ·have :b=43:=by simpa[plus]using hb
  subst this;decide
 ·obtain⟨m,hm,rfl⟩:=List.mem_map.1 hx
  exact msg_colon (badI_all h m hm) b hb
theorem frS_pcs {f:Fr} {xs:List Ms} (h:okF f xs):pcs 58 (frS f xs)=[kindS f.ack,itoaS f.frm,itoaS f.num,writeS xs]:=by
 unfold okF at h
 unfold frS
 refine pcs_join (c:=58) (by simp) fun x hx b hb=>?_
 simp only[List.mem_cons,List.not_mem_nil,or_false]at hx
 rcases hx with rfl|rfl|rfl|rfl
 ·unfold kindS at hb
  split at hb
  ·have :b=97:=by simpa using hb
   subst this;decide
  ·have :b=98:=by simpa using hb
   subst this;decide
 ·exact itoa_colon b hb
 ·exact itoa_colon b hb
 ·exact write_colon h.2.2.2.2.2.2 b hb
theorem kind_ack (a:Bool):decide (kindS a=⟨#[97]⟩)=a:=by cases a<;>decide
theorem frd_write {f:Fr} {xs:List Ms} (h:okF f xs):frd (frS f xs)=some (f,xs):=by
 have hp:=frS_pcs h
 have h2:=h
 unfold okF at h2
 obtain⟨h3,h4,h5,h6,h7,h8,h9⟩:=h2
 unfold frd
 rw[hp]
 have e1:=numO_itoa (n:=f.frm) ⟨by omega,by omega⟩
 have e2:=numO_itoa (n:=f.num) ⟨by omega,by omega⟩
 have e3:=mrd_write h9
 simp only[e1,e2,e3,kind_ack]
 rw[if_pos ⟨h,trivial⟩]
theorem frS_size {f:Fr} {xs:List Ms} (h:okF f xs):(frS f xs).size≤2000:=by
 have h2:=h
 unfold okF at h2
 obtain⟨h3,h4,h5,h6,h7,h8,h9⟩:=h2
 have a1:=itoaS_size (n:=f.frm) ⟨by omega,by omega⟩
 have a2:=itoaS_size (n:=f.num) ⟨by omega,by omega⟩
 have a3:=writeS_size (badI_all h9)
 have a4:(kindS f.ack).size≤1:=by unfold kindS;split<;>decide
 have :=joinS_size colon 400 [kindS f.ack,itoaS f.frm,itoaS f.num,writeS xs] Y10
 have h2:colon.size=1:=rfl
 unfold frS
 simp at this;omega
end WB
/- worlds: their model -/
namespace WB
open Go
structure Gm where
 «to»:Int
 f:Fr
 l:List Ms
def gmT (g:Gm):ByteArray:=frS g.f g.l
instance:Inhabited Gm:=⟨⟨0,⟨0,0,false⟩,[]⟩⟩
instance:Inhabited (Ho×Dk):=⟨(hNew 0,dkNew)⟩
structure Wo where
 hs:List (Ho×Dk)
 way:List Gm
 lost:Int
namespace Wo
def n (W:Wo):Nat:=W.hs.length
def is (W:Wo) (k:Int):Bool:=decide (0≤k∧k<(W.hs.length:Int))
def at' (W:Wo) (k:Nat):Ho×Dk:=W.hs.getD k default
def H (W:Wo) (k:Nat):Ho:=(W.at' k).1
def D (W:Wo) (k:Nat):Dk:=(W.at' k).2
def setH (W:Wo) (k:Nat) (x:Ho×Dk):Wo:={W with hs:=W.hs.set k x}
end Wo
def wNew (n:Nat):Wo:=⟨(List.range n).map fun k:Nat=>(hNew (k:Int),dkNew),[],0⟩
def wCutE (W:Wo) (k:Int):Int:=if W.is k=true then 0 else 2
def wCut (W:Wo) (k n t:Int):Wo:=if W.is k=true then W.setH k.toNat ({W.H k.toNat with torn:=t},dkCut (W.D k.toNat) n)else W
def reH (W:Wo) (k:Nat):Wo:=W.setH k (openH (k:Int) (dkCut (W.D k) (-1)),dkCut (W.D k) (-1))
def wRe (W:Wo) (k:Int):Wo:=if W.is k=true then reH W k.toNat else W
def wPut (W:Wo) (g:Gm):Wo:=if 100≤W.way.length then {W with lost:=W.lost+1}else {W with way:=W.way++[g]}
def wSend (W:Wo) (dst:Int) (f:Fr) (l:List Ms):Wo:=if okF f l then wPut W ⟨dst,f,l⟩else W
def seE (W:Wo) (k dst:Int):Int:=if W.is k=true∧W.is dst=true then btE (W.H k.toNat) (W.D k.toNat) dst else 2
def seW1 (W:Wo) (k dst:Int):Wo:=W.setH k.toNat (btH (W.H k.toNat) (W.D k.toNat) dst,btD (W.H k.toNat) (W.D k.toNat) dst)
def seW (W:Wo) (k dst:Int):Wo:=if W.is k=true∧W.is dst=true then
 (if seE W k dst=0 then wSend (seW1 W k dst) dst ⟨k,btN (W.H k.toNat) (W.D k.toNat) dst,false⟩ (btL (W.H k.toNat) (W.D k.toNat) dst)else seW1 W k dst)
 else W
def waE (W:Wo) (i:Int):Int:=if 0≤i∧i<(W.way.length:Int)then 0 else 2
def gmAt (W:Wo) (i:Nat):Gm:=W.way.getD i default
def outW (W:Wo) (i:Nat):Wo:={W with way:=W.way.eraseIdx i}
def cmW (W:Wo) (g:Gm):Wo:=
 if g.f.ack=true then W.setH g.to.toNat (caH (W.H g.to.toNat) (W.D g.to.toNat) g.f.frm g.f.num,caD (W.H g.to.toNat) (W.D g.to.toNat) g.f.frm g.f.num)
 else if arE (W.H g.to.toNat) (W.D g.to.toNat) g.f.frm g.f.num g.l=0 then
  wSend (W.setH g.to.toNat (arH (W.H g.to.toNat) (W.D g.to.toNat) g.f.frm g.f.num g.l,arD (W.H g.to.toNat) (W.D g.to.toNat) g.f.frm g.f.num g.l)) g.f.frm ⟨g.to,arNo (W.H g.to.toNat) (W.D g.to.toNat) g.f.frm g.f.num g.l,true⟩ []
 else W.setH g.to.toNat (arH (W.H g.to.toNat) (W.D g.to.toNat) g.f.frm g.f.num g.l,arD (W.H g.to.toNat) (W.D g.to.toNat) g.f.frm g.f.num g.l)
def deW (W:Wo) (i:Int):Wo:=if waE W i=0 then cmW (outW W i.toNat) (gmAt W i.toNat)else W
def loW (W:Wo) (i:Int):Wo:=if waE W i=0 then outW W i.toNat else W
def twW (W:Wo) (i:Int):Wo:=if waE W i=0 then wPut W (gmAt W i.toNat)else W
structure HdB (c K:Nat) (k:Nat) (x:Ho×Dk):Prop where
 id:x.1.id=(k:Int)
 B:HoB (300+c+250*x.1.used) x.1
 len:x.2.places.length=300
 left: -(K:Int)≤x.2.left∧x.2.left≤1000000000
 size:∀t∈x.2.places,t.size≤800000
 recs:∀(i:Nat) t s,x.2.places[i]? =some t→openS (i:Nat) t=some s→RecOk 250 s
 units:∀u∈x.1.units,UntOk u∧u.puts.length≤c
 ways:WR x.1
 ql:x.1.queues.length≤2+x.1.used
structure GmB (n:Nat) (g:Gm):Prop where
 «to»:0≤g.to∧g.to<(n:Int)
 frm:0≤g.f.frm∧g.f.frm<(n:Int)
 ok:okF g.f g.l
structure WoB (c K:Nat) (W:Wo):Prop where
 n1:1≤W.hs.length∧W.hs.length≤4
 hs:∀k x,W.hs[k]? =some x→HdB c K k x
 way:∀g∈W.way,GmB W.hs.length g
 wl:W.way.length≤100
 lost:0≤W.lost∧W.lost≤(K:Int)
end WB
/- worlds: what bounds them outlives what they do -/
namespace WB
open Go
theorem HdB.ok {c kb k:Nat} {x:Ho×Dk} (h:HdB c kb k x) (hK:kb≤1000000000000):DkOk x.2:=⟨h.len,by have :=h.left;omega,h.size,h.recs⟩
theorem HdB.cut {c kb k:Nat} {x:Ho×Dk} (h:HdB c kb k x) {n:Int} (hn:n≤1000000000):HdB c kb k (x.1,dkCut x.2 n):=⟨h.id,h.B,h.len,by unfold dkCut;dsimp only;omega,h.size,h.recs,h.units,h.ways,h.ql⟩
theorem HdB.torn {c kb k:Nat} {x:Ho×Dk} (h:HdB c kb k x) (n:Int):HdB c kb k ({x.1 with torn:=n},x.2):=⟨h.id,h.B.torn' n,h.len,h.left,h.size,h.recs,h.units,h.ways.of rfl,h.ql⟩
theorem HdB.mono {c c' kb kb' k:Nat} {x:Ho×Dk} (h:HdB c kb k x) (h1:c≤c') (h2:kb≤kb'):HdB c' kb' k x:=⟨h.id,h.B.le (by omega),h.len,by have :=h.left;omega,h.size,h.recs,fun u hu=>⟨(h.units u hu).1,Nat.le_trans (h.units u hu).2 h1⟩,h.ways,h.ql⟩
theorem logH_same (H:Ho) (D:Dk):(logH H D).id=H.id∧(logH H D).units=H.units∧(logH H D).names=H.names∧(logH H D).queues=H.queues∧(logH H D).ways=H.ways∧(logH H D).batch=H.batch∧(logH H D).sent=H.sent∧(logH H D).arrived=H.arrived∧(logH H D).next=H.next∧(logH H D).torn=H.torn:=by
 unfold logH
 split
 ·exact⟨rfl,rfl,rfl,rfl,rfl,rfl,rfl,rfl,rfl,rfl⟩
 ·split<;>exact⟨rfl,rfl,rfl,rfl,rfl,rfl,rfl,rfl,rfl,rfl⟩
theorem wrH_same (H:Ho) (D:Dk) (s:ByteArray):(wrH H D s).id=H.id∧(wrH H D s).units=H.units:=by
 unfold wrH
 obtain⟨a,b,-⟩:=logH_same H D
 split
 ·have h:=hplays_same (logH H D) s
  exact⟨h.id.trans a,h.units.trans b⟩
 ·exact⟨a,b⟩
theorem logE_z {H:Ho} {D:Dk} (h:logE H D=0):roomE H=0∧dkErr D=0:=by
 unfold logE at h
 by_cases h1:roomE H=0
 ·rw[if_neg Y53]at h;exact⟨h1,h⟩
 ·rw[if_pos h1]at h;exact absurd h h1
theorem logD_ok {D:Dk} {H:Ho} {s:ByteArray} (hl:D.places.length=300) (hsz:∀t∈D.places,t.size≤800000) (hr:∀(i:Nat) t s,D.places[i]? =some t→openS (i:Nat) t=some s→RecOk 250 s) (hs:RecOk 250 s) (hb:noB 124 s) (hu:H.used≤300):
 (logD H D s).places.length=300∧(∀t∈(logD H D s).places,t.size≤800000)∧(∀(i:Nat) t r,(logD H D s).places[i]? =some t→openS (i:Nat) t=some r→RecOk 250 r)∧D.left-1≤(logD H D s).left∧(logD H D s).left≤D.left:=by
 have hss:=hs.size
 have hsl:=sealS_le (k:=(H.used:Nat)) ⟨by omega,by omega⟩ (show s.size≤700000 by omega)
 have h0:=sealS_size (H.used:Nat) s
 unfold logD
 split
 ·exact⟨hl,hsz,hr,by omega,Int.le_refl _⟩
 ·refine⟨?_,?_,?_,by rw[dkWrite_left];split<;>omega,by rw[dkWrite_left];split<;>omega⟩
  ·unfold dkWrite
   split
   ·split
    ·simpa using hl
    ·exact hl
   ·simpa using hl
  ·intro t ht
   unfold dkWrite at ht
   split at ht
   ·split at ht
    ·rcases List.mem_or_eq_of_mem_set ht with h1|rfl
     ·exact hsz t h1
     ·have :=dkTorn_size (sealS (H.used:Nat) s) H.torn;omega
    ·exact hsz t ht
   ·rcases List.mem_or_eq_of_mem_set ht with h1|rfl
    ·exact hsz t h1
    ·omega
  ·intro i t s' ht ho
   have key:∀v,(D.places.set H.used v)[i]? =some t→(v=t∧i=H.used)∨D.places[i]? =some t:=fun v hv=>by
    rw[List.getElem?_set]at hv
    split at hv
    ·rename_i e
     split at hv
     ·simp only[Option.some.injEq]at hv;exact .inl ⟨hv,e.symm⟩
     ·cases hv
    ·exact .inr hv
   unfold dkWrite at ht
   split at ht
   ·split at ht
    ·rcases key _ ht with⟨rfl,rfl⟩|h1
     ·unfold dkTorn at ho
      rw[openS_torn hb (by omega)]at ho;cases ho
     ·exact hr i t s' h1 ho
    ·exact hr i t s' ht ho
   ·rcases key _ ht with⟨rfl,rfl⟩|h1
    ·rw[openS_seal hb]at ho
     simp only[Option.some.injEq]at ho
     rw[←ho];exact hs
    ·exact hr i t s' h1 ho
theorem HdB.write {c kb k:Nat} {x:Ho×Dk} (h:HdB c kb k x) {s:ByteArray} (hs:RecOk 250 s) (hb:noB 124 s):HdB c (kb+1) k (wrH x.1 x.2 s,logD x.1 x.2 s):=by
 obtain⟨a1,a2⟩:=wrH_same x.1 x.2 s
 obtain⟨d1,d2,d3,d4,d5⟩:=logD_ok (H:=x.1) h.len h.size h.recs hs hb h.B.used
 refine⟨a1.trans h.id,?_,d1,by have :=h.left;dsimp only;omega,d2,d3,fun u hu=>h.units u (by rw[←a2];exact hu),wrH_WR h.ways _ _,wrH_ql h.ql _ _⟩
 dsimp only
 unfold wrH
 split
 ·rename_i h0
  obtain⟨h1,h2⟩:=logE_z h0
  have eL:logH x.1 x.2={x.1 with used:=x.1.used+1}:=by unfold logH;rw[if_neg Y53,if_neg Y52]
  have h3:=(h.B.log (D:=x.2)).plays hs (by omega)
  have h4:=(hplays_same (logH x.1 x.2) s).used
  refine h3.le ?_
  rw[h4,eL]
  dsimp only
  omega
 ·rename_i h0
  have h3:(logH x.1 x.2).used=x.1.used:=by
   unfold logH
   split
   ·rfl
   ·rename_i h1
    split
    ·rfl
    ·rename_i h2
     exact absurd (by unfold logE;rw[if_neg h1];simpa using h2) h0
  rw[h3]
  exact h.B.log
theorem HdB.open' {c kb k:Nat} {x:Ho×Dk} (h:HdB c kb k x) (hk:k<4) (hK:kb≤1000000000000):HdB c kb k (openH (k:Int) x.2,x.2):=by
 have hD:=h.ok hK
 have h2:=openN_same x.2 300 (hNew (k:Int))
 refine⟨h2.1,(openH_B2 (id:=(k:Int)) ⟨by omega,by omega⟩ hD).le Y47,h.len,h.left,h.size,h.recs,fun u hu=>?_,openH_WR _ _,openH_ql _ _⟩
 have h3:u∈(hNew (k:Int)).units:=by rw[←h2.2.2.2];exact hu
 have :u=⟨[],[]⟩:=List.eq_of_mem_replicate h3
 subst this
 exact⟨⟨(fun p hp=>by cases hp),(fun p hp=>by cases hp),by decide⟩,Nat.zero_le _⟩
theorem bar_A (k:Int):noB 124 (recA k):=noB_app (noB_app (noB_chr (by decide)) (noB_chr (by decide))) (itoa_noB _ (by decide))
theorem bar_Bt (k:Int) (l:List Int):noB 124 (recBt k l):=noB_app (noB_app (noB_chr (by decide)) (noB_chr (by decide))) (joinS_noB (fun b hb=>by simp[sp]at hb;subst hb;decide) fun x hx=>by
 obtain⟨n,-,rfl⟩:=List.mem_map.1 hx
 exact itoa_noB _ (by decide))
theorem bar_R (k:Int) {l:List Ms} {t:List ByteArray} (h:∀m∈l,msRight m=true) (ht:∀x∈t,wordB x=true):noB 124 (recR k l t):=
 noB_app (noB_app (noB_chr (by decide)) (noB_chr (by decide))) (noB_app (noB_app (itoa_noB _ (by decide)) (noB_chr (by decide))) (noB_app (noB_app (noB_write (by decide) (by decide) (by decide) h) (noB_chr (by decide))) (joinS_noB (fun b hb=>by simp[plus]at hb;subst hb;decide) fun x hx=>word_noB (by decide) (ht x hx))))
theorem HdB.bt {c kb k:Nat} {x:Ho×Dk} (h:HdB c kb k x) (dst:Int):HdB c (kb+1) k (btH x.1 x.2 dst,btD x.1 x.2 dst):=by
 unfold btH btD
 split
 ·rename_i hnw
  have hk2:rightK x.1 dst=true:=by
   unfold btNew btPE at hnw
   cases hk:rightK x.1 dst with
   |true=>rfl
   |false=>rw[hk]at hnw;simp at hnw
  obtain⟨hk0,hk4,-⟩:=rightK_iff.1 hk2
  refine h.write ((recBt_ok ⟨hk0,hk4⟩ (by unfold btIds;simp;omega) fun y hy=>?_).mono (by omega)) (bar_Bt _ _)
  obtain⟨m,hm,rfl⟩:=List.mem_map.1 hy
  have hm:=List.mem_of_mem_take hm
  unfold qthere at hm
  obtain⟨e,he,rfl⟩:=List.mem_map.1 hm
  have :=(h.B.w (j:=dst.toNat) (by omega)).ids e (List.mem_filter.1 he).1
  exact⟨by omega,by omega⟩
 ·exact h.mono (Nat.le_refl _) (by omega)
theorem HdB.ca {c kb k:Nat} {x:Ho×Dk} (h:HdB c kb k x) (dst m:Int):HdB c (kb+1) k (caH x.1 x.2 dst m,caD x.1 x.2 dst m):=by
 unfold caH caD
 by_cases h0:caPE x.1 dst m≠0
 ·rw[if_pos h0,if_pos h0];exact h.mono (Nat.le_refl _) (by omega)
 ·rw[if_neg h0,if_neg h0]
  have hk2:rightK x.1 dst=true:=by
   unfold caPE at h0
   cases hk:rightK x.1 dst with
   |true=>rfl
   |false=>rw[hk]at h0;simp at h0
  obtain⟨hk0,hk4,-⟩:=rightK_iff.1 hk2
  exact h.write ((recA_ok ⟨hk0,hk4⟩).mono (by omega)) (bar_A _)
theorem HdB.ar {c kb k:Nat} {x:Ho×Dk} (h:HdB c kb k x) (from' m:Int) {l:List Ms} (hl:l.length≤250):HdB c (kb+1) k (arH x.1 x.2 from' m l,arD x.1 x.2 from' m l):=by
 unfold arH arD
 split
 ·rename_i hw
  unfold arW at hw
  simp only[decide_eq_true_eq]at hw
  have h0:=hw.1
  have hk2:rightK x.1 from'=true:=by
   unfold arPE at h0
   cases hk:rightK x.1 from' with
   |true=>rfl
   |false=>rw[hk]at h0;simp at h0
  obtain⟨hk0,hk4,-⟩:=rightK_iff.1 hk2
  have hbad:badI l=none:=by
   unfold arPE at h0
   rw[if_neg (by rw[hk2];simp)]at h0
   split at h0
   ·cases h0
   ·rw[if_neg (by omega)]at h0
    split at h0
    ·cases h0
    ·split at h0
     ·cases h0
     ·rename_i h5
      cases hb:badI l with
      |none=>rfl
      |some i=>exact absurd (.inl (by rw[hb];simp)) h5
  have hright:=badI_all hbad
  exact h.write (recR_ok ⟨hk0,hk4⟩ hbad hl (arDst_word hright []) (arDst_len x.1 l [])).1 (bar_R _ hright (arDst_word hright []))
 ·exact h.mono (Nat.le_refl _) (by omega)
theorem WoB.mono {c c' kb kb':Nat} {W:Wo} (h:WoB c kb W) (h1:c≤c') (h2:kb≤kb'):WoB c' kb' W:=⟨h.n1,fun k x hx=>(h.hs k x hx).mono h1 h2,h.way,h.wl,by have :=h.lost;omega⟩
theorem WoB.set {c kb:Nat} {W:Wo} (h:WoB c kb W) {k:Nat} {x:Ho×Dk} (hx:HdB c kb k x):WoB c kb (W.setH k x):=by
 refine⟨by simpa[Wo.setH]using h.n1,fun j y hy=>?_,fun g hg=>by have :=h.way g hg;unfold Wo.setH;dsimp only;rw[List.length_set];exact this,h.wl,h.lost⟩
 unfold Wo.setH at hy
 dsimp only at hy
 rw[List.getElem?_set]at hy
 split at hy
 ·rename_i e;subst e
  split at hy
  ·simp only[Option.some.injEq]at hy;subst hy;exact hx
  ·cases hy
 ·exact h.hs j y hy
theorem WoB.put {c kb:Nat} {W:Wo} (h:WoB c kb W) {g:Gm} (hg:GmB W.hs.length g):WoB c (kb+1) (wPut W g):=by
 have h2:=h.mono (Nat.le_refl c) (Nat.le_succ kb)
 unfold wPut
 split
 ·exact⟨h2.n1,h2.hs,h2.way,h2.wl,by have :=h.lost;dsimp only;omega⟩
 ·refine⟨h2.n1,h2.hs,fun x hx=>?_,by simp;omega,h2.lost⟩
  rcases List.mem_append.1 hx with hx|hx
  ·exact h.way x hx
  ·simp at hx;subst hx;exact hg
theorem WoB.send {c kb:Nat} {W:Wo} (h:WoB c kb W) {dst:Int} {f:Fr} {l:List Ms} (h1:0≤dst∧dst<(W.hs.length:Int)) (h2:0≤f.frm∧f.frm<(W.hs.length:Int)):WoB c (kb+1) (wSend W dst f l):=by
 unfold wSend
 split
 ·rename_i hok
  exact h.put ⟨h1,h2,hok⟩
 ·exact h.mono (Nat.le_refl _) (by omega)
theorem wo_get {W:Wo} {j:Nat} (h:j<W.hs.length):∃x,W.hs[j]? =some x∧W.H j=x.1∧W.D j=x.2:=by
 refine⟨W.hs[j],List.getElem?_eq_getElem h,?_⟩
 unfold Wo.H Wo.D Wo.at'
 rw[List.getD_eq_getElem?_getD,List.getElem?_eq_getElem h]
 exact⟨rfl,rfl⟩
theorem wo_is' {W:Wo} {k:Int} (h:W.is k=true):0≤k∧k<(W.hs.length:Int):=by
 unfold Wo.is at h
 simpa using h
theorem WoB.cutW {c kb:Nat} {W:Wo} (h:WoB c kb W) (k t:Int) {n:Int} (hn:n≤1000000000):WoB c kb (wCut W k n t):=by
 unfold wCut
 split
 ·rename_i hk
  have hk:=wo_is' hk
  obtain⟨x,hx,e1,e2⟩:=wo_get (W:=W) (j:=k.toNat) (by omega)
  rw[e1,e2]
  exact h.set (((h.hs _ x hx).cut hn).torn t)
 ·exact h
theorem WoB.re {c kb:Nat} {W:Wo} (h:WoB c kb W) (hK:kb≤1000000000000) (k:Int):WoB c kb (wRe W k):=by
 unfold wRe
 split
 ·rename_i hk
  have hk:=wo_is' hk
  have hn:=h.n1
  obtain⟨x,hx,e1,e2⟩:=wo_get (W:=W) (j:=k.toNat) (by omega)
  unfold reH
  rw[e2]
  exact h.set (((h.hs _ x hx).cut (n:= -1) (by omega)).open' (by omega) hK)
 ·exact h
theorem WoB.se {c kb:Nat} {W:Wo} (h:WoB c kb W) (k dst:Int):WoB c (kb+2) (seW W k dst):=by
 unfold seW
 split
 ·rename_i hk
  have h1:=wo_is' hk.1
  have h2:=wo_is' hk.2
  obtain⟨x,hx,e1,e2⟩:=wo_get (W:=W) (j:=k.toNat) (by omega)
  have hs1:WoB c (kb+1) (seW1 W k dst):=by
   unfold seW1
   rw[e1,e2]
   exact(h.mono (Nat.le_refl _) (Nat.le_succ kb)).set ((h.hs _ x hx).bt dst)
  have hl:(seW1 W k dst).hs.length=W.hs.length:=by unfold seW1 Wo.setH;simp
  split
  ·exact hs1.send (by rw[hl];exact h2) (by rw[hl];exact h1)
  ·exact hs1.mono (Nat.le_refl _) (by omega)
 ·exact h.mono (Nat.le_refl _) (by omega)
theorem waE_z {W:Wo} {i:Int} (h:waE W i=0):0≤i∧i<(W.way.length:Int):=by
 unfold waE at h
 split at h
 ·assumption
 ·cases h
theorem gmAt_of {W:Wo} {i:Nat} (h:i<W.way.length):W.way[i]? =some (gmAt W i):=by
 unfold gmAt
 rw[List.getD_eq_getElem?_getD,List.getElem?_eq_getElem h];rfl
theorem WoB.out {c kb:Nat} {W:Wo} (h:WoB c kb W) (i:Nat):WoB c kb (outW W i):=⟨h.n1,h.hs,fun g hg=>h.way g ((List.eraseIdx_sublist _ _).subset hg),Nat.le_trans (List.eraseIdx_sublist _ _).length_le h.wl,h.lost⟩
theorem WoB.cm {c kb:Nat} {W:Wo} (h:WoB c kb W) {g:Gm} (hg:GmB W.hs.length g):WoB c (kb+2) (cmW W g):=by
 obtain⟨t1,t2⟩:=hg.to
 obtain⟨x,hx,e1,e2⟩:=wo_get (W:=W) (j:=g.to.toNat) (by omega)
 have h1:=h.mono (Nat.le_refl c) (Nat.le_succ kb)
 unfold cmW
 rw[e1,e2]
 split
 ·exact(h1.set ((h.hs _ x hx).ca _ _)).mono (Nat.le_refl _) (by omega)
 ·have hl:g.l.length≤250:=by have :=hg.ok;unfold okF at this;omega
  have h2:=h1.set ((h.hs _ x hx).ar g.f.frm g.f.num hl)
  split
  ·refine h2.send ?_ ?_
   ·unfold Wo.setH;dsimp only;rw[List.length_set];exact hg.frm
   ·unfold Wo.setH;dsimp only;rw[List.length_set];exact hg.to
  ·exact h2.mono (Nat.le_refl _) (by omega)
theorem WoB.de {c kb:Nat} {W:Wo} (h:WoB c kb W) (i:Int):WoB c (kb+2) (deW W i):=by
 unfold deW
 split
 ·rename_i h0
  obtain⟨h1,h2⟩:=waE_z h0
  exact(h.out i.toNat).cm (h.way _ (List.mem_of_getElem? (gmAt_of (W:=W) (i:=i.toNat) (by omega))))
 ·exact h.mono (Nat.le_refl _) (by omega)
theorem WoB.lo {c kb:Nat} {W:Wo} (h:WoB c kb W) (i:Int):WoB c kb (loW W i):=by
 unfold loW
 split
 ·exact h.out _
 ·exact h
theorem WoB.tw {c kb:Nat} {W:Wo} (h:WoB c kb W) (i:Int):WoB c (kb+1) (twW W i):=by
 unfold twW
 split
 ·rename_i h0
  obtain⟨h1,h2⟩:=waE_z h0
  exact h.put (h.way _ (List.mem_of_getElem? (gmAt_of (W:=W) (i:=i.toNat) (by omega))))
 ·exact h.mono (Nat.le_refl _) (by omega)
end WB
/- world: where a world lies; right, House, Cut, Restart, put, send -/
namespace Go.Proofs.YtjhogocabcdjbabGreatDoor
open Go Go.RowKit WB
def pwC (p:Nat):List Value:=[ptrV p]
def grC (g:Gm):List Value:=[.int .i64 g.to,.string (gmT g)]
def hdP (p:Nat×Nat) (x:Ho×Dk):HP:=sep (hoP p.1 p.2 x.1) (dkP p.2 x.2)
structure WoV where
 hv:Value
 dv:Value
 wv:Value
 ps:List (Nat×Nat)
def woC (V:WoV) (W:Wo):List Value:=[V.hv,V.dv,V.wv,.int .i64 W.lost]
abbrev hsS (v:Value) (l:List Nat):HP:=SL 29 1 pwC v l
abbrev dsS (v:Value) (l:List Nat):HP:=SL 25 1 pwC v l
abbrev gsS (v:Value) (l:List Gm):HP:=SL 258 2 grC v l
abbrev woX (bw:Nat) (V:WoV) (W:Wo) (L:List HP):List HP:=
 blk bw (.cells (woC V W).toArray 164 (0,0))::hsS V.hv (V.ps.map (·.1))::dsS V.dv (V.ps.map (·.2))::gsS V.wv W.way::fam hdP V.ps W.hs::L
abbrev HdT:=Value×Value×Option (List (Nat×Nat))
def HdOk (hd:HdT) (dv:Value) (ps:List (Nat×Nat)):Prop:=dv=hd.2.1∧∀l,hd.2.2=some l→ps=l
theorem HdOk.none {hd:HdT} {dv:Value} {ps qs:List (Nat×Nat)} (h:HdOk hd dv ps) (hN:hd.2.2=none):HdOk hd dv qs:=⟨h.1,fun l hl=>by rw[hN]at hl;cases hl⟩
def woP (bw:Nat) (hd:HdT) (W:Wo):HP:=ex fun V:WoV=>sep (pur (V.ps.length=W.hs.length∧V.hv=hd.1∧HdOk hd V.dv V.ps)) (seps (woX bw V W []))
theorem woP_open {w0 w:World} {bw:Nat} {hd:HdT} {W:Wo} {L:List HP} (h:St w0 (woP bw hd W::L) w):∃V:{V:WoV//V.ps.length=W.hs.length∧V.hv=hd.1∧HdOk hd V.dv V.ps},St w0 (woX bw V.1 W L) w:=by
 obtain⟨V,h⟩:=h.exs
 obtain⟨hV,h⟩:=h.split.purs
 exact⟨⟨V,hV⟩,by have :=h.splits;exact this⟩
theorem woP_mk {w0 w:World} {bw:Nat} {hd:HdT} {W:Wo} {L:List HP} (V:WoV) (hV:V.ps.length=W.hs.length) (h:St w0 (woX bw V W L) w) (e8:V.hv=hd.1:=by assumption) (e9:HdOk hd V.dv V.ps:=by assumption):St w0 (woP bw hd W::L) w:=
 St.exi (F:=fun V:WoV=>sep (pur (V.ps.length=W.hs.length∧V.hv=hd.1∧HdOk hd V.dv V.ps)) (seps (woX bw V W []))) V (St.join (St.puri ⟨hV,e8,e9⟩ (St.joins (L:=woX bw V W []) h)))
theorem woP_cells {w0 w:World} {bw:Nat} {hd:HdT} {W:Wo} {L R:List HP} (h:St w0 L w) (hp:Pick L (woP bw hd W) R):
 ∃V:WoV,V.ps.length=W.hs.length∧(∃a cap,V.hv=.slice a W.hs.length cap)∧∀i v,(woC V W)[i]? =some v→w.cell? ⟨bw,i,none⟩=some v:=by
 obtain⟨V,h1⟩:=woP_open (h.pick hp)
 obtain⟨a,cap,h2,-⟩:=SL_form h1.drop
 refine⟨V.1,V.2.1,⟨a,cap,by rw[h2,List.length_map,V.2.1]⟩,fun i v hv=>?_⟩
 rw[World.cell?,h1.look.2];simpa using hv
theorem wright_e (w0:World) (L R:List HP) (bw:Nat) (hd:HdT) (W:Wo) (k:Int) (hp:Pick L (woP bw hd W) R):KE Tryz.prog 78 #[ptrV bw,.int .i64 k] w0 L (fun u M=>u=.bool (W.is k)∧M=L):=by
 refine KE.mk (n:=16) Tryz.func78 rfl Tryz.ntmps78 (by simp) ?_
 intro w hw
 obtain⟨V,hV,⟨ha,hc,hhv⟩,hcl⟩:=woP_cells hw hp
 have hc0:w.cell? ⟨bw,0,none⟩=some (.slice ha W.hs.length hc):=by rw[←hhv];exact hcl 0 _ rfl
 refine Z280 ?_
 by_cases h1:0≤k
 ·refine Z8 ?_
  refine Z77 ?_
  refine Z127 ?_
  refine Z32 ?_
  refine Z358 ?_
  refine KO.fo0 (off:=0) rfl Tryz.runUnderlying164 rfl rfl Tryz.sizeOf160 rfl ?_
  refine KO.on rfl rfl Y69 ?_;refine KO.ld0 rfl rfl Tryz.isAgg160 hc0 rfl ?_
  refine Z20 ?_
  refine KO.len rfl Tryz.underlying160 rfl ?_
  refine Z20 ?_
  refine Z31 ?_
  refine Z43 ?_
  refine Z33 ?_
  refine KQ.ret1 rfl rfl (fun w' hs=>⟨_,_,rfl,⟨?_,rfl⟩,hw.below_step hs.below,hs.below⟩)
  unfold Wo.is;simp[h1]
 ·refine Z8 ?_
  refine Z77 ?_
  refine Z202 ?_
  refine Z103 ?_
  refine Z48 ?_
  refine Z33 ?_
  refine KQ.ret1 rfl rfl (fun w' hs=>⟨_,_,rfl,⟨?_,rfl⟩,hw.below_step hs.below,hs.below⟩)
  unfold Wo.is;simp[h1]
theorem KC.hd {P:Program} {f:FuncId} {args:Array Value} {w0:World} {L:List HP} {p:Nat×Nat} {x y:Ho×Dk} {φ:Value→Prop}
 (h:KC P f args w0 (hoP p.1 p.2 x.1::dkP p.2 x.2::L) (fun u M=>φ u∧M=hoP p.1 p.2 y.1::dkP p.2 y.2::L)):KC P f args w0 (hdP p x::L) (fun u M=>φ u∧M=hdP p y::L):=
 KC.perm (fun w hw=>hw.split) (KC.turn h (by
  rintro v M ⟨h1,rfl⟩
  exact⟨_,⟨h1,rfl⟩,fun w hw=>hw.join⟩))
theorem KC.hdD {P:Program} {f:FuncId} {args:Array Value} {w0:World} {L:List HP} {p:Nat×Nat} {x:Ho×Dk} {d:Dk} {φ:Value→Prop}
 (h:∀L,KC P f args w0 (dkP p.2 x.2::L) (fun u M=>φ u∧M=dkP p.2 d::L)):KC P f args w0 (hdP p x::L) (fun u M=>φ u∧M=hdP p (x.1,d)::L):=
 KC.perm (fun w hw=>hw.split.swap2) (KC.turn (h (hoP p.1 p.2 x.1::L)) (by
  rintro v M ⟨h1,rfl⟩
  exact⟨_,⟨h1,rfl⟩,fun w hw=>hw.swap2.join⟩))
theorem KC.hdH {P:Program} {f:FuncId} {args:Array Value} {w0:World} {L:List HP} {p:Nat×Nat} {x:Ho×Dk} {y:Ho} {φ:Value→Prop}
 (h:∀L,KC P f args w0 (hoP p.1 p.2 x.1::L) (fun u M=>φ u∧M=hoP p.1 p.2 y::L)):KC P f args w0 (hdP p x::L) (fun u M=>φ u∧M=hdP p (y,x.2)::L):=
 KC.perm (fun w hw=>hw.split) (KC.turn (h (dkP p.2 x.2::L)) (by
  rintro v M ⟨h1,rfl⟩
  exact⟨_,⟨h1,rfl⟩,fun w hw=>hw.join⟩))
theorem wo_at {W:Wo} {k:Nat} {x:Ho×Dk} (h:W.hs[k]? =some x):W.H k=x.1∧W.D k=x.2:=by
 unfold Wo.H Wo.D Wo.at'
 rw[List.getD_eq_getElem?_getD,h]
 exact⟨rfl,rfl⟩
theorem wo_is {W:Wo} {k:Int} (h:W.is k=true):∃j:Nat,k=(j:Int)∧j<W.hs.length:=by
 unfold Wo.is at h
 simp only[decide_eq_true_eq]at h
 exact⟨k.toNat,by omega,by omega⟩
set_option maxRecDepth 100000 in
theorem wcut_c (w0:World) (L:List HP) (bw c kb:Nat) (hd:HdT) (W:Wo) (k n t:Int) (hB:WoB c kb W):
 KC Tryz.prog 73 #[ptrV bw,.int .i64 k,.int .i64 n,.int .i64 t] w0 (woP bw hd W::L) (fun u M=>u=errV 70 (wCutE W k)∧M=woP bw hd (wCut W k n t)::L):=by
 unfold wCutE wCut
 refine KC.mk (n:=32) Tryz.func73 rfl Tryz.ntmps73 (by simp) ?_
 refine Z280 ?_
 cases hk:W.is k with
 |false=>
  refine Z72 ?_
  refine KO.ce (cp:=[]) rfl rfl rfl Tryz.call78 rfl (wright_e w0 _ _ bw hd W k Y21) ?_;rintro v' L' ⟨rfl,rfl⟩;rw[hk]
  refine Z70 ?_
  refine Z55 ?_
  refine Z218 ?_
  refine KQ.ret1 rfl rfl (fun w' hs'=>⟨_,_,rfl,⟨rfl,rfl⟩,hs'⟩)
 |true=>
  obtain⟨j,rfl,hj⟩:=wo_is hk
  refine Z72 ?_
  refine KO.ce (cp:=[]) rfl rfl rfl Tryz.call78 rfl (wright_e w0 _ _ bw hd W (j:Int) Y21) ?_;rintro v' L' ⟨rfl,rfl⟩;rw[hk]
  refine Z322 ?_
  refine K.open' (fun _ h=>woP_open h) ?_
  rintro⟨V,hV,e8,e9⟩
  dsimp only
  obtain⟨x,hx⟩:∃e,W.hs[j]? =some e:=⟨_,List.getElem?_eq_getElem hj⟩
  obtain⟨p,hp⟩:∃e,V.ps[j]? =some e:=⟨_,List.getElem?_eq_getElem (by omega)⟩
  obtain⟨eH,eD⟩:=wo_at hx
  have hxB:=hB.hs j x hx
  have hp1:(V.ps.map (·.1))[j]? =some p.1:=by rw[List.getElem?_map,hp];rfl
  have hp2:(V.ps.map (·.2))[j]? =some p.2:=by rw[List.getElem?_map,hp];rfl
  obtain⟨hv,dv,wv,ps⟩:=V
  dsimp only at hp hp1 hp2 hV ⊢
  refine K.fact (fun w hw=>SL_form (hw.pick (A:=hsS hv (ps.map (·.1))) Y11)) ?_
  rintro⟨a1,c1,rfl,hg1⟩
  refine K.fact (fun w hw=>SL_form (hw.pick (A:=dsS dv (ps.map (·.2))) Y11)) ?_
  rintro⟨a2,c2,rfl,hg2⟩
  obtain⟨g1,rfl⟩:=hg1 Y29
  obtain⟨g2,rfl⟩:=hg2 Y29
  refine Z8 ?_
  refine Z294 ?_
  refine Z1 ?_
  refine Z94 ?_
  refine Z1 ?_
  refine KO.cl (cp:=[]) rfl rfl rfl Tryz.call18 rfl (KC.famC (φ:=fun u=>u=.tuple #[]) hp hx Y11 (fun L=>KC.hdD (fun L=>cut_c w0 L p.2 x.2 n hxB.len))) ?_;rintro v' L' ⟨rfl,rfl⟩
  refine Z0 ?_
  have hx2:(W.hs.set j (x.1,dkCut x.2 n))[j]? =some (x.1,dkCut x.2 n):=List.getElem?_set_self hj
  refine Z8 ?_
  refine Z50 ?_
  refine Z1 ?_
  refine Z225 ?_
  refine Z1 ?_
  refine KO.cl (cp:=[]) rfl rfl rfl Tryz.call19 rfl (KC.famC (φ:=fun u=>u=.tuple #[]) hp hx2 Y21 (fun L=>KC.hdH (fun L=>htorn_c w0 L p.1 p.2 x.1 t))) ?_;rintro v' L' ⟨rfl,rfl⟩;rw[List.set_set]
  refine Z183 ?_
  refine KQ.ret1 rfl rfl (fun w' hs'=>⟨_,_,rfl,⟨rfl,rfl⟩,?_⟩)
  rw[if_pos rfl,Int.toNat_natCast,eH,eD]
  exact woP_mk ⟨_,_,wv,ps⟩ Y15 (hs'.all Y7)
set_option maxRecDepth 100000 in
theorem wre_c (w0:World) (L:List HP) (bw c kb:Nat) (hd:HdT) (hN:hd.2.2=none) (W:Wo) (k:Int) (hT:Tab w0) (hM:Lim w0) (hB:WoB c kb W) (hK:kb≤1000000000000):
 KC Tryz.prog 74 #[ptrV bw,.int .i64 k] w0 (woP bw hd W::L) (fun u M=>u=errV 70 (wCutE W k)∧M=woP bw hd (wRe W k)::L):=by
 unfold wCutE wRe
 have hn4:=hB.n1
 refine KC.mk (n:=36) Tryz.func74 rfl Tryz.ntmps74 (by simp) ?_
 refine Z280 ?_
 cases hk:W.is k with
 |false=>
  refine Z72 ?_
  refine KO.ce (cp:=[]) rfl rfl rfl Tryz.call78 rfl (wright_e w0 _ _ bw hd W k Y21) ?_;rintro v' L' ⟨rfl,rfl⟩;rw[hk]
  refine Z70 ?_
  refine Z55 ?_
  refine Z218 ?_
  refine KQ.ret1 rfl rfl (fun w' hs'=>⟨_,_,rfl,⟨rfl,rfl⟩,hs'⟩)
 |true=>
  obtain⟨j,rfl,hj⟩:=wo_is hk
  refine Z72 ?_
  refine KO.ce (cp:=[]) rfl rfl rfl Tryz.call78 rfl (wright_e w0 _ _ bw hd W (j:Int) Y21) ?_;rintro v' L' ⟨rfl,rfl⟩;rw[hk]
  refine Z322 ?_
  refine K.open' (fun _ h=>woP_open h) ?_
  rintro⟨V,hV,e8,e9⟩
  dsimp only
  obtain⟨x,hx⟩:∃e,W.hs[j]? =some e:=⟨_,List.getElem?_eq_getElem hj⟩
  obtain⟨p,hp⟩:∃e,V.ps[j]? =some e:=⟨_,List.getElem?_eq_getElem (by omega)⟩
  obtain⟨eH,eD⟩:=wo_at hx
  have hxB:=hB.hs j x hx
  have hcB:=hxB.cut (n:= -1) (by omega)
  have hp1:(V.ps.map (·.1))[j]? =some p.1:=by rw[List.getElem?_map,hp];rfl
  have hp2:(V.ps.map (·.2))[j]? =some p.2:=by rw[List.getElem?_map,hp];rfl
  obtain⟨hv,dv,wv,ps⟩:=V
  dsimp only at hp hp1 hp2 hV ⊢
  refine K.fact (fun w hw=>SL_form (hw.pick (A:=hsS hv (ps.map (·.1))) Y11)) ?_
  rintro⟨a1,c1,rfl,hg1⟩
  refine K.fact (fun w hw=>SL_form (hw.pick (A:=dsS dv (ps.map (·.2))) Y11)) ?_
  rintro⟨a2,c2,rfl,hg2⟩
  obtain⟨g1,rfl⟩:=hg1 Y29
  obtain⟨g2,rfl⟩:=hg2 Y29
  have hx2:(W.hs.set j (x.1,dkCut x.2 (-1)))[j]? =some (x.1,dkCut x.2 (-1)):=List.getElem?_set_self hj
  refine Z8 ?_
  refine Z294 ?_
  refine Z1 ?_
  refine Z94 ?_
  refine KO.cl (cp:=[]) rfl rfl rfl Tryz.call18 rfl (KC.famC (φ:=fun u=>u=.tuple #[]) hp hx Y11 (fun L=>KC.hdD (fun L=>cut_c w0 L p.2 x.2 (-1) hxB.len))) ?_;rintro v' L' ⟨rfl,rfl⟩
  refine Z0 ?_
  refine K.conv (fun w hw=>fam_out hp hx2 (hw.pick (A:=fam hdP ps (W.hs.set j (x.1,dkCut x.2 (-1)))) Y21)) ?_
  refine K.conv (fun w hw=>(hw.pick (A:=hdP p (x.1,dkCut x.2 (-1))) .head).split) ?_
  refine K.drawX [.pure,.pure,.pure,.read,.pure,.pure,.pure,.pure,.pure,.read,.pure,.pure,.read,.write,.pure,.pure,.pure,.pure,.write] [(3,13)] [[0,1,2,3,4,5,6,7,8,9,10,11,12,13,14,15,16,17,18],[0,1,2,4,5,6,7,8,9,10,11,12,13,3,14,15,16,17,18]] Y62 Y62 Y62 ⟨?_,?_,trivial⟩
  focus
   show KO _ _ _ _ _ _ _ _ _ _
   refine Z1 ?_
   refine Z50 ?_
   refine Z125 ?_
   refine Z24 ?_
   refine Z86 ?_
   refine Z1 ?_
   refine Z94 ?_
   refine KO.cl (cp:=[]) rfl rfl rfl Tryz.call11 rfl (KC.pk1 Y11 (hopen_c w0 _ p.2 (j:Int) (dkCut x.2 (-1)) hT hM ⟨by omega,by omega⟩ (hcB.ok hK))) ?_;rintro v' L' ⟨bh,rfl,rfl⟩
   refine Z47 ?_
   refine Z194 ?_
   refine Z0 ?_
  rotate_left
  focus
   show KO _ _ _ _ _ _ _ _ _ _
   refine Z1 ?_
   refine Z19 ?_
   refine Z125 ?_
   refine Z24 ?_
   refine Z86 ?_
   refine Z1 ?_
   refine Z94 ?_
   refine KO.cl (cp:=[]) rfl rfl rfl Tryz.call11 rfl (KC.pk1 Y11 (hopen_c w0 _ p.2 (j:Int) (dkCut x.2 (-1)) hT hM ⟨by omega,by omega⟩ (hcB.ok hK))) ?_;rintro v' L' ⟨bh,rfl,rfl⟩
   refine KO.ldAt (i:=0) rfl rfl Tryz.isAgg160 Y11 rfl rfl rfl ?_
   refine Z47 ?_
   refine Z194 ?_
   refine Z0 ?_
  rotate_left
  all_goals (
   refine Z105 ?_
   refine KQ.ret1 rfl rfl (fun w' hs'=>⟨_,_,rfl,⟨rfl,rfl⟩,?_⟩)
   rw[if_pos rfl,Int.toNat_natCast]
   unfold reH
   rw[eD]
   have e1:(ps.set j (bh,p.2)).map (·.1)=(ps.map (·.1)).set j bh:=List.map_set
   have e2:(ps.set j (bh,p.2)).map (·.2)=ps.map (·.2):=by rw[List.map_set];exact List.set_getElem_of hp2
   have h1:St w0 (hdP (bh,p.2) (openH (j:Int) (dkCut x.2 (-1)),dkCut x.2 (-1))::fam hdP (ps.eraseIdx j) ((W.hs.set j (x.1,dkCut x.2 (-1))).eraseIdx j)::hsS (.slice (some ⟨g1,0,none⟩) (ps.map (·.1)).length c1) ((ps.map (·.1)).set j bh)::dsS (.slice (some ⟨g2,0,none⟩) (ps.map (·.2)).length c2) (ps.map (·.2))::gsS wv W.way::blk bw (.cells (woC ⟨.slice (some ⟨g1,0,none⟩) (ps.map (·.1)).length c1,.slice (some ⟨g2,0,none⟩) (ps.map (·.2)).length c2,wv,ps⟩ W).toArray 164 (0,0))::L) w':=by
    have h2:St w0 (hoP bh p.2 (openH (j:Int) (dkCut x.2 (-1)))::dkP p.2 (dkCut x.2 (-1))::_) w':=hs'.all (M:=hoP bh p.2 (openH (j:Int) (dkCut x.2 (-1)))::dkP p.2 (dkCut x.2 (-1))::fam hdP (ps.eraseIdx j) ((W.hs.set j (x.1,dkCut x.2 (-1))).eraseIdx j)::hsS (.slice (some ⟨g1,0,none⟩) (ps.map (·.1)).length c1) ((ps.map (·.1)).set j bh)::dsS (.slice (some ⟨g2,0,none⟩) (ps.map (·.2)).length c2) (ps.map (·.2))::gsS wv W.way::blk bw (.cells (woC ⟨.slice (some ⟨g1,0,none⟩) (ps.map (·.1)).length c1,.slice (some ⟨g2,0,none⟩) (ps.map (·.2)).length c2,wv,ps⟩ W).toArray 164 (0,0))::L) Y5
    exact h2.join
   have h3:=fam_in (f:=hdP) (ps:=ps) (xs:=W.hs.set j (x.1,dkCut x.2 (-1))) (i:=j) (p:=(bh,p.2)) (x:=(openH (j:Int) (dkCut x.2 (-1)),dkCut x.2 (-1))) (by omega) (by rw[List.length_set];exact hj) h1
   rw[List.set_set]at h3
   refine woP_mk ⟨.slice (some ⟨g1,0,none⟩) (ps.map (·.1)).length c1,.slice (some ⟨g2,0,none⟩) (ps.map (·.2)).length c2,wv,ps.set j (bh,p.2)⟩ (by dsimp only[Wo.setH];rw[List.length_set,List.length_set];exact hV) ?_ (e9:=e9.none hN)
   unfold woX
   dsimp only
   rw[e1,e2]
   exact h3.all Y7)
set_option maxRecDepth 100000 in
theorem wput_c (w0:World) (L:List HP) (bw:Nat) (hd:HdT) (W:Wo) (g:Gm) (hwl:W.way.length≤100) (hlo:0≤W.lost∧W.lost≤1000000000000):
 KC Tryz.prog 167 #[ptrV bw,.agg (grC g).toArray] w0 (woP bw hd W::L) (fun u M=>u=.tuple #[]∧M=woP bw hd (wPut W g)::L):=by
 unfold wPut
 refine KC.mk (n:=27) Tryz.func167 rfl Tryz.ntmps167 (by simp) ?_
 refine Z53 ?_
 refine K.open' (fun _ h=>woP_open h) ?_
 rintro⟨V,hV,e8,e9⟩
 dsimp only
 obtain⟨hv,dv,wv,ps⟩:=V
 dsimp only at hV ⊢
 refine K.fact (fun w hw=>SL_form (hw.pick (A:=gsS wv W.way) Y11)) ?_
 rintro⟨a3,c3,hwv,hg3⟩
 refine Z231 ?_
 refine KO.box rfl rfl Y68 rfl ?_;intro b3
 refine Z0 ?_
 refine Z120 ?_
 refine Z84 ?_
 refine KO.ldAt (i:=2) rfl rfl Tryz.isAgg162 Y11 rfl rfl rfl ?_;rw[hwv]
 refine Z184 ?_
 refine Z77 ?_
 refine Z2 ?_
 refine K.condD rfl (fun h1=>?_) (fun h1=>?_)
 ·rw[if_pos (by omega)]
  refine Z3 ?_
  refine Z26 ?_
  refine KO.fo0 (off:=3) rfl Tryz.runUnderlying164 rfl rfl Tryz.sizeOf3 rfl ?_
  refine KO.ldAt (i:=3) rfl rfl Tryz.isAgg3 Y11 rfl rfl rfl ?_
  refine Z353 ?_
  refine KO.fo0 (off:=3) rfl Tryz.runUnderlying164 rfl rfl Tryz.sizeOf3 rfl ?_
  refine KO.stAt (i:=3) rfl rfl rfl rfl Y45 rfl Y11 rfl Y65 ?_
  refine Z4 ?_
  refine KQ.ret0 rfl (fun w' hs'=>⟨_,_,rfl,⟨rfl,rfl⟩,woP_mk ⟨_,dv,_,ps⟩ hV (hs'.all Y5)⟩)
 ·rw[if_neg (by omega)]
  refine Z102 ?_
  rw[←hwv]
  refine K.draw [.pure,.pure,.pure,.pure,.read,.read,.keep,.write,.pure,.pure,.write] [0,1,2,3,4,5,6,7,8,9,10] Y62 Y62 ?_
  refine Z217 ?_
  refine Z84 ?_
  refine KO.ldAt (i:=2) rfl rfl Tryz.isAgg162 Y11 rfl rfl rfl ?_
  refine KO.ldB0 rfl rfl Tryz.isAgg258 Tryz.sizeOf258 Y21 Y68 rfl ?_
  refine KO.bs1 (z:=(Value.agg #[.int .i64 0,.string ⟨#[]⟩])) (sz:=2) (by':=24) rfl rfl Tryz.underlying162 Y62 Y68 Y68 (by decide) (by decide) rfl ?_;intro b23
  refine KO.app (cf:=grC) (z:=Value.agg #[.int .i64 0,.string ⟨#[]⟩]) (sz:=2) (by':=24) (xs:=W.way) rfl rfl rfl Y11 .head Tryz.underlying162 Y62 Y68 g rfl rfl rfl (by omega) (by decide) rfl ?_;intro v24;refine KO.fact (fun _ hs=>SL_form hs) ?_;rintro⟨a24,k24,hv24,-⟩
  refine Z49 ?_
  refine Z84 ?_
  refine KO.stAt (i:=2) rfl rfl rfl (by rw[hv24];rfl) (by exact Tryz.sizeOf162) (by rw[hv24];rfl) Y11 rfl Y65 ?_
  refine KO.nil ?_
  refine KQ.end0 rfl (fun w' hs'=>⟨_,_,rfl,⟨rfl,rfl⟩,woP_mk ⟨hv,dv,v24,ps⟩ hV (hs'.all Y5)⟩)
set_option maxRecDepth 100000 in
theorem wsend_c (w0:World) (L:List HP) (A:HP) (bw:Nat) (hd:HdT) (W:Wo) (dst:Int) (f:Fr) (v:Value) (l:List Ms) (hT:Tab w0) (hA:∀w R,St w0 (A::R) w→RdA w 5 msC v l) (hsz:∀m∈l,m.body.size≤maxLen∧m.queue.size≤maxLen) (hwl:W.way.length≤100) (hlo:0≤W.lost∧W.lost≤1000000000000):
 KC Tryz.prog 164 #[ptrV bw,.int .i64 dst,.agg (frC f v).toArray] w0 (woP bw hd W::A::L) (fun u M=>u=.tuple #[]∧M=woP bw hd (wSend W dst f l)::A::L):=by
 unfold wSend
 refine KC.mk (n:=20) Tryz.func164 rfl Tryz.ntmps164 (by simp) ?_
 refine Z3 ?_
 refine KO.box rfl rfl Y68 rfl ?_;intro b5
 refine Z248 ?_
 refine Z327 ?_
 refine KO.ce (cp:=[]) rfl rfl rfl Tryz.call264 rfl (fw_e w0 _ f v l (fun w' hw'=>hA w' _ (hw'.pick (A:=A) Y11)) hT hsz) ?_;rintro v' L' ⟨rfl,rfl⟩
 refine Z106 ?_
 refine Z244 ?_
 by_cases hok:okF f l
 ·obtain⟨e1,e2⟩:=fw_ok hok
  rw[e1,e2,if_pos hok]
  refine Z275 ?_
  refine Z8 ?_
  refine Z34 ?_
  refine KO.bldN (pl:=[(0,1),(1,1)]) rfl Tryz.zeroValue258 Tryz.runUnderlying258 Y20 Y68 rfl ?_
  refine KO.cl (cp:=[]) rfl rfl rfl Tryz.call167 rfl (KC.pk1 Y11 (wput_c w0 _ bw hd W ⟨dst,f,l⟩ hwl hlo)) ?_;rintro v' L' ⟨rfl,rfl⟩
  refine KO.nil ?_
  refine KQ.end0 rfl (fun w' hs'=>⟨_,_,rfl,⟨rfl,rfl⟩,hs'.all Y5⟩)
 ·obtain⟨e1,e2⟩:=fw_bad hok
  rw[e1,if_neg hok]
  refine Z295 ?_
  refine Z189 ?_
  refine KQ.end0 rfl (fun w' hs'=>⟨_,_,rfl,⟨rfl,rfl⟩,hs'.all Y5⟩)
end Go.Proofs.YtjhogocabcdjbabGreatDoor
/- world: House, Send, Lose, Twice -/
namespace Go.Proofs.YtjhogocabcdjbabGreatDoor
open Go Go.RowKit WB
theorem gm_info:(Tryz.prog.info? 258).map (fun i=>(i.zero,i.size,i.bytes))=some (some (Value.agg #[.int .i64 0,.string ⟨#[]⟩]),2,24):=by kernel_rfl
theorem grC_one (x:Gm):(grC x).all Value.oneCell'=true:=rfl
theorem gdel_c (w0:World) (L:List HP) (v:Value) (xs:List Gm) (k:Nat) (hk:k<xs.length) (hn:xs.length<1000000):
 KC Tryz.prog 165 #[v,.int .i64 (k:Nat),.int .i64 ((k:Int)+1)] w0 (gsS v xs::L) (fun v' L'=>L'=gsS v' (xs.eraseIdx k)::L):=by
 refine KC.pre (fun w hw=>SL_some hw hk) ?_
 rintro⟨g,cap,rfl⟩
 refine KC.pre (fun w hw=>(SL_open hw).2.1) fun hnc=>?_
 refine KC.mk (n:=33) Tryz.func165 rfl Tryz.ntmps165 (by simp) ?_
 refine Z150 ?_
 refine Z125 ?_
 refine Z184 ?_
 refine KO.cutAny (lo:=k) (hi:=k+1) (mx:=xs.length) rfl rfl rfl rfl Tryz.underlying162 Tryz.sizeOf258 rfl (by omega) rfl (by omega) (by omega) (by omega) rfl (fun q13=>?_)
 refine Z0 ?_
 refine Z72 ?_
 refine Z246 ?_
 refine K.condF rfl Y61 ?_
 refine Z273 ?_
 refine Z184 ?_
 refine Z196 ?_
 refine Z34 ?_
 refine KO.cutTo rfl rfl Tryz.underlying162 Tryz.sizeOf258 Y68 (by omega) rfl ?_
 refine Z34 ?_
 refine KO.cutFrom (lo:=k+1) rfl rfl Tryz.underlying162 Tryz.sizeOf258 (by omega) (by omega) (by omega) rfl ?_
 refine KO.move (j:=k+1) rfl rfl rfl Pick.head rfl hnc Tryz.underlying162 gm_info (fun _=>rfl) grC_one (by omega) (by omega) rfl ?_
 refine Z28 ?_
 refine Z1 ?_
 refine Z184 ?_
 refine Z1 ?_
 refine KO.cutMid (lo:=k+(xs.length-(k+1))) (hi:=xs.length) rfl rfl rfl Tryz.underlying162 Tryz.sizeOf258 rfl rfl (by omega) (by omega) rfl ?_
 refine KO.clear rfl rfl Pick.head hnc Y61 Y61 Tryz.underlying162 gm_info (fun _=>rfl) rfl rfl ?_
 refine Z348 ?_
 refine Z33 ?_
 refine KQ.ret1 rfl rfl (fun w' hs=>⟨_,_,rfl,rfl,?_⟩)
 have e:(List.take (k+(xs.length-(k+1))) (List.take k xs++List.drop (k+1) xs++List.drop (k+(xs.length-(k+1))) xs))=xs.eraseIdx k:=by
  rw[List.take_append_of_le_length Y61,List.take_of_length_le Y61,List.eraseIdx_eq_take_drop_succ]
 rw[e]at hs
 exact hs
set_option maxRecDepth 100000 in
theorem wlo_c (w0:World) (L:List HP) (bw c kb:Nat) (hd:HdT) (W:Wo) (i:Int) (hB:WoB c kb W):
 KC Tryz.prog 71 #[ptrV bw,.int .i64 i] w0 (woP bw hd W::L) (fun u M=>u=errV 70 (waE W i)∧M=woP bw hd (loW W i)::L):=by
 have hwl:=hB.wl
 unfold loW waE
 refine KC.mk (n:=28) Tryz.func71 rfl Tryz.ntmps71 (by simp) ?_
 refine Z53 ?_
 refine K.open' (fun _ h=>woP_open h) ?_
 rintro⟨V,hV,e8,e9⟩
 dsimp only
 obtain⟨hv,dv,wv,ps⟩:=V
 dsimp only at hV ⊢
 refine K.fact (fun w hw=>SL_form (hw.pick (A:=gsS wv W.way) Y11)) ?_
 rintro⟨a3,c3,rfl,hg3⟩
 refine Z231 ?_
 refine Z21 ?_
 by_cases h1:0≤i
 ·refine Z186 ?_
  refine Z32 ?_
  refine Z49 ?_
  refine KO.on rfl rfl Y69 ?_;refine KO.fo0 (off:=2) rfl Tryz.runUnderlying164 rfl rfl Tryz.sizeOf162 rfl ?_
  refine KO.on rfl rfl Y69 ?_;refine KO.ldAt (i:=2) rfl rfl Tryz.isAgg162 Y21 rfl rfl rfl ?_
  refine Z20 ?_
  refine Z184 ?_
  refine Z20 ?_
  refine Z181 ?_
  refine Z2 ?_
  refine K.condD rfl (fun h2=>?_) (fun h2=>?_)
  ·rw[if_neg (by omega),if_neg (by decide)]
   refine Z218 ?_
   refine KQ.ret1 rfl rfl (fun w' hs'=>⟨_,_,rfl,⟨rfl,rfl⟩,woP_mk ⟨hv,dv,_,ps⟩ hV (hs'.all Y30)⟩)
  ·have h3:i<(W.way.length:Int):=by omega
   rw[if_pos ⟨h1,h3⟩,if_pos rfl]
   obtain⟨j,rfl⟩:∃j:Nat,i=(j:Int):=⟨i.toNat,by omega⟩
   refine Z6 ?_
   refine Z171 ?_
   refine Z213 ?_
   refine Z34 ?_
   refine Z23 ?_
   refine KO.cl (cp:=[]) rfl rfl rfl Tryz.call165 rfl (KC.pk1 Y11 (gdel_c w0 _ _ W.way j (by omega) (by omega))) ?_;rintro v25 L' rfl;refine KO.fact (fun _ hs=>SL_form hs) ?_;rintro⟨a25,k25,rfl,-⟩
   refine Z49 ?_
   refine Z84 ?_
   refine KO.stAt (i:=2) rfl rfl rfl rfl (by exact Tryz.sizeOf162) rfl Y11 rfl Y65 ?_
   refine Z183 ?_
   refine KQ.ret1 rfl rfl (fun w' hs'=>⟨_,_,rfl,⟨rfl,rfl⟩,?_⟩)
   rw[Int.toNat_natCast]
   exact woP_mk ⟨hv,dv,.slice a25 (W.way.eraseIdx j).length k25,ps⟩ hV (hs'.all Y7)
 ·refine Z140 ?_
  refine Z202 ?_
  refine Z103 ?_
  refine Z279 ?_
  rw[if_neg (by omega),if_neg (by decide)]
  refine K.condT rfl (by simp <;>omega) ?_
  refine Z218 ?_
  refine KQ.ret1 rfl rfl (fun w' hs'=>⟨_,_,rfl,⟨rfl,rfl⟩,woP_mk ⟨hv,dv,_,ps⟩ hV (hs'.all Y30)⟩)
set_option maxRecDepth 100000 in
theorem wtw_c (w0:World) (L:List HP) (bw c kb:Nat) (hd:HdT) (W:Wo) (i:Int) (hB:WoB c kb W) (hK:kb≤1000000000000):
 KC Tryz.prog 72 #[ptrV bw,.int .i64 i] w0 (woP bw hd W::L) (fun u M=>u=errV 70 (waE W i)∧M=woP bw hd (twW W i)::L):=by
 have hwl:=hB.wl
 have hlo:=hB.lost
 unfold twW waE
 refine KC.mk (n:=26) Tryz.func72 rfl Tryz.ntmps72 (by simp) ?_
 refine Z53 ?_
 refine K.open' (fun _ h=>woP_open h) ?_
 rintro⟨V,hV,e8,e9⟩
 dsimp only
 obtain⟨hv,dv,wv,ps⟩:=V
 dsimp only at hV ⊢
 refine K.fact (fun w hw=>SL_form (hw.pick (A:=gsS wv W.way) Y11)) ?_
 rintro⟨a3,c3,rfl,hg3⟩
 refine Z231 ?_
 refine Z21 ?_
 by_cases h1:0≤i
 ·refine Z186 ?_
  refine Z32 ?_
  refine Z49 ?_
  refine KO.on rfl rfl Y69 ?_;refine KO.fo0 (off:=2) rfl Tryz.runUnderlying164 rfl rfl Tryz.sizeOf162 rfl ?_
  refine KO.on rfl rfl Y69 ?_;refine KO.ldAt (i:=2) rfl rfl Tryz.isAgg162 Y21 rfl rfl rfl ?_
  refine Z20 ?_
  refine Z184 ?_
  refine Z20 ?_
  refine Z181 ?_
  refine Z2 ?_
  refine K.condD rfl (fun h2=>?_) (fun h2=>?_)
  ·rw[if_neg (by omega),if_neg (by decide)]
   refine Z218 ?_
   refine KQ.ret1 rfl rfl (fun w' hs'=>⟨_,_,rfl,⟨rfl,rfl⟩,woP_mk ⟨hv,dv,_,ps⟩ hV (hs'.all Y30)⟩)
  ·have h3:i<(W.way.length:Int):=by omega
   rw[if_pos ⟨h1,h3⟩,if_pos rfl]
   obtain⟨j,rfl⟩:∃j:Nat,i=(j:Int):=⟨i.toNat,by omega⟩
   obtain⟨g3,rfl⟩:=hg3 (by omega)
   have hg:W.way[j]? =some (gmAt W j):=gmAt_of (by omega)
   rw[Int.toNat_natCast]
   refine Z6 ?_
   refine Z171 ?_
   refine Z213 ?_
   refine Z350 ?_
   refine KO.ldEN (i:=j) (sz:=2) (cf:=grC) (e:=gmAt W j) rfl rfl Tryz.isAgg258 Tryz.sizeOf258 Y11 (fun _=>rfl) hg rfl ?_;refine KO.conv (fun w hw=>woP_mk ⟨hv,dv,.slice (some ⟨g3,0,none⟩) W.way.length c3,ps⟩ hV (hw.all (M:=woX bw ⟨hv,dv,.slice (some ⟨g3,0,none⟩) W.way.length c3,ps⟩ W L) Y30)) ?_
   refine KO.cl (cp:=[]) rfl rfl rfl Tryz.call167 rfl (KC.pk1 Y21 (wput_c w0 _ bw hd W (gmAt W j) hwl ⟨hlo.1,by omega⟩)) ?_;rintro v' L' ⟨rfl,rfl⟩
   refine Z183 ?_
   refine KQ.ret1 rfl rfl (fun w' hs'=>⟨_,_,rfl,⟨rfl,rfl⟩,hs'⟩)
 ·refine Z140 ?_
  refine Z202 ?_
  refine Z103 ?_
  refine Z279 ?_
  rw[if_neg (by omega),if_neg (by decide)]
  refine K.condT rfl (by simp <;>omega) ?_
  refine Z218 ?_
  refine KQ.ret1 rfl rfl (fun w' hs'=>⟨_,_,rfl,⟨rfl,rfl⟩,woP_mk ⟨hv,dv,_,ps⟩ hV (hs'.all Y30)⟩)
theorem KC.famR {α β γ:Type} {f:α→β→HP} {P:Program} {g:FuncId} {args:Array Value} {w0:World} {L R:List HP} {ps:List α} {xs:List β} {p:α} {x y:β} {i:Nat} {φ:γ→Value→Prop} {A:γ→HP}
 (hp:ps[i]? =some p) (hx:xs[i]? =some x) (pk:Pick L (fam f ps xs) R) (h:∀L,KC P g args w0 (f p x::L) (fun u M=> ∃c,φ c u∧M=A c::f p y::L)):
 KC P g args w0 L (fun u M=> ∃c,φ c u∧M=A c::fam f ps (xs.set i y)::R):=
 KC.perm (L':=f p x::fam f (ps.eraseIdx i) (xs.eraseIdx i)::R) (fun w hw=>fam_out hp hx (hw.pick pk)) (KC.turn (h _) (by
  rintro v M ⟨c,h1,rfl⟩
  exact⟨_,⟨c,h1,rfl⟩,fun w hw=>(fam_put hp (List.getElem?_eq_some_iff.1 hx).1 ((hw.pick (A:=f p y) (.tail .head)).pick2 .head (.tail .head))).swap2⟩))
theorem KC.famA {α β:Type} {f:α→β→HP} {P:Program} {g:FuncId} {args:Array Value} {w0:World} {L R R1:List HP} {A:HP} {ps:List α} {xs:List β} {p:α} {x y:β} {i:Nat} {φ:Value→Prop}
 (hp:ps[i]? =some p) (hx:xs[i]? =some x) (pk:Pick L A R1) (pk2:Pick R1 (fam f ps xs) R) (h:∀L,KC P g args w0 (f p x::A::L) (fun u M=>φ u∧M=f p y::A::L)):
 KC P g args w0 L (fun u M=>φ u∧M=fam f ps (xs.set i y)::A::R):=
 KC.perm (L':=f p x::A::fam f (ps.eraseIdx i) (xs.eraseIdx i)::R) (fun w hw=>((fam_out hp hx ((hw.pick2 pk pk2).swap2)).pick2 .head (.tail .head))) (KC.turn (h _) (by
  rintro v M ⟨h1,rfl⟩
  exact⟨_,⟨h1,rfl⟩,fun w hw=>fam_put hp (List.getElem?_eq_some_iff.1 hx).1 (hw.pick2 .head (.tail .head))⟩))
theorem hdB79 {c kb k:Nat} {x:Ho×Dk} (h:HdB c kb k x) (hc:c≤4000):HoB 79600 x.1:=h.B.le (by have :=h.B.used;omega)
theorem btL_right {c kb k:Nat} {x:Ho×Dk} (h:HdB c kb k x) (dst:Int):∀m∈btL x.1 x.2 dst,msRight m=true:=fun m hm=>by
 unfold btL at hm
 split at hm
 ·exact qkept_right (h.bt dst).ways _ m (List.mem_filter.1 hm).1
 ·cases hm
set_option maxRecDepth 100000 in
theorem wse_c (w0:World) (L:List HP) (bw c kb:Nat) (hd:HdT) (W:Wo) (k dst:Int) (hT:Tab w0) (hM:Lim w0) (hB:WoB c kb W) (hK:kb≤1000000000) (hc:c≤4000):
 KC Tryz.prog 69 #[ptrV bw,.int .i64 k,.int .i64 dst] w0 (woP bw hd W::L) (fun u M=>u=errV 70 (seE W k dst)∧M=woP bw hd (seW W k dst)::L):=by
 have hwl:=hB.wl
 have hlo:=hB.lost
 unfold seW
 refine KC.mk (n:=44) Tryz.func69 rfl Tryz.ntmps69 (by simp) ?_
 refine Z280 ?_
 have early:¬(W.is k=true∧W.is dst=true)→seE W k dst=2:=fun h=>by unfold seE;rw[if_neg h]
 cases hk:W.is k with
 |false=>
  rw[early Y58,if_neg (by simp)]
  refine Z72 ?_
  refine KO.ce (cp:=[]) rfl rfl rfl Tryz.call78 rfl (wright_e w0 _ _ bw hd W k Y21) ?_;rintro v' L' ⟨rfl,rfl⟩;rw[hk]
  refine Z70 ?_
  refine Z179 ?_
  refine Z168 ?_
  refine Z218 ?_
  refine KQ.ret1 rfl rfl (fun w' hs'=>⟨_,_,rfl,⟨rfl,rfl⟩,hs'⟩)
 |true=>
  cases hds:W.is dst with
  |false=>
   rw[early (by rw[hds];simp),if_neg (by simp)]
   refine Z72 ?_
   refine KO.ce (cp:=[]) rfl rfl rfl Tryz.call78 rfl (wright_e w0 _ _ bw hd W k Y21) ?_;rintro v' L' ⟨rfl,rfl⟩;rw[hk]
   refine Z70 ?_
   refine Z65 ?_
   refine Z1 ?_
   refine KO.on rfl rfl rfl ?_;refine KO.ce (cp:=[]) rfl rfl rfl Tryz.call78 rfl (wright_e w0 _ _ bw hd W dst Y21) ?_;rintro v' L' ⟨rfl,rfl⟩;rw[hds]
   refine Z236 ?_
   refine Z55 ?_
   refine Z218 ?_
   refine KQ.ret1 rfl rfl (fun w' hs'=>⟨_,_,rfl,⟨rfl,rfl⟩,hs'⟩)
  |true=>
   rw[if_pos ⟨rfl,rfl⟩]
   have eS:seE W k dst=btE (W.H k.toNat) (W.D k.toNat) dst:=by unfold seE;rw[if_pos ⟨hk,hds⟩]
   refine Z72 ?_
   refine KO.ce (cp:=[]) rfl rfl rfl Tryz.call78 rfl (wright_e w0 _ _ bw hd W k Y21) ?_;rintro v' L' ⟨rfl,rfl⟩;rw[hk]
   refine Z70 ?_
   refine Z65 ?_
   refine Z1 ?_
   refine KO.on rfl rfl rfl ?_;refine KO.ce (cp:=[]) rfl rfl rfl Tryz.call78 rfl (wright_e w0 _ _ bw hd W dst Y21) ?_;rintro v' L' ⟨rfl,rfl⟩;rw[hds]
   refine Z236 ?_
   refine Z162 ?_
   obtain⟨j,rfl,hj⟩:=wo_is hk
   refine K.open' (fun _ h=>woP_open h) ?_
   rintro⟨V,hV,e8,e9⟩
   dsimp only
   obtain⟨x,hx⟩:∃e,W.hs[j]? =some e:=⟨_,List.getElem?_eq_getElem hj⟩
   obtain⟨p,hp⟩:∃e,V.ps[j]? =some e:=⟨_,List.getElem?_eq_getElem (by omega)⟩
   obtain⟨eH,eD⟩:=wo_at hx
   have hxB:=hB.hs j x hx
   have hB1:=hdB79 hxB hc
   have hp1:(V.ps.map (·.1))[j]? =some p.1:=by rw[List.getElem?_map,hp];rfl
   obtain⟨hv,dv,wv,ps⟩:=V
   dsimp only at hp hp1 hV ⊢
   refine K.fact (fun w hw=>SL_form (hw.pick (A:=hsS hv (ps.map (·.1))) Y11)) ?_
   rintro⟨a1,c1,rfl,hg1⟩
   obtain⟨g1,rfl⟩:=hg1 Y29
   refine Z8 ?_
   refine Z19 ?_
   refine KO.ldAt (i:=0) rfl rfl Tryz.isAgg160 Y21 rfl rfl rfl ?_
   refine Z1 ?_
   refine Z225 ?_
   refine Z1 ?_
   refine KO.cl (cp:=[]) rfl rfl rfl Tryz.call35 rfl (KC.famR (φ:=fun v u=>u=.tuple #[.int .i64 (btN x.1 x.2 dst),v,errV 70 (btE x.1 x.2 dst)]) (A:=fun v=>SL 44 5 msC v (btL x.1 x.2 dst)) (y:=(btH x.1 x.2 dst,btD x.1 x.2 dst)) hp hx Y11 (fun L=>(KC.perm (fun w hw=>hw.split) (KC.turn (hBatch_c w0 L p.1 p.2 79600 x.1 x.2 dst hT hM hB1 (by omega) hxB.len ⟨by have :=hxB.left;omega,by have :=hxB.left;omega⟩) (by rintro v M ⟨c,h1,rfl⟩;exact⟨_,⟨c,h1,rfl⟩,fun w hw=>((hw.pick2 (A:=hoP p.1 p.2 (btH x.1 x.2 dst)) (B:=dkP p.2 (btD x.1 x.2 dst)) (.tail .head) (.tail .head)).join).swap2⟩))))) ?_;rintro v' L' ⟨vl,rfl,rfl⟩;refine KO.fact (fun _ hs=>SL_form hs) ?_;rintro⟨av,kv,rfl,-⟩
   refine Z47 ?_
   refine Z187 ?_
   refine Z166 ?_
   refine Z21 ?_
   have e1:seW1 W (j:Int) dst=W.setH j (btH x.1 x.2 dst,btD x.1 x.2 dst):=by unfold seW1;rw[Int.toNat_natCast,eH,eD]
   rw[eS,e1,Int.toNat_natCast,eH,eD]
   refine K.conv (fun w hw=>woP_mk (W:=W.setH j (btH x.1 x.2 dst,btD x.1 x.2 dst)) ⟨.slice (some ⟨g1,0,none⟩) (ps.map (·.1)).length c1,dv,wv,ps⟩ Y15 (hw.all (M:=blk bw (.cells (woC ⟨.slice (some ⟨g1,0,none⟩) (ps.map (·.1)).length c1,dv,wv,ps⟩ W).toArray 164 (0,0))::hsS (.slice (some ⟨g1,0,none⟩) (ps.map (·.1)).length c1) (ps.map (·.1))::dsS dv (ps.map (·.2))::gsS wv W.way::fam hdP ps (W.hs.set j (btH x.1 x.2 dst,btD x.1 x.2 dst))::SL 44 5 msC (.slice av (btL x.1 x.2 dst).length kv) (btL x.1 x.2 dst)::L) Y7)) ?_
   refine Z8 ?_
   refine Z126 ?_
   by_cases he:btE x.1 x.2 dst=0
   ·rw[if_pos he,he]
    refine Z295 ?_
    refine Z273 ?_
    refine Z34 ?_
    refine Z34 ?_
    refine Z69 ?_
    refine KO.cl (cp:=[]) rfl rfl rfl Tryz.call164 rfl (KC.pk2 Y21 Y21 (wsend_c w0 _ (SL 44 5 msC (.slice av (btL x.1 x.2 dst).length kv) (btL x.1 x.2 dst)) bw hd (W.setH j (btH x.1 x.2 dst,btD x.1 x.2 dst)) dst ⟨j,btN x.1 x.2 dst,false⟩ (.slice av (btL x.1 x.2 dst).length kv) (btL x.1 x.2 dst) hT (fun w R h=>RdA.ofSL (fun _=>rfl) .head h) (fun m hm=>right_size (btL_right hxB dst m hm)) hwl ⟨hlo.1,by have :=hlo.2;unfold Wo.setH;dsimp only;omega⟩)) ?_;rintro v' L' ⟨rfl,rfl⟩
    refine Z183 ?_
    refine KQ.ret1 rfl rfl (fun w' hs'=>⟨_,_,rfl,⟨rfl,rfl⟩,hs'.all Y5⟩)
   ·rw[if_neg he]
    refine K.condT rfl (by simp[he]) ?_
    refine Z312 ?_
    refine KQ.ret1 rfl rfl (fun w' hs'=>⟨_,_,rfl,⟨rfl,rfl⟩,hs'.all Y5⟩)
end Go.Proofs.YtjhogocabcdjbabGreatDoor
/- frame.Read: the walk -/
namespace Go.Proofs.YtjhogocabcdjbabGreatDoor
open Go Go.RowKit WB
theorem atoiR_form {s:ByteArray} {u:Value} (h:atoiR s u):∃x e,u=.tuple #[.int .i64 x,e]∧((numO s=some x∧e=.nilIface)∨(numO s=none∧∃T y,e=.iface T y)):=by
 unfold atoiR at h
 cases hn:numO s with
 |some v=>rw[hn]at h;exact⟨v,_,h,.inl ⟨rfl,rfl⟩⟩
 |none=>rw[hn]at h;obtain⟨x,T,y,rfl⟩:=h;exact⟨x,_,rfl,.inr ⟨rfl,_,_,rfl⟩⟩
theorem mread2_e (w0:World) (L:List HP) (s:ByteArray) (hs:s.size≤10000) (hT0:Tab w0) (hM0:Lim w0):
 KE Tryz.prog 160 #[.string s] w0 L (fun u M=> ∃sa cp,∃xs:List Ms,∃e,u=.tuple #[.slice sa xs.length cp,e]∧M=SL 44 5 msC (.slice sa xs.length cp) xs::L∧((mrd s=some xs∧e=.nilIface)∨(mrd s=none∧xs=[]∧∃T y,e=.iface T y))):=by
 intro w hw
 refine(mread_e w0 L s (by omega) hT0 hM0 w hw).mono ?_
 rintro e w' ⟨u,M,rfl,hR,hst,hb⟩
 unfold MrR at hR
 cases hm:mrd s with
 |some xs=>
  rw[hm]at hR
  obtain⟨v,rfl,rfl⟩:=hR
  obtain⟨sa,cp,rfl,_⟩:=SL_form hst
  exact⟨_,_,rfl,⟨sa,cp,xs,_,rfl,rfl,.inl ⟨rfl,rfl⟩⟩,hst,hb⟩
 |none=>
  rw[hm]at hR
  obtain⟨rfl,rfl⟩:=hR
  exact⟨_,_,rfl,⟨none,0,[],_,rfl,rfl,.inr ⟨rfl,rfl,_,_,rfl⟩⟩,SL_nil hst,hb⟩
def FrR (L:List HP) (s:ByteArray) (u:Value) (M:List HP):Prop:=
 match frd s with
 |some (f,xs)=> ∃v,u=.tuple #[.agg (frC f v).toArray,.nilIface]∧M=SL 44 5 msC v xs::L
 |none=>u=.tuple #[.agg (frC ⟨0,0,false⟩ (.slice none 0 0)).toArray,errV 70 3]∧M=L
set_option maxRecDepth 100000 in
set_option maxHeartbeats 4000000 in
theorem fread_e (w0:World) (L:List HP) (s:ByteArray) (hs:s.size≤10000) (hT0:Tab w0) (hM0:Lim w0):KE Tryz.prog 166 #[.string s] w0 L (FrR L s):=by
 refine KE.mk (n:=77) Tryz.func166 rfl Tryz.ntmps166 (by simp) ?_
 intro w hw
 have hT:=hT0.ext (Ext.of_below hw.below)
 have hM:=hM0.ext (Ext.of_below hw.below)
 unfold FrR
 refine Z3 ?_
 refine KO.alloc rfl Tryz.zeroValue256 Y68 rfl ?_;intro b2
 refine Z21 ?_
 by_cases h4:(pcs 58 s).length=4
 case neg=>
  have e0:frd s=none:=by
   unfold frd
   split
   ·rename_i h;rw[h]at h4;exact absurd rfl h4
   ·rfl
  rw[e0]
  refine Z8 ?_
  refine KO.ce (cp:=[]) rfl rfl rfl Tryz.call133 rfl (split_e w _ s 58 (by omega) hM) ?_;rintro v' L' ⟨bq,rfl,rfl⟩
  refine Z28 ?_
  refine Z91 ?_
  refine Z2 ?_
  refine K.condT rfl Y61 ?_
  refine Z3 ?_
  refine Z69 ?_
  refine Z147 ?_
  refine Z59 ?_
  refine KQ.retCT rfl rfl Tryz.isAgg256 Y21 Y38 rfl (fun w' hs=>⟨_,_,rfl,⟨Y68,rfl⟩,hw.below_step hs.below,hs.below⟩)
 obtain⟨wa,wb,wc,wd,hws⟩:∃wa wb wc wd,pcs 58 s=[wa,wb,wc,wd]:=by
  generalize pcs 58 s=l at h4
  match l,h4 with
  |[a,b,c,d],_=>exact⟨a,b,c,d,rfl⟩
 have hwz:∀x∈[wa,wb,wc,wd],x.size≤10000:=fun x hx=>by have :=pcs_size (c:=58) (s:=s) (p:=x) (by rw[hws];exact hx);omega
 refine Z8 ?_
 refine KO.ce (cp:=[]) rfl rfl rfl Tryz.call133 rfl (split_e w _ s 58 (by omega) hM) ?_;rintro v' L' ⟨bq,rfl,rfl⟩;rw[hws]
 refine Z28 ?_
 refine Z91 ?_
 refine Z224 ?_
 refine Z273 ?_
 refine Z58 ?_
 refine KO.ce (cp:=[]) rfl rfl rfl Tryz.call136 rfl (atoi_e w _ wb (by have :=hwz wb (by simp);omega) hM) ?_;rintro v' L' ⟨hR,rfl⟩;obtain⟨x,e1,rfl,hx⟩:=atoiR_form hR
 refine Z106 ?_
 refine Z130 ?_
 refine KO.ce (cp:=[]) rfl rfl rfl Tryz.call136 rfl (atoi_e w _ wc (by have :=hwz wc (by simp);omega) hM) ?_;rintro v' L' ⟨hR,rfl⟩;obtain⟨y,e2,rfl,hy⟩:=atoiR_form hR
 refine Z106 ?_
 refine KO.idx0 (i:=3) rfl rfl Tryz.runUnderlying115 Tryz.sizeOf9 rfl (by simp) rfl ?_
 refine KO.ldE0 (i:=3) (sz:=1) (cf:=strC) (e:=wd) rfl rfl Tryz.isAgg9 Y21 (fun _=>rfl) rfl Y68 Y68 rfl ?_
 refine KO.ce (cp:=[]) rfl rfl rfl Tryz.call160 rfl (mread2_e w _ wd (by have :=hwz wd (by simp);omega) hT hM) ?_;rintro v' L' ⟨sa,cp,xs,e3,rfl,rfl,hz⟩
 refine Z106 ?_
 refine Z34 ?_
 refine KO.idx0 (i:=0) rfl rfl Tryz.runUnderlying115 Tryz.sizeOf9 rfl (by simp) rfl ?_
 refine Z208 ?_
 refine Z266 ?_
 refine Z1 ?_
 refine Z69 ?_
 refine KO.alloc rfl Tryz.zeroValue256 Y68 rfl ?_;intro b11
 refine KO.sto0 rfl rfl rfl Y68 Y38 Y68 Y21 Y68 ?_
 refine Z0 ?_
 have hsz:∀m∈xs,m.body.size≤maxLen∧m.queue.size≤maxLen:=by
  rcases hz with⟨h,_⟩|⟨_,rfl,_⟩
  ·exact fun m hm=>right_size (badI_all (mrd_some h).1 m hm)
  ·intro m hm;cases hm
 refine Z231 ?_
 refine Z327 ?_
 refine KO.ce (cp:=[]) rfl rfl rfl Tryz.call264 rfl (fw_e w _ ⟨x,y,decide (wa=⟨#[97]⟩)⟩ _ xs (fun w' hw'=>RdA.ofSL (fun _=>rfl) Y11 hw') hT hsz) ?_;rintro v' L' ⟨rfl,rfl⟩
 refine Z178 ?_
 have bad:¬(numO wb=some x∧numO wc=some y∧mrd wd=some xs∧okF ⟨x,y,decide (wa=⟨#[97]⟩)⟩ xs∧frS ⟨x,y,decide (wa=⟨#[97]⟩)⟩ xs=s)→frd s=none:=by
  intro hb
  unfold frd
  rw[hws]
  simp only[]
  split
  ·rename_i x' y' xs' h1 h2 h3
   split
   ·rename_i hh
    exfalso
    have ex:x=x':=by
     rcases hx with⟨h,_⟩|⟨h,_⟩
     ·rw[h]at h1;exact Option.some.inj h1
     ·rw[h]at h1;cases h1
    have ey:y=y':=by
     rcases hy with⟨h,_⟩|⟨h,_⟩
     ·rw[h]at h2;exact Option.some.inj h2
     ·rw[h]at h2;cases h2
    have ez:xs=xs':=by
     rcases hz with⟨h,_⟩|⟨h,_⟩
     ·rw[h]at h3;exact Option.some.inj h3
     ·rw[h]at h3;cases h3
    subst ex;subst ey;subst ez
    exact hb ⟨h1,h2,h3,hh.1,hh.2⟩
   ·rfl
  ·rfl
 rcases hx with⟨hx,rfl⟩|⟨hx,T1,y1,rfl⟩
 case inr=>
  rw[bad (fun h=>by rw[hx]at h;cases h.1)]
  refine Z8 ?_
  refine Z227 ?_
  refine Z96 ?_
  refine Z45 ?_
  refine Z96 ?_
  refine Z45 ?_
  refine Z96 ?_
  refine Z45 ?_
  refine Z131 ?_
  refine Z168 ?_
  refine Z3 ?_
  refine Z69 ?_
  refine Z147 ?_
  refine Z59 ?_
  refine KQ.retCT rfl rfl Tryz.isAgg256 Y21 Y38 rfl (fun w' hs=>⟨_,_,rfl,⟨Y68,rfl⟩,hw.below_step hs.below,hs.below⟩)
 rcases hy with⟨hy,rfl⟩|⟨hy,T1,y1,rfl⟩
 case inr=>
  rw[bad (fun h=>by rw[hy]at h;cases h.2.1)]
  refine Z360 ?_
  refine Z227 ?_
  refine Z27 ?_
  refine Z96 ?_
  refine Z45 ?_
  refine Z96 ?_
  refine Z45 ?_
  refine Z131 ?_
  refine Z168 ?_
  refine Z3 ?_
  refine Z69 ?_
  refine Z147 ?_
  refine Z59 ?_
  refine KQ.retCT rfl rfl Tryz.isAgg256 Y21 Y38 rfl (fun w' hs=>⟨_,_,rfl,⟨Y68,rfl⟩,hw.below_step hs.below,hs.below⟩)
 rcases hz with⟨hz,rfl⟩|⟨hz,_,T1,y1,rfl⟩
 case inr=>
  rw[bad (fun h=>by rw[hz]at h;cases h.2.2.1)]
  refine Z360 ?_
  refine Z299 ?_
  refine Z227 ?_
  refine Z27 ?_
  refine Z96 ?_
  refine Z45 ?_
  refine Z131 ?_
  refine Z168 ?_
  refine Z3 ?_
  refine Z69 ?_
  refine Z147 ?_
  refine Z59 ?_
  refine KQ.retCT rfl rfl Tryz.isAgg256 Y21 Y38 rfl (fun w' hs=>⟨_,_,rfl,⟨Y68,rfl⟩,hw.below_step hs.below,hs.below⟩)
 by_cases hok:okF ⟨x,y,decide (wa=⟨#[97]⟩)⟩ xs
 case neg=>
  rw[bad (fun h=>hok h.2.2.2.1),(fw_bad hok).1]
  refine Z360 ?_
  refine Z299 ?_
  refine Z299 ?_
  refine Z309 ?_
  refine Z27 ?_
  refine Z131 ?_
  refine Z168 ?_
  refine Z3 ?_
  refine Z69 ?_
  refine Z147 ?_
  refine Z59 ?_
  refine KQ.retCT rfl rfl Tryz.isAgg256 Y21 Y38 rfl (fun w' hs=>⟨_,_,rfl,⟨Y68,rfl⟩,hw.below_step hs.below,hs.below⟩)
 rw[(fw_ok hok).1,(fw_ok hok).2]
 by_cases hfs:frS ⟨x,y,decide (wa=⟨#[97]⟩)⟩ xs=s
 case neg=>
  rw[bad (fun h=>hfs h.2.2.2.2)]
  refine Z360 ?_
  refine Z299 ?_
  refine Z299 ?_
  refine Z309 ?_
  refine Z180 ?_
  refine Z264 ?_
  refine Z319 ?_
  refine K.condT rfl (by simp[hfs]) ?_
  refine Z3 ?_
  refine Z69 ?_
  refine Z147 ?_
  refine Z59 ?_
  refine KQ.retCT rfl rfl Tryz.isAgg256 Y21 Y38 rfl (fun w' hs=>⟨_,_,rfl,⟨Y68,rfl⟩,hw.below_step hs.below,hs.below⟩)
 have e0:frd s=some (⟨x,y,decide (wa=⟨#[97]⟩)⟩,xs):=by
  rw[←hfs];exact frd_write hok
 rw[e0]
 refine Z360 ?_
 refine Z299 ?_
 refine Z299 ?_
 refine Z309 ?_
 refine Z180 ?_
 refine Z264 ?_
 refine Z319 ?_
 refine K.condF rfl (by simp[hfs]) ?_
 refine Z250 ?_
 refine Z327 ?_
 refine KO.sto0 rfl rfl rfl Y68 Y38 Y68 Y11 Y68 ?_
 refine Z33 ?_
 refine KQ.retCT rfl rfl Tryz.isAgg256 Y21 Y38 rfl (fun w' hs=>⟨_,_,rfl,⟨_,Y68,rfl⟩,hw.stack (M:=[SL 44 5 msC (.slice sa xs.length cp) xs]) (hs.all Y4),hs.below⟩)
end Go.Proofs.YtjhogocabcdjbabGreatDoor
/- world: Deliver -/
namespace Go.Proofs.YtjhogocabcdjbabGreatDoor
open Go Go.RowKit WB
theorem SL_le {w0 w:World} {L:List HP} {α:Type} {E:TypeId} {sz:Nat} {cf:α→List Value} {v:Value} {xs:List α} (h:St w0 (SL E sz cf v xs::L) w):∃a cap,v=.slice a xs.length cap∧xs.length≤cap:=by
 obtain⟨a,cap,rfl,ha⟩:=SL_form h
 by_cases h0:0<xs.length
 ·obtain⟨g,rfl⟩:=ha h0
  exact⟨_,_,rfl,(SL_cap h).2⟩
 ·exact⟨_,_,rfl,by omega⟩
theorem rdA_nil {w:World}:RdA w 5 msC (.slice none 0 0) []:=⟨none,0,rfl,fun i x hx=>by simp at hx⟩
set_option maxRecDepth 100000 in
set_option maxHeartbeats 4000000 in
theorem wde_c (w0:World) (L:List HP) (bw c kb:Nat) (hd:HdT) (W:Wo) (i:Int) (hT:Tab w0) (hM:Lim w0) (hB:WoB c kb W) (hK:kb≤1000000000) (hc:c≤4000):
 KC Tryz.prog 70 #[ptrV bw,.int .i64 i] w0 (woP bw hd W::L) (fun u M=>u=errV 70 (waE W i)∧M=woP bw hd (deW W i)::L):=by
 have hwl:=hB.wl
 have hlo:=hB.lost
 unfold deW waE
 refine KC.mk (n:=91) Tryz.func70 rfl Tryz.ntmps70 (by simp) ?_
 refine Z53 ?_
 refine K.open' (fun _ h=>woP_open h) ?_
 rintro⟨V,hV,e8,e9⟩
 dsimp only
 obtain⟨hv,dv,wv,ps⟩:=V
 dsimp only at hV ⊢
 refine K.fact (fun w hw=>SL_form (hw.pick (A:=gsS wv W.way) Y11)) ?_
 rintro⟨a3,c3,rfl,hg3⟩
 refine Z231 ?_
 refine Z21 ?_
 by_cases h1:0≤i
 ·refine Z186 ?_
  refine Z32 ?_
  refine Z49 ?_
  refine KO.on rfl rfl Y69 ?_;refine KO.fo0 (off:=2) rfl Tryz.runUnderlying164 rfl rfl Tryz.sizeOf162 rfl ?_
  refine KO.on rfl rfl Y69 ?_;refine KO.ldAt (i:=2) rfl rfl Tryz.isAgg162 Y21 rfl rfl rfl ?_
  refine Z20 ?_
  refine Z184 ?_
  refine Z20 ?_
  refine Z181 ?_
  refine Z2 ?_
  refine K.condD rfl (fun h2=>?_) (fun h2=>?_)
  ·rw[if_neg (by omega),if_neg (by decide)]
   refine Z218 ?_
   refine KQ.ret1 rfl rfl (fun w' hs'=>⟨_,_,rfl,⟨rfl,rfl⟩,woP_mk ⟨hv,dv,_,ps⟩ hV (hs'.all Y30)⟩)
  ·have h3:i<(W.way.length:Int):=by omega
   rw[if_pos ⟨h1,h3⟩,if_pos rfl]
   obtain⟨j,rfl⟩:∃j:Nat,i=(j:Int):=⟨i.toNat,by omega⟩
   obtain⟨g3,rfl⟩:=hg3 (by omega)
   rw[Int.toNat_natCast]
   obtain⟨g,hg⟩:∃g,W.way[j]? =some g:=⟨_,gmAt_of (by omega)⟩
   have hgm:=hB.way g (List.mem_of_getElem? hg)
   have eg:gmAt W j=g:=by have :=gmAt_of (W:=W) (i:=j) (by omega);rw[hg]at this;exact(Option.some.inj this).symm
   rw[eg]
   refine Z6 ?_
   refine Z120 ?_
   refine Z213 ?_
   refine Z350 ?_
   refine KO.ldEN (i:=j) (sz:=2) (cf:=grC) (e:=g) rfl rfl Tryz.isAgg258 Tryz.sizeOf258 Y11 (fun _=>rfl) hg rfl ?_
   refine KO.alloc rfl Tryz.zeroValue258 Y68 rfl ?_;intro b5
   refine KO.sto0 rfl rfl rfl Y68 (by exact Tryz.sizeOf258) Y68 Y21 Y68 ?_
   refine Z0 ?_
   refine Z171 ?_
   refine Z84 ?_
   refine KO.ldAt (i:=2) rfl rfl Tryz.isAgg162 Y11 rfl rfl rfl ?_
   refine Z34 ?_
   refine Z23 ?_
   refine KO.cl (cp:=[]) rfl rfl rfl Tryz.call165 rfl (KC.pk1 Y11 (gdel_c w0 _ _ W.way j (by omega) (by omega))) ?_;rintro v25 L' rfl;refine KO.fact (fun _ hs=>SL_form hs) ?_;rintro⟨a25,k25,rfl,-⟩
   refine Z49 ?_
   refine Z84 ?_
   refine KO.stAt (i:=2) rfl rfl rfl rfl (by exact Tryz.sizeOf162) rfl Y11 rfl Y65 ?_
   refine Z0 ?_
   have hwB:WoB c kb (outW W j):=hB.out j
   have hfrd:frd (gmT g)=some (g.f,g.l):=frd_write hgm.ok
   have hgsz:(gmT g).size≤10000:=by have :=frS_size hgm.ok;unfold gmT;omega
   have hright:=badI_all (show badI g.l=none from by have :=hgm.ok;unfold okF at this;exact this.2.2.2.2.2.2)
   have hlen3:g.l.length≤3:=by have :=hgm.ok;unfold okF at this;omega
   obtain⟨t1,t2⟩:=hgm.to
   obtain⟨gt,f,l⟩:=g
   dsimp only at t1 t2 hright hlen3 hfrd ⊢
   obtain⟨m,rfl⟩:∃m:Nat,gt=(m:Int):=⟨gt.toNat,by omega⟩
   obtain⟨x,hx⟩:∃e,W.hs[m]? =some e:=⟨_,List.getElem?_eq_getElem (by omega)⟩
   obtain⟨p,hp⟩:∃e,ps[m]? =some e:=⟨_,List.getElem?_eq_getElem (by omega)⟩
   obtain⟨eH,eD⟩:=wo_at (W:=outW W j) hx
   have hxB:=hB.hs m x hx
   have hB1:=hdB79 hxB hc
   have hp1:(ps.map (·.1))[m]? =some p.1:=by rw[List.getElem?_map,hp];rfl
   refine K.fact (fun w hw=>SL_form (hw.pick (A:=hsS hv (ps.map (·.1))) Y11)) ?_
   rintro⟨a1,c1,rfl,hg1⟩
   obtain⟨g1,rfl⟩:=hg1 Y29
   refine Z231 ?_
   refine KO.fo0 (off:=1) rfl Tryz.runUnderlying258 rfl rfl Tryz.sizeOf9 rfl ?_
   refine Z118 ?_
   refine KO.ce (cp:=[]) rfl rfl rfl Tryz.call166 rfl (fread_e w0 _ (gmT ⟨m,f,l⟩) hgsz hT hM) ?_;intro v' L' hfr;unfold FrR at hfr;rw[hfrd]at hfr;obtain⟨vl,rfl,rfl⟩:=hfr;refine KO.fact (fun _ hs=>SL_le hs) ?_;rintro⟨al,cl,rfl,hcl⟩
   refine Z47 ?_
   refine KO.alloc rfl Tryz.zeroValue256 Y68 rfl ?_;intro b6
   refine KO.sto0 rfl rfl rfl Y68 Y38 Y68 Y21 Y68 ?_
   refine Z28 ?_
   refine Z97 ?_
   refine Z162 ?_
   refine Z231 ?_
   refine Z175 ?_
   refine Z290 ?_
   refine Z2 ?_
   unfold cmW
   dsimp only
   rw[Int.toNat_natCast,eH,eD]
   have hlx:(outW W j).hs.length=ps.length:=hV.symm
   cases hak:f.ack with
   |true=>
    refine Z275 ?_
    rw[if_pos rfl]
    refine Z53 ?_
    refine K.draw [.pure,.pure,.pure,.read,.pure,.read,.pure,.read,.pure,.read,.pure,.read,.write] [0,1,2,3,4,5,6,7,8,9,10,11,12] Y62 Y62 ?_
    refine Z1 ?_
    refine Z50 ?_
    refine Z256 ?_
    refine Z226 ?_
    refine Z51 ?_
    refine Z17 ?_
    refine Z79 ?_
    refine Z17 ?_
    refine KO.cl (cp:=[]) rfl rfl rfl Tryz.call100 rfl (KC.famC (φ:=fun u=>u=errV 70 (caE x.1 x.2 f.frm f.num)) (y:=(caH x.1 x.2 f.frm f.num,caD x.1 x.2 f.frm f.num)) hp hx Y11 (fun L=>KC.hd (hCame_c w0 L p.1 p.2 79600 x.1 x.2 f.frm f.num hT hM hB1 (by omega) hxB.len ⟨by have :=hxB.left;omega,by have :=hxB.left;omega⟩))) ?_;rintro v' L' ⟨rfl,rfl⟩
    refine Z248 ?_
    refine Z59 ?_
    refine KQ.ret1 rfl rfl (fun w' hs'=>⟨_,_,rfl,⟨rfl,rfl⟩,?_⟩)
    refine woP_mk (W:=(outW W j).setH m _) ⟨.slice (some ⟨g1,0,none⟩) (ps.map (·.1)).length c1,dv,.slice a25 (W.way.eraseIdx j).length k25,ps⟩ Y15 (hs'.all (M:=blk bw (.cells (woC ⟨.slice (some ⟨g1,0,none⟩) (ps.map (·.1)).length c1,dv,.slice a25 (W.way.eraseIdx j).length k25,ps⟩ W).toArray 164 (0,0))::hsS (.slice (some ⟨g1,0,none⟩) (ps.map (·.1)).length c1) (ps.map (·.1))::dsS dv (ps.map (·.2))::gsS (.slice a25 (W.way.eraseIdx j).length k25) (W.way.eraseIdx j)::fam hdP ps (W.hs.set m (caH x.1 x.2 f.frm f.num,caD x.1 x.2 f.frm f.num))::L) Y5)
   |false=>
    refine Z295 ?_
    rw[if_neg (by decide)]
    refine Z6 ?_
    refine K.draw [.pure,.pure,.pure,.read,.pure,.read,.pure,.read,.pure,.read,.pure,.read,.pure,.read,.write,.pure,.pure,.pure,.pure,.pure] [0,1,2,3,4,5,6,7,8,9,10,11,12,13,14,15,16,17,18,19] Y62 Y62 ?_
    refine Z1 ?_
    refine Z50 ?_
    refine Z256 ?_
    refine Z226 ?_
    refine Z51 ?_
    refine Z17 ?_
    refine Z79 ?_
    refine Z17 ?_
    refine Z112 ?_
    refine Z182 ?_
    refine KO.cl (cp:=[]) rfl rfl rfl Tryz.call103 rfl (KC.famA (A:=SL 44 5 msC (.slice al l.length cl) l) (φ:=fun u=>u=.tuple #[.int .i64 (arNo x.1 x.2 f.frm f.num l),errV 70 (arE x.1 x.2 f.frm f.num l)]) (y:=(arH x.1 x.2 f.frm f.num l,arD x.1 x.2 f.frm f.num l)) hp hx Y11 Y11 (fun L=>KC.hd (hArrives_c w0 L _ p.1 p.2 79600 x.1 x.2 f.frm f.num al cl l hT hM hB1 (by omega) hxB.len ⟨by have :=hxB.left;omega,by have :=hxB.left;omega⟩ (fun w R h=>RdA.ofSL (fun _=>rfl) .head h) hcl (by omega) (fun m hm=>right_size (hright m hm))))) ?_;rintro v' L' ⟨rfl,rfl⟩
    refine Z178 ?_
    refine K.conv (fun w hw=>woP_mk (W:=(outW W j).setH m (arH x.1 x.2 f.frm f.num l,arD x.1 x.2 f.frm f.num l)) ⟨.slice (some ⟨g1,0,none⟩) (ps.map (·.1)).length c1,dv,.slice a25 (W.way.eraseIdx j).length k25,ps⟩ Y15 (hw.all (M:=blk bw (.cells (woC ⟨.slice (some ⟨g1,0,none⟩) (ps.map (·.1)).length c1,dv,.slice a25 (W.way.eraseIdx j).length k25,ps⟩ W).toArray 164 (0,0))::hsS (.slice (some ⟨g1,0,none⟩) (ps.map (·.1)).length c1) (ps.map (·.1))::dsS dv (ps.map (·.2))::gsS (.slice a25 (W.way.eraseIdx j).length k25) (W.way.eraseIdx j)::fam hdP ps (W.hs.set m (arH x.1 x.2 f.frm f.num l,arD x.1 x.2 f.frm f.num l))::SL 44 5 msC (.slice al l.length cl) l::_::_::L) Y7)) ?_
    refine Z8 ?_
    refine Z244 ?_
    by_cases he:arE x.1 x.2 f.frm f.num l=0
    ·rw[if_pos he,he]
     refine Z275 ?_
     refine Z8 ?_
     refine Z51 ?_
     refine Z38 ?_
     refine Z256 ?_
     refine Z1 ?_
     refine Z69 ?_
     refine KO.cl (cp:=[]) rfl rfl rfl Tryz.call164 rfl (KC.pk2 Y21 Y21 (wsend_c w0 _ (SL 44 5 msC (.slice al l.length cl) l) bw hd ((outW W j).setH m (arH x.1 x.2 f.frm f.num l,arD x.1 x.2 f.frm f.num l)) f.frm ⟨m,arNo x.1 x.2 f.frm f.num l,true⟩ (.slice none 0 0) [] hT (fun w R h=>rdA_nil) (fun m hm=>by cases hm) hwB.wl ⟨hlo.1,by have :=hlo.2;unfold Wo.setH outW;dsimp only;omega⟩)) ?_;rintro v' L' ⟨rfl,rfl⟩
     refine Z183 ?_
     refine KQ.ret1 rfl rfl (fun w' hs'=>⟨_,_,rfl,⟨rfl,rfl⟩,hs'.all Y5⟩)
    ·rw[if_neg he]
     refine K.condF rfl (by simp[he]) ?_
     refine Z6 ?_
     refine Z105 ?_
     refine KQ.ret1 rfl rfl (fun w' hs'=>⟨_,_,rfl,⟨rfl,rfl⟩,hs'.all Y5⟩)
 ·refine Z140 ?_
  refine Z202 ?_
  refine Z103 ?_
  refine Z279 ?_
  rw[if_neg (by omega),if_neg (by decide)]
  refine K.condT rfl (by simp <;>omega) ?_
  refine Z218 ?_
  refine KQ.ret1 rfl rfl (fun w' hs'=>⟨_,_,rfl,⟨rfl,rfl⟩,woP_mk ⟨hv,dv,_,ps⟩ hV (hs'.all Y30)⟩)
end Go.Proofs.YtjhogocabcdjbabGreatDoor
/- worlds: what flows, and rounds in which nothing is lost -/
namespace WB
open Go
def gmW (g:Gm):Nat:=if g.f.ack=true then 1 else 2
def wayW (W:Wo):Nat:=(W.way.map gmW).sum
def floN:Nat→Wo→Wo
 |0,W=>W
 |f+1,W=>if W.way=[]then W else floN f (deW W 0)
def floW (W:Wo):Wo:=floN (wayW W) W
theorem wayW_put (W:Wo) (g:Gm):wayW (wPut W g)≤wayW W+gmW g:=by
 unfold wPut wayW
 split
 ·exact Nat.le_add_right _ _
 ·simp
theorem cmW_way (W:Wo) (g:Gm):wayW (cmW W g)+1≤wayW W+gmW g:=by
 have key:∀(W1:Wo) (dst:Int) (f:Fr) (l:List Ms),f.ack=true→wayW (wSend W1 dst f l)≤wayW W1+1:=fun W1 dst f l hf=>by
  unfold wSend
  split
  ·refine Nat.le_trans (wayW_put _ _) ?_
   unfold gmW;rw[if_pos hf];exact Nat.le_refl _
  ·omega
 unfold cmW
 split
 ·rename_i h
  unfold gmW;rw[if_pos h];exact Nat.le_refl _
 ·rename_i h
  have e:gmW g=2:=by unfold gmW;rw[if_neg h]
  rw[e]
  split
  ·exact Nat.add_le_add_right (key _ _ _ _ rfl) 1
  ·show wayW W+1≤_
   omega
theorem gmW_pos (g:Gm):1≤gmW g:=by unfold gmW;split<;>decide
theorem deW_way {W:Wo} (h:W.way≠[]):wayW (deW W 0)+1≤wayW W:=by
 obtain⟨g,r,hw⟩:=List.exists_cons_of_ne_nil h
 have e0:waE W 0=0:=by
  unfold waE
  rw[hw,if_pos ⟨by omega,by simp⟩]
 have e1:gmAt W 0=g:=by unfold gmAt;rw[hw];rfl
 have e2:wayW W=gmW g+wayW (outW W 0):=by unfold wayW outW;rw[hw];simp
 unfold deW
 rw[if_pos e0]
 show wayW (cmW (outW W 0) (gmAt W 0))+1≤_
 rw[e1,e2]
 have :=cmW_way (outW W 0) g
 omega
theorem floN_end:∀(f:Nat) (W:Wo),wayW W≤f→(floN f W).way=[]
 |0,W,h=>by
  cases hw:W.way with
  |nil=>exact hw
  |cons g r=>
   have :=gmW_pos g
   unfold wayW at h;rw[hw]at h;simp at h;omega
 |f+1,W,h=>by
  unfold floN
  split
  ·assumption
  ·rename_i h1
   have :=deW_way h1
   exact floN_end f _ (by omega)
theorem floN_more:∀(f:Nat) (W:Wo) (d:Nat),wayW W≤f→floN (f+d) W=floN f W
 |0,W,d,h=>by
  have h1:W.way=[]:=floN_end 0 W h
  cases d with
  |zero=>rfl
  |succ d=>rw[Nat.zero_add];unfold floN;rw[if_pos h1]
 |f+1,W,d,h=>by
  rw[show f+1+d=f+d+1 by omega]
  unfold floN
  split
  ·rfl
  ·rename_i h1
   have :=deW_way h1
   exact floN_more f _ d (by omega)
theorem floW_step {W:Wo} (h:W.way≠[]):floW W=floW (deW W 0):=by
 have h1:=deW_way h
 unfold floW
 obtain⟨d,hd⟩:∃d,wayW W=wayW (deW W 0)+d+1:=⟨wayW W-wayW (deW W 0)-1,by omega⟩
 rw[hd]
 rw[show floN (wayW (deW W 0)+d+1) W=floN (wayW (deW W 0)+d) (deW W 0)from by conv=>lhs;unfold floN;rw[if_neg h]]
 exact floN_more _ _ d (Nat.le_refl _)
theorem floW_nil {W:Wo} (h:W.way=[]):floW W=W:=by
 unfold floW
 have :wayW W=0:=by unfold wayW;rw[h];rfl
 rw[this];rfl
theorem wayW_le {c kb:Nat} {W:Wo} (h:WoB c kb W):wayW W≤200:=by
 have key:∀l:List Gm,(l.map gmW).sum≤2*l.length:=by
  intro l
  induction l with
  |nil=>simp
  |cons g l ih=>have :gmW g≤2:=by unfold gmW;split<;>decide
                simp;omega
 have :=key W.way
 have :=h.wl
 unfold wayW;omega
theorem WoB.flowN {c:Nat}:∀(f:Nat) (kb:Nat) (W:Wo),WoB c kb W→WoB c (kb+2*f) (floN f W)
 |0,_,_,h=>h
 |f+1,kb,W,h=>by
  unfold floN
  split
  ·exact h.mono (Nat.le_refl _) (by omega)
  ·have :=WoB.flowN f (kb+2) _ (h.de 0)
   exact this.mono (Nat.le_refl _) (by omega)
theorem WoB.flow {c kb:Nat} {W:Wo} (h:WoB c kb W):WoB c (kb+400) (floW W):=(WoB.flowN _ kb W h).mono (Nat.le_refl _) (by have :=wayW_le h;omega)
theorem setH_n (W:Wo) (k:Nat) (x:Ho×Dk):(W.setH k x).hs.length=W.hs.length:=by unfold Wo.setH;simp
theorem wPut_hs (W:Wo) (g:Gm):(wPut W g).hs=W.hs:=by unfold wPut;split<;>rfl
theorem wSend_hs (W:Wo) (dst:Int) (f:Fr) (l:List Ms):(wSend W dst f l).hs=W.hs:=by
 unfold wSend;split
 ·exact wPut_hs _ _
 ·rfl
theorem cmW_n (W:Wo) (g:Gm):(cmW W g).hs.length=W.hs.length:=by
 unfold cmW
 split
 ·exact setH_n _ _ _
 ·split
  ·rw[wSend_hs];exact setH_n _ _ _
  ·exact setH_n _ _ _
theorem deW_n (W:Wo) (i:Int):(deW W i).hs.length=W.hs.length:=by
 unfold deW;split
 ·exact cmW_n _ _
 ·rfl
theorem floN_n:∀(f:Nat) (W:Wo),(floN f W).hs.length=W.hs.length
 |0,_=>rfl
 |f+1,W=>by
  unfold floN;split
  ·rfl
  ·rw[floN_n f,deW_n]
theorem floW_n (W:Wo):(floW W).hs.length=W.hs.length:=floN_n _ W
theorem seW_n (W:Wo) (k dst:Int):(seW W k dst).hs.length=W.hs.length:=by
 unfold seW
 split
 ·split
  ·rw[wSend_hs];unfold seW1;exact setH_n _ _ _
  ·unfold seW1;exact setH_n _ _ _
 ·rfl
def clA (W:Wo) (k:Nat):Wo:=if(W.H k).down=true then reH (W.setH k (W.H k,dkCut (W.D k) (-1))) k else W.setH k (W.H k,dkCut (W.D k) (-1))
def clP (W:Wo) (k dst:Nat):Wo:=if seE W k dst=0 then floW (seW W k dst)else seW W k dst
def clU (W:Wo):Wo:=floW ((List.range W.hs.length).foldl clA W)
def clQ (n:Nat) (W:Wo) (k:Nat):Wo:=(List.range n).foldl (fun W dst=>clP W k dst) W
def clR (W:Wo):Wo:=(List.range W.hs.length).foldl (clQ W.hs.length) (clU W)
def calm:Nat→Wo→Wo
 |0,W=>W
 |r+1,W=>calm r (clR W)
theorem clA_n (W:Wo) (k:Nat):(clA W k).hs.length=W.hs.length:=by
 unfold clA;split
 ·unfold reH;rw[setH_n,setH_n]
 ·rw[setH_n]
theorem clP_n (W:Wo) (k dst:Nat):(clP W k dst).hs.length=W.hs.length:=by
 unfold clP;split
 ·rw[floW_n,seW_n]
 ·rw[seW_n]
theorem fold_n {α:Type} {f:Wo→α→Wo} (h:∀W a,(f W a).hs.length=W.hs.length):∀(l:List α) (W:Wo),(l.foldl f W).hs.length=W.hs.length
 |[],_=>rfl
 |a::l,W=>by rw[List.foldl_cons,fold_n h l,h]
theorem clQ_n (n:Nat) (W:Wo) (k:Nat):(clQ n W k).hs.length=W.hs.length:=fold_n (fun W a=>clP_n W k a) _ W
theorem clU_n (W:Wo):(clU W).hs.length=W.hs.length:=by unfold clU;rw[floW_n,fold_n clA_n]
theorem clR_n (W:Wo):(clR W).hs.length=W.hs.length:=by unfold clR;rw[fold_n (fun W a=>clQ_n _ W a),clU_n]
theorem WoB.clA {c kb:Nat} {W:Wo} (h:WoB c kb W) (hK:kb≤1000000000000) {k:Nat} (hk:k<W.hs.length):WoB c kb (clA W k):=by
 obtain⟨x,hx,e1,e2⟩:=wo_get hk
 have hn:=h.n1
 have h1:=h.set (((h.hs _ x hx).cut (n:= -1) (by omega)))
 unfold WB.clA
 rw[e1,e2]
 split
 ·have hx2:(W.setH k (x.1,dkCut x.2 (-1))).hs[k]? =some (x.1,dkCut x.2 (-1)):=List.getElem?_set_self hk
  obtain⟨y,hy,f1,f2⟩:=wo_get (W:=W.setH k (x.1,dkCut x.2 (-1))) (j:=k) (by rw[setH_n];exact hk)
  rw[hx2]at hy
  simp only[Option.some.injEq]at hy
  subst hy
  unfold reH
  rw[f2]
  exact h1.set (((h1.hs _ _ hx2).cut (n:= -1) (by omega)).open' (by omega) hK)
 ·exact h1
theorem WoB.clP {c kb:Nat} {W:Wo} (h:WoB c kb W) (k dst:Nat):WoB c (kb+402) (clP W k dst):=by
 unfold WB.clP
 split
 ·exact(h.se k dst).flow
 ·exact(h.se k dst).mono (Nat.le_refl _) (by omega)
theorem foldB {α:Type} {f:Wo→α→Wo} {c b:Nat} (h:∀W a kb,WoB c kb W→WoB c (kb+b) (f W a)):∀(l:List α) (W:Wo) (kb:Nat),WoB c kb W→WoB c (kb+b *l.length) (l.foldl f W)
 |[],_,_,hw=>hw
 |a::l,W,kb,hw=>by
  have :=foldB h l _ _ (h W a kb hw)
  rw[List.foldl_cons]
  refine this.mono (Nat.le_refl _) ?_
  rw[List.length_cons,Nat.mul_succ];omega
theorem WoB.clQ {c kb n:Nat} {W:Wo} (h:WoB c kb W) (k:Nat) (hn:n≤4):WoB c (kb+1608) (clQ n W k):=
 (foldB (fun W a kb hw=>hw.clP k a) (List.range n) W kb h).mono (Nat.le_refl _) Y27
theorem WoB.clAs {c kb:Nat} (hK:kb≤1000000000000):∀(l:List Nat) (W:Wo),WoB c kb W→(∀k∈l,k<W.hs.length)→WoB c kb (l.foldl WB.clA W)
 |[],_,h,_=>h
 |k::l,W,h,hl=>WoB.clAs hK l _ (h.clA hK (hl k (by simp))) fun j hj=>by rw[clA_n];exact hl j (by simp[hj])
theorem WoB.clU {c kb:Nat} {W:Wo} (h:WoB c kb W) (hK:kb≤1000000000000):WoB c (kb+400) (clU W):=(WoB.clAs hK _ W h fun k hk=>List.mem_range.1 hk).flow
theorem WoB.clR {c kb:Nat} {W:Wo} (h:WoB c kb W) (hK:kb≤1000000000000):WoB c (kb+10000) (clR W):=by
 have hn:=h.n1
 have :=foldB (fun W' a kb' hw=>hw.clQ a hn.2) (List.range W.hs.length) _ _ (h.clU hK)
 refine this.mono (Nat.le_refl _) ?_
 rw[List.length_range];omega
end WB
/- world: House, flows, Calm -/
namespace Go.Proofs.YtjhogocabcdjbabGreatDoor
open Go Go.RowKit WB
theorem whouse_e (w0:World) (M:List HP) (bw:Nat) (V:WoV) (W:Wo) (k:Nat) (p:Nat×Nat) (hV:V.ps.length=W.hs.length) (hp:V.ps[k]? =some p):
 KE Tryz.prog 26 #[ptrV bw,.int .i64 (k:Nat)] w0 (woX bw V W M) (fun u N=>u=.tuple #[ptrV p.1,.nilIface]∧N=woX bw V W M):=by
 have hk:=(List.getElem?_eq_some_iff.1 hp).1
 have his:W.is (k:Int)=true:=by unfold Wo.is;simp;omega
 obtain⟨hv,dv,wv,ps⟩:=V
 dsimp only at hV hp hk
 have hp1:(ps.map (·.1))[k]? =some p.1:=by rw[List.getElem?_map,hp];rfl
 refine KE.mk (n:=18) Tryz.func26 rfl Tryz.ntmps26 (by simp) ?_
 intro w hw
 obtain⟨a,cap,e1,ha⟩:=SL_form (hw.pick (A:=hsS hv (ps.map (·.1))) (.tail .head))
 obtain⟨g,rfl⟩:=ha Y29
 subst e1
 have hc0:w.cell? ⟨bw,0,none⟩=some (.slice (some ⟨g,0,none⟩) (ps.map (·.1)).length cap):=by rw[World.cell?,hw.look.2];rfl
 refine Z230 ?_
 refine Z28 ?_
 refine Z1 ?_
 refine KO.ce (cp:=[]) rfl rfl rfl Tryz.call78 rfl (((wright_e w0 _ M bw _ W (k:Int) .head).only (fun w h=>woP_mk (hd:=(.slice (some ⟨g,0,none⟩) (ps.map (·.1)).length cap,dv,none)) ⟨_,dv,wv,ps⟩ hV h rfl ⟨rfl,fun l hl=>by cases hl⟩)).rebase hw) ?_;rintro v' L' ⟨rfl,rfl⟩;rw[his]
 refine Z322 ?_
 refine Z8 ?_
 refine Z19 ?_
 refine KO.ld0 rfl rfl Tryz.isAgg160 hc0 rfl ?_
 refine Z1 ?_
 refine KO.idx0 (i:=k) rfl rfl Tryz.runUnderlying160 Tryz.sizeOf29 rfl Y29 rfl ?_
 refine KO.ldE0b hw (i:=k) (sz:=1) (cf:=pwC) (e:=p.1) rfl rfl Tryz.isAgg29 (.tail .head) (fun _=>rfl) hp1 (by simp) Y68 rfl ?_
 refine Z192 ?_
 refine KQ.ret2 rfl rfl rfl (fun w' hs=>⟨_,_,rfl,⟨rfl,rfl⟩,hw.below_step hs.below,hs.below⟩)
set_option maxRecDepth 100000 in
theorem wflows_c (w0:World) (L:List HP) (bw c kb:Nat) (hd:HdT) (W:Wo) (hT:Tab w0) (hM:Lim w0) (hB:WoB c kb W) (hK:kb≤900000000) (hc:c≤4000):
 KC Tryz.prog 77 #[ptrV bw] w0 (woP bw hd W::L) (fun u M=>u=.tuple #[]∧M=woP bw hd (floW W)::L):=by
 have hwl:=wayW_le hB
 refine KC.mk (n:=10) Tryz.func77 rfl Tryz.ntmps77 (by simp) ?_
 repeat((with_reducible refine K.block ?_))
 refine K.loop (fun q:Wo×Nat=>[(0,ptrV bw)]) (fun q=>woP bw hd q.1::L) (fun q=>WoB c (kb+2*q.2) q.1∧wayW q.1+q.2≤wayW W∧floW q.1=floW W) (fun q=>wayW q.1) (W,0) ⟨hB,by dsimp only;omega,rfl⟩ ⟨rfl,trivial⟩ (fun _ h=>h) ?_
 rintro⟨W1,m⟩ ⟨hB1,hm,hf⟩
 dsimp only at hB1 hm hf ⊢
 have hwl1:=hB1.wl
 refine Z53 ?_
 refine K.open' (fun _ h=>woP_open h) ?_
 rintro⟨V,hV,e8,e9⟩
 dsimp only
 obtain⟨hv,dv,wv,ps⟩:=V
 dsimp only at hV ⊢
 refine K.fact (fun w hw=>SL_form (hw.pick (A:=gsS wv W1.way) Y11)) ?_
 rintro⟨a3,c3,rfl,hg3⟩
 refine Z120 ?_
 refine Z213 ?_
 refine Z184 ?_
 refine Z170 ?_
 refine Z2 ?_
 refine K.condD rfl (fun h1=>?_) (fun h1=>?_)
 ·have hne:W1.way≠[]:=by rintro e;rw[e]at h1;simp at h1
  have hs:=deW_way hne
  repeat(first|(with_reducible refine KQ.next ?_)|(with_reducible refine K.skip ?_)|(with_reducible refine K.block ?_))
  refine K.conv (fun w hw=>woP_mk (W:=W1) ⟨hv,dv,.slice a3 W1.way.length c3,ps⟩ hV hw) ?_
  refine Z8 ?_
  refine KO.cl (cp:=[]) rfl rfl rfl Tryz.call70 rfl (KC.pk1 Y21 (wde_c w0 _ bw c (kb+2*m) hd W1 0 hT hM hB1 (by omega) hc)) ?_;rintro v' L' ⟨rfl,rfl⟩
  refine Z44 ?_
  refine KQ.round (deW W1 0,m+1) ⟨(hB1.de 0).mono (Nat.le_refl _) Y47,by dsimp only;omega,by rw[←hf];exact(floW_step hne).symm⟩ Y47 ⟨rfl,trivial⟩ (fun _ h=>h)
 ·have hn:W1.way=[]:=by
   cases hh:W1.way with
   |nil=>rfl
   |cons a l=>rw[hh]at h1;simp at h1
  refine Z134 ?_
  refine KQ.end0 rfl (fun w' hs'=>⟨_,_,rfl,⟨rfl,rfl⟩,?_⟩)
  rw[←hf,floW_nil hn]
  exact woP_mk ⟨hv,dv,_,ps⟩ hV hs'
set_option maxRecDepth 100000 in
theorem clA_down0 {W:Wo} {k:Nat} (i:Nat) (hi:i≠k):((clA W k).H i).down=(W.H i).down:=by
 have key:∀(W:Wo) x,((W.setH k x).H i)=W.H i:=fun W x=>by
  unfold Wo.H Wo.at' Wo.setH
  dsimp only
  rw[List.getD_eq_getElem?_getD,List.getD_eq_getElem?_getD,List.getElem?_set,if_neg (fun e=>hi e.symm)]
 unfold clA
 split
 ·unfold reH
  rw[key,key]
 ·rw[key]
theorem clAs_down0:∀(l:List Nat) (W:Wo) (i:Nat),i∉l→((l.foldl clA W).H i).down=(W.H i).down
 |[],_,_,_=>rfl
 |k::l,W,i,h=>by
  rw[List.mem_cons,not_or]at h
  rw[List.foldl_cons,clAs_down0 l _ i h.2,clA_down0 i h.1]
theorem wcalm_c (w0:World) (L:List HP) (bw c kb r:Nat) (hd:HdT) (W:Wo) (hN:hd.2.2=none∨(r=1∧∀k,(W.H k).down=false)) (hT:Tab w0) (hM:Lim w0) (hB:WoB c kb W) (hK:kb+10000*r≤800000000) (hr:r≤1000) (hc:c≤4000):
 KC Tryz.prog 25 #[ptrV bw,.int .i64 (r:Nat)] w0 (woP bw hd W::L) (fun u M=>u=.tuple #[]∧M=woP bw hd (calm r W)::L):=by
 refine KC.mk (n:=63) Tryz.func25 rfl Tryz.ntmps25 (by simp) ?_
 repeat((with_reducible refine K.block ?_))
 refine K.loop (fun q:Wo×Nat=>[(0,ptrV bw),(1,.int .i64 ((r-q.2:Nat):Int))]) (fun q=>woP bw hd q.1::L) (fun q=>WoB c (kb+10000*q.2) q.1∧q.2≤r∧calm (r-q.2) q.1=calm r W∧(q.2=0→q.1=W)) (fun q=>r-q.2) (W,0) ⟨hB,by dsimp only;omega,rfl,fun _=>rfl⟩ ⟨rfl,rfl,trivial⟩ (fun _ h=>h) ?_
 rintro⟨W1,m⟩ ⟨hB1,hm,hf,hW1⟩
 dsimp only at hB1 hm hf hW1 ⊢
 have hn4:=hB1.n1
 refine Z117 ?_
 refine Z170 ?_
 refine Z2 ?_
 refine K.condD rfl (fun h1=>?_) (fun h1=>?_)
 ·have hmr:m<r:=by omega
  refine Z10 ?_
  refine K.open' (fun _ h=>woP_open h) ?_
  rintro⟨V,hV,e8,e9⟩
  dsimp only
  obtain⟨hv,dv,wv,ps⟩:=V
  dsimp only at hV e8 e9 ⊢
  refine K.fact (fun w hw=>SL_form (hw.pick (A:=hsS hv (ps.map (·.1))) Y11)) ?_
  rintro⟨a1,c1,rfl,hg1⟩
  obtain⟨g1,rfl⟩:=hg1 Y29
  have hnl:(ps.map (·.1)).length=W1.hs.length:=by rw[List.length_map,hV]
  rw[hnl]at e8 ⊢
  refine Z8 ?_
  refine Z19 ?_
  refine Z165 ?_
  refine Z119 ?_
  refine K.conv (fun w hw=>woP_mk (hd:=hd) (W:=W1) ⟨.slice (some ⟨g1,0,none⟩) W1.hs.length c1,dv,wv,ps⟩ hV hw) ?_
  clear hV hnl hg1
  refine K.loop (fun k:Nat=>[(0,ptrV bw),(1,.int .i64 ((r-m:Nat):Int)),(15,.slice (some ⟨g1,0,none⟩) W1.hs.length c1),(16,.int .i64 (W1.hs.length:Nat)),(17,.int .i64 (k:Nat))]) (fun k=>woP bw hd ((List.range k).foldl clA W1)::L) (fun k=>k≤W1.hs.length) (fun k=>W1.hs.length-k) 0 (Nat.zero_le _) ⟨rfl,rfl,rfl,rfl,rfl,trivial⟩ (fun _ h=>h) ?_
  intro k hk
  try dsimp only at hk ⊢
  have hBk:WoB c (kb+10000*m) ((List.range k).foldl clA W1):=WoB.clAs (by omega) _ W1 hB1 (fun j hj=>by have :=List.mem_range.1 hj;omega)
  have hnk:((List.range k).foldl clA W1).hs.length=W1.hs.length:=fold_n clA_n _ _
  have hstep:(List.range (k+1)).foldl clA W1=clA ((List.range k).foldl clA W1) k:=by rw[List.range_succ,List.foldl_append];rfl
  generalize hWk:(List.range k).foldl clA W1=Wk at hBk hnk hstep ⊢
  refine Z111 ?_
  refine K.condD rfl (fun h2=>?_) (fun h2=>?_)
  ·have hkn:k<Wk.hs.length:=by omega
   have hnn:=hnk
   refine Z10 ?_
   refine K.open' (fun _ h=>woP_open h) ?_
   rintro⟨V,hV,f8,f9⟩
   dsimp only
   obtain⟨hv',dv',wv',ps'⟩:=V
   dsimp only at hV f8 f9 ⊢
   rw[←e8]at f8
   subst f8
   obtain⟨x,hx⟩:∃e,Wk.hs[k]? =some e:=⟨_,List.getElem?_eq_getElem hkn⟩
   obtain⟨p,hp⟩:∃e,ps'[k]? =some e:=⟨_,List.getElem?_eq_getElem (by omega)⟩
   obtain⟨eH,eD⟩:=wo_at hx
   have hxB:=hBk.hs k x hx
   have hp1:(ps'.map (·.1))[k]? =some p.1:=by rw[List.getElem?_map,hp];rfl
   have hp2:(ps'.map (·.2))[k]? =some p.2:=by rw[List.getElem?_map,hp];rfl
   refine K.fact (fun w hw=>SL_form (hw.pick (A:=dsS dv' (ps'.map (·.2))) Y11)) ?_
   rintro⟨a2,c2,rfl,hg2⟩
   obtain⟨g2,rfl⟩:=hg2 Y29
   refine Z8 ?_
   refine Z212 ?_
   refine Z7 ?_
   refine Z28 ?_
   refine Z294 ?_
   refine Z1 ?_
   refine KO.idx0 (i:=k) rfl rfl Tryz.runUnderlying161 Tryz.sizeOf25 rfl Y29 rfl ?_
   refine KO.ldE0 (i:=k) (sz:=1) (cf:=pwC) (e:=p.2) rfl rfl Tryz.isAgg25 Y11 (fun _=>rfl) hp2 (by simp) Y68 rfl ?_
   refine KO.cl (cp:=[]) rfl rfl rfl Tryz.call18 rfl (KC.famC (φ:=fun u=>u=.tuple #[]) hp hx Y11 (fun L=>KC.hdD (fun L=>cut_c w0 L p.2 x.2 (-1) hxB.len))) ?_;rintro v' L' ⟨rfl,rfl⟩
   refine Z0 ?_
   have hx2:(Wk.hs.set k (x.1,dkCut x.2 (-1)))[k]? =some (x.1,dkCut x.2 (-1)):=List.getElem?_set_self hkn
   refine Z8 ?_
   refine KO.ce (cp:=[]) rfl rfl rfl Tryz.call76 rfl (KE.famE0 (φ:=fun u=>u=.bool x.1.down) hp hx2 Y21 (fun L=>KE.perm (fun w hw=>hw.split) (KE.turn (hdown_e w0 _ _ p.1 p.2 x.1 .head) Y13))) ?_;rintro v' L' ⟨rfl,rfl⟩
   refine Z2 ?_
   have e1:Wk.setH k (Wk.H k,dkCut (Wk.D k) (-1))=Wk.setH k (x.1,dkCut x.2 (-1)):=by rw[eH,eD]
   have hB1':WoB c (kb+10000*m) (Wk.setH k (x.1,dkCut x.2 (-1))):=hBk.set (hxB.cut (by omega))
   refine K.conv (fun w hw=>woP_mk (hd:=hd) (W:=Wk.setH k (x.1,dkCut x.2 (-1))) ⟨.slice (some ⟨g1,0,none⟩) W1.hs.length c1,.slice (some ⟨g2,0,none⟩) (ps'.map (·.2)).length c2,wv',ps'⟩ Y15 (hw.all (M:=blk bw (.cells (woC ⟨.slice (some ⟨g1,0,none⟩) W1.hs.length c1,.slice (some ⟨g2,0,none⟩) (ps'.map (·.2)).length c2,wv',ps'⟩ Wk).toArray 164 (0,0))::hsS (.slice (some ⟨g1,0,none⟩) W1.hs.length c1) (ps'.map (·.1))::dsS (.slice (some ⟨g2,0,none⟩) (ps'.map (·.2)).length c2) (ps'.map (·.2))::gsS wv' Wk.way::fam hdP ps' (Wk.hs.set k (x.1,dkCut x.2 (-1)))::L) Y7)) ?_
   cases hdn:x.1.down with
   |true=>
    have eC:clA Wk k=wRe (Wk.setH k (x.1,dkCut x.2 (-1))) (k:Int):=by
     unfold clA wRe
     rw[if_pos (by rw[eH];exact hdn),e1,if_pos (by unfold Wo.is;rw[setH_n];simp;omega),Int.toNat_natCast]
    have hN0:hd.2.2=none:=by
     rcases hN with h|⟨h1,h2⟩
     ·exact h
     ·exfalso
      have h3:=clAs_down0 (List.range k) W1 k (by simp)
      rw[hWk,eH,hdn,hW1 (by omega),h2 k]at h3
      cases h3
    refine Z275 ?_
    refine Z72 ?_
    refine KO.cl (cp:=[]) rfl rfl rfl Tryz.call74 rfl (KC.pk1 Y21 (wre_c w0 _ bw c (kb+10000*m) hd hN0 _ (k:Int) hT hM hB1' (by omega))) ?_;rintro v' L' ⟨rfl,rfl⟩
    refine Z132 ?_
    refine KQ.round (k+1) (by omega) (by omega) ⟨rfl,rfl,rfl,rfl,rfl,trivial⟩ (fun _ h=>?_)
    rw[hstep,eC]
    exact h
   |false=>
    have eC:clA Wk k=Wk.setH k (x.1,dkCut x.2 (-1)):=by
     unfold clA
     rw[if_neg (by rw[eH,hdn];decide),e1]
    refine Z295 ?_
    refine Z191 ?_
    refine KQ.round (k+1) (by omega) (by omega) ⟨rfl,rfl,rfl,rfl,rfl,trivial⟩ (fun _ h=>?_)
    rw[hstep,eC]
    exact h
  ·have hkn:k=W1.hs.length:=by omega
   subst hkn
   refine Z9 ?_
   have hBf:WoB c (kb+10000*m+400) (floW Wk):=hBk.flow
   refine Z8 ?_
   refine KO.cl (cp:=[]) rfl rfl rfl Tryz.call77 rfl (KC.pk1 Y21 (wflows_c w0 _ bw c (kb+10000*m) hd Wk hT hM hBk (by omega) hc)) ?_;rintro v' L' ⟨rfl,rfl⟩
   refine Z0 ?_
   have eU:floW Wk=clU W1:=by unfold clU;rw[hWk]
   rw[eU]
   have hBu:WoB c (kb+10000*m+400) (clU W1):=hB1.clU (by omega)
   have hnu:=clU_n W1
   have eR:clR W1=(List.range W1.hs.length).foldl (clQ W1.hs.length) (clU W1):=rfl
   generalize clU W1=U at hBu hnu eR ⊢
   refine K.open' (fun _ h=>woP_open h) ?_
   rintro⟨V,hV,f8,f9⟩
   dsimp only
   obtain⟨hv',dv',wv',ps'⟩:=V
   dsimp only at hV f8 f9 ⊢
   rw[←e8]at f8
   subst f8
   refine Z8 ?_
   refine Z19 ?_
   refine Z165 ?_
   refine Z119 ?_
   refine K.conv (fun w hw=>woP_mk (hd:=hd) (W:=U) ⟨.slice (some ⟨g1,0,none⟩) W1.hs.length c1,dv',wv',ps'⟩ hV hw) ?_
   clear hV f9
   refine K.loop (fun k:Nat=>[(0,ptrV bw),(1,.int .i64 ((r-m:Nat):Int)),(42,.int .i64 (W1.hs.length:Nat)),(43,.int .i64 (k:Nat))]) (fun k=>woP bw hd ((List.range k).foldl (clQ W1.hs.length) U)::L) (fun k=>k≤W1.hs.length) (fun k=>W1.hs.length-k) 0 (Nat.zero_le _) ⟨rfl,rfl,rfl,rfl,trivial⟩ (fun _ h=>h) ?_
   intro k hk
   try dsimp only at hk ⊢
   have hBk2:WoB c (kb+10000*m+400+1608*k) ((List.range k).foldl (clQ W1.hs.length) U):=(foldB (fun W' a kb' hw=>hw.clQ a hn4.2) (List.range k) _ _ hBu).mono (Nat.le_refl _) Y27
   have hnk2:((List.range k).foldl (clQ W1.hs.length) U).hs.length=W1.hs.length:=by rw[fold_n (fun W a=>clQ_n _ W a),hnu]
   have hstep2:(List.range (k+1)).foldl (clQ W1.hs.length) U=clQ W1.hs.length ((List.range k).foldl (clQ W1.hs.length) U) k:=by rw[List.range_succ,List.foldl_append];rfl
   generalize hY:(List.range k).foldl (clQ W1.hs.length) U=Y at hBk2 hnk2 hstep2 ⊢
   refine Z111 ?_
   refine K.condD rfl (fun h3=>?_) (fun h3=>?_)
   ·have hkn:k<W1.hs.length:=by omega
    refine Z229 ?_
    refine Z21 ?_
    refine K.open' (fun _ h=>woP_open h) ?_
    rintro⟨V,hV,f8,f9⟩
    dsimp only
    obtain⟨hv',dv',wv',ps'⟩:=V
    dsimp only at hV f8 f9 ⊢
    rw[←e8]at f8
    subst f8
    refine Z8 ?_
    refine Z19 ?_
    refine Z165 ?_
    refine Z119 ?_
    refine K.conv (fun w hw=>woP_mk (hd:=hd) (W:=Y) ⟨.slice (some ⟨g1,0,none⟩) W1.hs.length c1,dv',wv',ps'⟩ hV hw) ?_
    clear hV f9
    refine K.loop (fun j:Nat=>[(0,ptrV bw),(1,.int .i64 ((r-m:Nat):Int)),(6,.int .i64 (k:Nat)),(42,.int .i64 (W1.hs.length:Nat)),(43,.int .i64 (k:Nat)),(50,.int .i64 (W1.hs.length:Nat)),(51,.int .i64 (j:Nat))]) (fun j=>woP bw hd ((List.range j).foldl (fun W dst=>clP W k dst) Y)::L) (fun j=>j≤W1.hs.length) (fun j=>W1.hs.length-j) 0 (Nat.zero_le _) ⟨rfl,rfl,rfl,rfl,rfl,rfl,rfl,trivial⟩ (fun _ h=>h) ?_
    intro j hj
    try dsimp only at hj ⊢
    have hBj:WoB c (kb+10000*m+400+1608*k+402*j) ((List.range j).foldl (fun W dst=>clP W k dst) Y):=(foldB (fun W' a kb' hw=>hw.clP k a) (List.range j) _ _ hBk2).mono (Nat.le_refl _) Y27
    have hstep3:(List.range (j+1)).foldl (fun W dst=>clP W k dst) Y=clP ((List.range j).foldl (fun W dst=>clP W k dst) Y) k j:=by rw[List.range_succ,List.foldl_append];rfl
    generalize hZ:(List.range j).foldl (fun W dst=>clP W k dst) Y=Z at hBj hstep3 ⊢
    refine Z111 ?_
    refine K.condD rfl (fun h4=>?_) (fun h4=>?_)
    ·have hjn:j<W1.hs.length:=by omega
     refine Z229 ?_
     refine Z28 ?_
     refine Z34 ?_
     refine KO.cl (cp:=[]) rfl rfl rfl Tryz.call69 rfl (KC.pk1 Y21 (wse_c w0 _ bw c (kb+10000*m+400+1608*k+402*j) hd Z (k:Int) (j:Int) hT hM hBj (by omega) hc)) ?_;rintro v' L' ⟨rfl,rfl⟩
     refine Z244 ?_
     have hBs:=hBj.se (k:Int) (j:Int)
     by_cases he:seE Z (k:Int) (j:Int)=0
     ·rw[he]
      refine Z275 ?_
      refine Z8 ?_
      refine KO.cl (cp:=[]) rfl rfl rfl Tryz.call77 rfl (KC.pk1 Y21 (wflows_c w0 _ bw c _ hd _ hT hM hBs (by omega) hc)) ?_;rintro v' L' ⟨rfl,rfl⟩
      refine Z132 ?_
      refine KQ.round (j+1) (by omega) (by omega) ⟨rfl,rfl,rfl,rfl,rfl,rfl,rfl,trivial⟩ (fun _ h=>?_)
      rw[hstep3]
      unfold clP
      rw[if_pos he]
      exact h
     ·refine K.condF rfl (by simp[he]) ?_
      refine Z191 ?_
      refine KQ.round (j+1) (by omega) (by omega) ⟨rfl,rfl,rfl,rfl,rfl,rfl,rfl,trivial⟩ (fun _ h=>?_)
      rw[hstep3]
      unfold clP
      rw[if_neg he]
      exact h
    ·have hjn:j=W1.hs.length:=by omega
     subst hjn
     refine Z92 ?_
     refine Z76 ?_
     refine KQ.round (k+1) (by omega) (by omega) ⟨rfl,rfl,rfl,rfl,trivial⟩ (fun _ h=>?_)
     rw[hstep2]
     unfold clQ
     rw[hZ]
     exact h
   ·have hkn:k=W1.hs.length:=by omega
    subst hkn
    refine Z92 ?_
    refine Z8 ?_
    refine Z201 ?_
    refine Z144 ?_
    refine KQ.round (clR W1,m+1) ⟨(hB1.clR (by omega)).mono (Nat.le_refl _) Y47,by dsimp only;omega,?_,fun h=>absurd h (Nat.succ_ne_zero m)⟩ Y47 ⟨rfl,?_,trivial⟩ (fun _ h=>?_)
    ·dsimp only
     rw[←hf,show r-m=(r-(m+1))+1 by omega]
     rfl
    ·dsimp only
     rw[show((r-(m+1):Nat):Int)=((r-m:Nat):Int)-1 by omega]
     rfl
    ·dsimp only
     rw[eR,hY]
     exact h
 ·have hmr:m=r:=by omega
  subst hmr
  refine Z134 ?_
  refine KQ.end0 rfl (fun w' hs'=>⟨_,_,rfl,⟨rfl,rfl⟩,?_⟩)
  rw[←hf,Nat.sub_self]
  exact hs'
end Go.Proofs.YtjhogocabcdjbabGreatDoor
/- draws: pairs that go round in three -/
namespace WB
open Go Go.RowKit
variable {P:Program} {ops:Array Oper} {Q:Exit→Act→World→Prop}
def bad3 (ops:Array Oper) (E:List (Nat×Nat)):Bool:=
 let anc:=mkAnc ops.toList []
 badE ops E||(ancOk ops anc&&E.any fun q=>E.any fun q'=>via anc q.2 q'.2 q'&&E.any (via anc q'.2 q.1))
theorem bad3_sound {E:List (Nat×Nat)} (hb:onlyBack ops=true) {l:List Nat} (hv:Valid ops l) (hE:∀q∈E,∀p s,l=p++q.2::s→q.1∈p) (hm:∀q∈E,q.2∈l) (h:bad3 ops E=true):False:=by
 simp only[bad3,Bool.or_eq_true]at h
 rcases h with h|h
 ·exact badE_sound hb hv hE hm h
 rw[Bool.and_eq_true]at h
 obtain⟨ha,h⟩:=h
 obtain⟨q,hq,h⟩:=List.any_eq_true.1 h
 obtain⟨q',hq',h⟩:=List.any_eq_true.1 h
 rw[Bool.and_eq_true]at h
 obtain⟨h1,h2⟩:=h
 obtain⟨q'',hq'',h2⟩:=List.any_eq_true.1 h2
 obtain⟨p1,s1,hl⟩:=List.append_of_mem (hm q hq)
 obtain⟨a,b,rfl⟩:=List.append_of_mem (hE q hq p1 s1 hl)
 have h3:=via_sound hb ha hv (hE q'' hq'') h2 a (b++q.2::s1) Y55
 obtain⟨c,d,rfl⟩:=List.append_of_mem h3
 have h4:=via_sound hb ha hv (hE q' hq') h1 c (d++q.1::(b++q.2::s1)) Y55
 have hn:=hv.1
 rw[hl]at hn
 simp only[List.append_assoc,List.cons_append]at hn
 exact(List.nodup_append.1 hn).2.2 q.2 h4 q.2 (by simp) rfl
def okX3 (ops:Array Oper) (ks:List Kd):List (List (Nat×Nat))→List (List Nat)→Bool
 |[],[]=>true
 |E::r,O=>if bad3 ops E then okX3 ops ks r O else match O with|o::s=>okRE ops ks E o&&okX3 ops ks r s|[]=>false
 |_,_=>false
theorem okX3_some {ks:List Kd} {f:List Nat→Prop} {E:List (Nat×Nat)}:∀{W:List (List (Nat×Nat))} {O:List (List Nat)},okX3 ops ks W O=true→allD f O→E∈W→bad3 ops E=true∨∃o,okRE ops ks E o=true∧f o
 |[],_,_,_,h=>by cases h
 |F::r,O,h,hf,hE=>by
  cases hB:bad3 ops F with
  |true=>
   have h2:okX3 ops ks r O=true:=by unfold okX3 at h;rw[hB]at h;simpa using h
   rcases List.mem_cons.1 hE with rfl|hE
   ·exact .inl hB
   ·exact okX3_some h2 hf hE
  |false=>
   unfold okX3 at h
   rw[hB]at h
   cases O with
   |nil=>simp at h
   |cons o s=>
    simp only[Bool.false_eq_true,if_false,Bool.and_eq_true]at h
    rcases List.mem_cons.1 hE with rfl|hE
    ·exact .inr ⟨o,h.1,hf.1⟩
    ·exact okX3_some h.2 hf.2 hE
theorem wp_region_ways3 {id:Nat} {a:Act} {w:World} (ks:List Kd) (X:List (Nat×Nat)) (O:List (List Nat)) (hmix:P.follows .mixedOrders=true) (hX:(onlyBack ops&&X.all fun q=>Nat.blt q.1 ops.size&&(Nat.blt q.2 ops.size&& !(q.1==q.2)))=true) (hok:okX3 ops ks (ways X) O=true)
 (h:allD (fun ord=>vcL P ops Q (ord.map (item ops ks)) a w.drew) O):(Code.region id ops true).wp P Q a w:=by
 rw[Bool.and_eq_true]at hX
 obtain⟨hb,hX⟩:=hX
 refine wp_region_draw fun t=>?_
 have hv:Valid ops (Region.schedule (P.follows .mixedOrders) ops t):=schedule_valid _ hmix _ _ fun i o ho d hd=>by
  have hi:i<ops.size:=(Array.getElem?_eq_some_iff.1 ho).1
  have h1:=List.all_eq_true.1 (List.all_eq_true.1 hb i (List.mem_range.2 hi)) d (by
   have :ops.toList.getD i default=o:=by
    simp[Array.getElem?_eq_getElem hi]at ho ⊢
    simp[ho]
   rw[this];exact hd)
  simpa[Nat.blt_eq]using h1
 generalize Region.schedule (P.follows .mixedOrders) ops t=l at hv ⊢
 obtain⟨E,hE,hEl,hEm⟩:=ways_some hv.1 X fun q hq=>by
  have :=List.all_eq_true.1 hX q hq
  simp only[Bool.and_eq_true,Nat.blt_eq,Bool.not_eq_true',beq_eq_false_iff_ne]at this
  exact⟨(hv.2.1 _).2 this.1,(hv.2.1 _).2 this.2.1,this.2.2⟩
 rcases okX3_some hok h hE with hbad|⟨ord,hok,h⟩
 ·exact(bad3_sound hb hv hEl hEm hbad).elim
 simp only[okRE,Bool.and_eq_true]at hok
 obtain⟨hb,ha,hall,hlt,hp⟩:=hok
 refine main_stepE hb ha hv hEl l [] ord rfl (fun x=>?_) hp a _ h
 rw[hv.2.1 x]
 constructor
 ·intro hx;simpa[Nat.blt_eq]using List.all_eq_true.1 hlt x hx
 ·intro hx;exact List.contains_iff_mem.1 (List.all_eq_true.1 hall x (List.mem_range.2 hx))
theorem K.drawX3 {n:Nat} {D:List Deferred} {w0:World} {G:Env} {L:List HP} {id:Nat} (ks:List Kd) (X:List (Nat×Nat)) (O:List (List Nat)) (hmix:P.follows .mixedOrders=true) (hX:(onlyBack ops&&X.all fun q=>Nat.blt q.1 ops.size&&(Nat.blt q.2 ops.size&& !(q.1==q.2)))=true) (hok:okX3 ops ks (ways X) O=true)
 (h:allD (fun ord=>KO P ops true Q n D w0 G L (ord.map (item ops ks))) O):K P (.region id ops true) Q n D w0 G L:=fun a _ ha hw=>
 wp_region_ways3 ks X O hmix hX hok (allD_mono (fun _ hh=>hh a _ ha hw.drew) h)
end WB
/- world: New -/
namespace Go.Proofs.YtjhogocabcdjbabGreatDoor
open Go Go.RowKit WB
theorem fam_app {α β:Type} {f:α→β→HP} {w0 w:World} {L:List HP} {ps:List α} {xs:List β} {p:α} {x:β} (hl:ps.length=xs.length) (h:St w0 (f p x::fam f ps xs::L) w):St w0 (fam f (ps++[p]) (xs++[x])::L) w:=by
 have h1:=fam_list h.swap2
 refine fam_of ?_
 rw[List.zipWith_append hl,List.append_assoc]
 exact h1
set_option maxRecDepth 100000 in
set_option maxHeartbeats 4000000 in
theorem wnew_c (w0:World) (L:List HP) (n:Nat) (hT:Tab w0) (hM:Lim w0) (hn:1≤n∧n≤4):
 KC Tryz.prog 42 #[.int .i64 (n:Nat)] w0 L (fun u M=> ∃c:Nat×HdT,c.2.2.2=none∧u=.tuple #[ptrV c.1,.nilIface]∧M=woP c.1 c.2 (wNew n)::L):=by
 have hs:∀k:Nat,(wNew (k+1)).hs=(wNew k).hs++[(hNew (k:Int),dkNew)]:=fun k=>by unfold wNew;dsimp only;rw[List.range_succ,List.map_append];rfl
 have hln:∀k:Nat,(wNew k).hs.length=k:=fun k=>by unfold wNew;simp
 refine KC.mk (n:=52) Tryz.func42 rfl Tryz.ntmps42 (by simp) ?_
 refine Z230 ?_
 refine Z28 ?_
 refine Z31 ?_
 refine Z127 ?_
 refine Z340 ?_
 refine Z2 ?_
 refine K.condF rfl Y61 ?_
 refine Z250 ?_
 refine KO.bldN (pl:=[(0,1),(1,1),(2,1),(3,1)]) rfl Tryz.zeroValue164 Tryz.runUnderlying164 (by intro w;simp[Tryz.sizeOf3,Tryz.sizeOf160,Tryz.sizeOf161,Tryz.sizeOf162]) Y68 rfl ?_
 refine KO.box rfl rfl Y68 rfl ?_;intro b17
 refine Z28 ?_
 refine Z119 ?_
 refine K.loop (fun q:Nat×WoV=>[(0,.int .i64 (n:Nat)),(4,ptrV b17),(18,.int .i64 (n:Nat)),(19,.int .i64 (q.1:Nat))]) (fun q=>woX b17 q.2 (wNew q.1) L) (fun q=>q.1≤n∧q.2.ps.length=q.1∧q.2.wv=.slice none 0 0) (fun q=>n-q.1) (0,⟨.slice none 0 0,.slice none 0 0,.slice none 0 0,[]⟩) ⟨Nat.zero_le _,rfl,rfl⟩ ⟨rfl,rfl,rfl,rfl,trivial⟩ (fun _ h=>?_) ?_
 ·have h1:=fam_of (f:=hdP) (ps:=[]) (xs:=[]) h
  have h2:=SL_nil (E:=258) (sz:=2) (cf:=grC) h1
  have h3:=SL_nil (E:=25) (sz:=1) (cf:=pwC) h2
  have h4:=SL_nil (E:=29) (sz:=1) (cf:=pwC) h3
  exact h4.all Y7
 rintro⟨k,hv,dv,wv,ps⟩ ⟨hk,hps,hwv⟩
 dsimp only at hk hps hwv ⊢
 subst hwv
 refine Z111 ?_
 refine K.condD rfl (fun h5=>?_) (fun h5=>?_)
 ·have hkn:k<n:=by omega
  refine Z229 ?_
  refine Z135 ?_
  refine KO.bldN (pl:=[(0,300),(300,1),(301,1)]) rfl Tryz.zeroValue28 Tryz.runUnderlying28 (by intro w;simp[Tryz.sizeOf3,Tryz.sizeOf4,Tryz.sizeOf26]) Y68 rfl ?_
  refine KO.box rfl rfl Y68 rfl ?_;intro b23
  refine Z21 ?_
  refine K.conv (L':=dkP b23 dkNew::woX b17 ⟨hv,dv,.slice none 0 0,ps⟩ (wNew k) L) (fun w' h=>h) ?_
  refine Z72 ?_
  refine KO.cl (cp:=[]) rfl rfl rfl Tryz.call11 rfl (KC.pk1 Y21 (hopen_c w0 _ b23 (k:Int) dkNew hT hM (by omega) dkNew_ok)) ?_;rintro v' L' ⟨bh,rfl,rfl⟩;rw[open_new]
  refine Z64 ?_
  refine Z83 ?_
  refine K.drawX3 [.pure,.pure,.pure,.pure,.pure,.read,.pure,.keep,.write,.pure,.pure,.pure,.read,.pure,.keep,.write,.pure,.pure,.write,.pure,.pure,.write] [(8,12),(8,14),(7,14),(12,14),(7,12)] [[0,1,2,3,4,5,6,9,10,11,13,7,8,12,14,15,16,17,18,19,20,21],[0,1,2,3,4,5,6,9,10,11,13,7,8,14,12,15,16,17,18,19,20,21],[0,1,2,3,4,5,6,9,10,11,13,7,14,8,12,15,16,17,18,19,20,21],[0,1,2,3,4,5,6,9,10,11,13,14,7,8,12,15,16,17,18,19,20,21],[0,1,2,3,4,5,6,9,10,11,13,7,12,8,14,15,16,17,18,19,20,21],[0,1,2,3,4,5,6,9,10,11,12,13,7,8,14,15,16,17,18,19,20,21],[0,1,2,3,4,5,6,9,10,11,13,7,12,14,8,15,16,17,18,19,20,21],[0,1,2,3,4,5,6,9,10,11,12,13,7,14,8,15,16,17,18,19,20,21],[0,1,2,3,4,5,6,9,10,11,13,7,14,12,8,15,16,17,18,19,20,21],[0,1,2,3,4,5,6,9,10,11,12,13,14,7,8,15,16,17,18,19,20,21],[0,1,2,3,4,5,6,9,10,11,13,14,7,12,8,15,16,17,18,19,20,21],[0,1,2,3,4,5,6,9,10,11,13,14,12,7,8,15,16,17,18,19,20,21]] Y62 Y62 Y62 ⟨?_,?_,?_,?_,?_,?_,?_,?_,?_,?_,?_,?_,trivial⟩
  focus
   show KO _ _ _ _ _ _ _ _ _ _
   refine Z306 ?_
   refine KO.bs1 (z:=(Value.pointer none)) (sz:=1) (by':=8) rfl rfl Tryz.underlying160 Y62 Y68 Y68 (by decide) (by decide) rfl ?_;intro b37
   refine KO.app (cf:=pwC) (z:=Value.pointer none) (sz:=1) (by':=8) (us:=[ptrV bh]) (xs:=ps.map (·.1)) rfl rfl rfl Y11 Y21 Tryz.underlying160 Y62 Y68 bh rfl rfl rfl Y29 (by decide) rfl ?_;intro vh;refine KO.fact (fun _ hs=>SL_form hs) ?_;rintro⟨ah,kh,rfl,-⟩
   refine Z86 ?_
   refine KO.bs1 (z:=(Value.pointer none)) (sz:=1) (by':=8) rfl rfl Tryz.underlying161 Y62 Y68 Y68 (by decide) (by decide) rfl ?_;intro b44
   refine KO.app (cf:=pwC) (z:=Value.pointer none) (sz:=1) (by':=8) (us:=[.pointer (some ⟨b23,0,none⟩)]) (xs:=ps.map (·.2)) rfl rfl rfl Y11 Y21 Tryz.underlying161 Y62 Y68 b23 rfl rfl rfl Y29 (by decide) rfl ?_;intro vd;refine KO.fact (fun _ hs=>SL_form hs) ?_;rintro⟨ad,kd,rfl,-⟩
   refine Z253 ?_
  rotate_left
  focus
   show KO _ _ _ _ _ _ _ _ _ _
   refine Z306 ?_
   refine KO.bs1 (z:=(Value.pointer none)) (sz:=1) (by':=8) rfl rfl Tryz.underlying160 Y62 Y68 Y68 (by decide) (by decide) rfl ?_;intro b37
   refine KO.app (cf:=pwC) (z:=Value.pointer none) (sz:=1) (by':=8) (us:=[ptrV bh]) (xs:=ps.map (·.1)) rfl rfl rfl Y11 Y21 Tryz.underlying160 Y62 Y68 bh rfl rfl rfl Y29 (by decide) rfl ?_;intro vh;refine KO.fact (fun _ hs=>SL_form hs) ?_;rintro⟨ah,kh,rfl,-⟩
   refine KO.bs1 (z:=(Value.pointer none)) (sz:=1) (by':=8) rfl rfl Tryz.underlying161 Y62 Y68 Y68 (by decide) (by decide) rfl ?_;intro b44
   refine Z86 ?_
   refine KO.app (cf:=pwC) (z:=Value.pointer none) (sz:=1) (by':=8) (us:=[.pointer (some ⟨b23,0,none⟩)]) (xs:=ps.map (·.2)) rfl rfl rfl Y11 Y21 Tryz.underlying161 Y62 Y68 b23 rfl rfl rfl Y29 (by decide) rfl ?_;intro vd;refine KO.fact (fun _ hs=>SL_form hs) ?_;rintro⟨ad,kd,rfl,-⟩
   refine Z253 ?_
  rotate_left
  focus
   show KO _ _ _ _ _ _ _ _ _ _
   refine Z306 ?_
   refine KO.bs1 (z:=(Value.pointer none)) (sz:=1) (by':=8) rfl rfl Tryz.underlying160 Y62 Y68 Y68 (by decide) (by decide) rfl ?_;intro b37
   refine KO.bs1 (z:=(Value.pointer none)) (sz:=1) (by':=8) rfl rfl Tryz.underlying161 Y62 Y68 Y68 (by decide) (by decide) rfl ?_;intro b44
   refine KO.app (cf:=pwC) (z:=Value.pointer none) (sz:=1) (by':=8) (us:=[ptrV bh]) (xs:=ps.map (·.1)) rfl rfl rfl Y11 Y11 Tryz.underlying160 Y62 Y68 bh rfl rfl rfl Y29 (by decide) rfl ?_;intro vh;refine KO.fact (fun _ hs=>SL_form hs) ?_;rintro⟨ah,kh,rfl,-⟩
   refine Z86 ?_
   refine KO.app (cf:=pwC) (z:=Value.pointer none) (sz:=1) (by':=8) (us:=[.pointer (some ⟨b23,0,none⟩)]) (xs:=ps.map (·.2)) rfl rfl rfl Y11 Y11 Tryz.underlying161 Y62 Y68 b23 rfl rfl rfl Y29 (by decide) rfl ?_;intro vd;refine KO.fact (fun _ hs=>SL_form hs) ?_;rintro⟨ad,kd,rfl,-⟩
   refine Z253 ?_
  rotate_left
  focus
   show KO _ _ _ _ _ _ _ _ _ _
   refine Z306 ?_
   refine KO.bs1 (z:=(Value.pointer none)) (sz:=1) (by':=8) rfl rfl Tryz.underlying161 Y62 Y68 Y68 (by decide) (by decide) rfl ?_;intro b44
   refine KO.bs1 (z:=(Value.pointer none)) (sz:=1) (by':=8) rfl rfl Tryz.underlying160 Y62 Y68 Y68 (by decide) (by decide) rfl ?_;intro b37
   refine KO.app (cf:=pwC) (z:=Value.pointer none) (sz:=1) (by':=8) (us:=[ptrV bh]) (xs:=ps.map (·.1)) rfl rfl rfl Y11 Y21 Tryz.underlying160 Y62 Y68 bh rfl rfl rfl Y29 (by decide) rfl ?_;intro vh;refine KO.fact (fun _ hs=>SL_form hs) ?_;rintro⟨ah,kh,rfl,-⟩
   refine Z86 ?_
   refine KO.app (cf:=pwC) (z:=Value.pointer none) (sz:=1) (by':=8) (us:=[.pointer (some ⟨b23,0,none⟩)]) (xs:=ps.map (·.2)) rfl rfl rfl Y11 Y11 Tryz.underlying161 Y62 Y68 b23 rfl rfl rfl Y29 (by decide) rfl ?_;intro vd;refine KO.fact (fun _ hs=>SL_form hs) ?_;rintro⟨ad,kd,rfl,-⟩
   refine Z253 ?_
  rotate_left
  focus
   show KO _ _ _ _ _ _ _ _ _ _
   refine Z306 ?_
   refine KO.bs1 (z:=(Value.pointer none)) (sz:=1) (by':=8) rfl rfl Tryz.underlying160 Y62 Y68 Y68 (by decide) (by decide) rfl ?_;intro b37
   refine Z86 ?_
   refine KO.app (cf:=pwC) (z:=Value.pointer none) (sz:=1) (by':=8) (us:=[ptrV bh]) (xs:=ps.map (·.1)) rfl rfl rfl Y11 Y21 Tryz.underlying160 Y62 Y68 bh rfl rfl rfl Y29 (by decide) rfl ?_;intro vh;refine KO.fact (fun _ hs=>SL_form hs) ?_;rintro⟨ah,kh,rfl,-⟩
   refine KO.bs1 (z:=(Value.pointer none)) (sz:=1) (by':=8) rfl rfl Tryz.underlying161 Y62 Y68 Y68 (by decide) (by decide) rfl ?_;intro b44
   refine KO.app (cf:=pwC) (z:=Value.pointer none) (sz:=1) (by':=8) (us:=[.pointer (some ⟨b23,0,none⟩)]) (xs:=ps.map (·.2)) rfl rfl rfl Y11 Y21 Tryz.underlying161 Y62 Y68 b23 rfl rfl rfl Y29 (by decide) rfl ?_;intro vd;refine KO.fact (fun _ hs=>SL_form hs) ?_;rintro⟨ad,kd,rfl,-⟩
   refine Z253 ?_
  rotate_left
  focus
   show KO _ _ _ _ _ _ _ _ _ _
   refine Z243 ?_
   refine Z86 ?_
   refine Z1 ?_
   refine KO.bs1 (z:=(Value.pointer none)) (sz:=1) (by':=8) rfl rfl Tryz.underlying160 Y62 Y68 Y68 (by decide) (by decide) rfl ?_;intro b37
   refine KO.app (cf:=pwC) (z:=Value.pointer none) (sz:=1) (by':=8) (us:=[ptrV bh]) (xs:=ps.map (·.1)) rfl rfl rfl Y11 Y21 Tryz.underlying160 Y62 Y68 bh rfl rfl rfl Y29 (by decide) rfl ?_;intro vh;refine KO.fact (fun _ hs=>SL_form hs) ?_;rintro⟨ah,kh,rfl,-⟩
   refine KO.bs1 (z:=(Value.pointer none)) (sz:=1) (by':=8) rfl rfl Tryz.underlying161 Y62 Y68 Y68 (by decide) (by decide) rfl ?_;intro b44
   refine KO.app (cf:=pwC) (z:=Value.pointer none) (sz:=1) (by':=8) (us:=[.pointer (some ⟨b23,0,none⟩)]) (xs:=ps.map (·.2)) rfl rfl rfl Y11 Y21 Tryz.underlying161 Y62 Y68 b23 rfl rfl rfl Y29 (by decide) rfl ?_;intro vd;refine KO.fact (fun _ hs=>SL_form hs) ?_;rintro⟨ad,kd,rfl,-⟩
   refine Z253 ?_
  rotate_left
  focus
   show KO _ _ _ _ _ _ _ _ _ _
   refine Z306 ?_
   refine KO.bs1 (z:=(Value.pointer none)) (sz:=1) (by':=8) rfl rfl Tryz.underlying160 Y62 Y68 Y68 (by decide) (by decide) rfl ?_;intro b37
   refine Z86 ?_
   refine KO.bs1 (z:=(Value.pointer none)) (sz:=1) (by':=8) rfl rfl Tryz.underlying161 Y62 Y68 Y68 (by decide) (by decide) rfl ?_;intro b44
   refine KO.app (cf:=pwC) (z:=Value.pointer none) (sz:=1) (by':=8) (us:=[ptrV bh]) (xs:=ps.map (·.1)) rfl rfl rfl Y11 Y11 Tryz.underlying160 Y62 Y68 bh rfl rfl rfl Y29 (by decide) rfl ?_;intro vh;refine KO.fact (fun _ hs=>SL_form hs) ?_;rintro⟨ah,kh,rfl,-⟩
   refine KO.app (cf:=pwC) (z:=Value.pointer none) (sz:=1) (by':=8) (us:=[.pointer (some ⟨b23,0,none⟩)]) (xs:=ps.map (·.2)) rfl rfl rfl Y11 Y11 Tryz.underlying161 Y62 Y68 b23 rfl rfl rfl Y29 (by decide) rfl ?_;intro vd;refine KO.fact (fun _ hs=>SL_form hs) ?_;rintro⟨ad,kd,rfl,-⟩
   refine Z253 ?_
  rotate_left
  focus
   show KO _ _ _ _ _ _ _ _ _ _
   refine Z243 ?_
   refine Z86 ?_
   refine Z1 ?_
   refine KO.bs1 (z:=(Value.pointer none)) (sz:=1) (by':=8) rfl rfl Tryz.underlying160 Y62 Y68 Y68 (by decide) (by decide) rfl ?_;intro b37
   refine KO.bs1 (z:=(Value.pointer none)) (sz:=1) (by':=8) rfl rfl Tryz.underlying161 Y62 Y68 Y68 (by decide) (by decide) rfl ?_;intro b44
   refine KO.app (cf:=pwC) (z:=Value.pointer none) (sz:=1) (by':=8) (us:=[ptrV bh]) (xs:=ps.map (·.1)) rfl rfl rfl Y11 Y11 Tryz.underlying160 Y62 Y68 bh rfl rfl rfl Y29 (by decide) rfl ?_;intro vh;refine KO.fact (fun _ hs=>SL_form hs) ?_;rintro⟨ah,kh,rfl,-⟩
   refine KO.app (cf:=pwC) (z:=Value.pointer none) (sz:=1) (by':=8) (us:=[.pointer (some ⟨b23,0,none⟩)]) (xs:=ps.map (·.2)) rfl rfl rfl Y11 Y11 Tryz.underlying161 Y62 Y68 b23 rfl rfl rfl Y29 (by decide) rfl ?_;intro vd;refine KO.fact (fun _ hs=>SL_form hs) ?_;rintro⟨ad,kd,rfl,-⟩
   refine Z253 ?_
  rotate_left
  focus
   show KO _ _ _ _ _ _ _ _ _ _
   refine Z306 ?_
   refine KO.bs1 (z:=(Value.pointer none)) (sz:=1) (by':=8) rfl rfl Tryz.underlying160 Y62 Y68 Y68 (by decide) (by decide) rfl ?_;intro b37
   refine KO.bs1 (z:=(Value.pointer none)) (sz:=1) (by':=8) rfl rfl Tryz.underlying161 Y62 Y68 Y68 (by decide) (by decide) rfl ?_;intro b44
   refine Z86 ?_
   refine KO.app (cf:=pwC) (z:=Value.pointer none) (sz:=1) (by':=8) (us:=[ptrV bh]) (xs:=ps.map (·.1)) rfl rfl rfl Y11 Y11 Tryz.underlying160 Y62 Y68 bh rfl rfl rfl Y29 (by decide) rfl ?_;intro vh;refine KO.fact (fun _ hs=>SL_form hs) ?_;rintro⟨ah,kh,rfl,-⟩
   refine KO.app (cf:=pwC) (z:=Value.pointer none) (sz:=1) (by':=8) (us:=[.pointer (some ⟨b23,0,none⟩)]) (xs:=ps.map (·.2)) rfl rfl rfl Y11 Y11 Tryz.underlying161 Y62 Y68 b23 rfl rfl rfl Y29 (by decide) rfl ?_;intro vd;refine KO.fact (fun _ hs=>SL_form hs) ?_;rintro⟨ad,kd,rfl,-⟩
   refine Z253 ?_
  rotate_left
  focus
   show KO _ _ _ _ _ _ _ _ _ _
   refine Z243 ?_
   refine Z86 ?_
   refine Z1 ?_
   refine KO.bs1 (z:=(Value.pointer none)) (sz:=1) (by':=8) rfl rfl Tryz.underlying161 Y62 Y68 Y68 (by decide) (by decide) rfl ?_;intro b44
   refine KO.bs1 (z:=(Value.pointer none)) (sz:=1) (by':=8) rfl rfl Tryz.underlying160 Y62 Y68 Y68 (by decide) (by decide) rfl ?_;intro b37
   refine KO.app (cf:=pwC) (z:=Value.pointer none) (sz:=1) (by':=8) (us:=[ptrV bh]) (xs:=ps.map (·.1)) rfl rfl rfl Y11 Y21 Tryz.underlying160 Y62 Y68 bh rfl rfl rfl Y29 (by decide) rfl ?_;intro vh;refine KO.fact (fun _ hs=>SL_form hs) ?_;rintro⟨ah,kh,rfl,-⟩
   refine KO.app (cf:=pwC) (z:=Value.pointer none) (sz:=1) (by':=8) (us:=[.pointer (some ⟨b23,0,none⟩)]) (xs:=ps.map (·.2)) rfl rfl rfl Y11 Y11 Tryz.underlying161 Y62 Y68 b23 rfl rfl rfl Y29 (by decide) rfl ?_;intro vd;refine KO.fact (fun _ hs=>SL_form hs) ?_;rintro⟨ad,kd,rfl,-⟩
   refine Z253 ?_
  rotate_left
  focus
   show KO _ _ _ _ _ _ _ _ _ _
   refine Z306 ?_
   refine KO.bs1 (z:=(Value.pointer none)) (sz:=1) (by':=8) rfl rfl Tryz.underlying161 Y62 Y68 Y68 (by decide) (by decide) rfl ?_;intro b44
   refine KO.bs1 (z:=(Value.pointer none)) (sz:=1) (by':=8) rfl rfl Tryz.underlying160 Y62 Y68 Y68 (by decide) (by decide) rfl ?_;intro b37
   refine Z86 ?_
   refine KO.app (cf:=pwC) (z:=Value.pointer none) (sz:=1) (by':=8) (us:=[ptrV bh]) (xs:=ps.map (·.1)) rfl rfl rfl Y11 Y21 Tryz.underlying160 Y62 Y68 bh rfl rfl rfl Y29 (by decide) rfl ?_;intro vh;refine KO.fact (fun _ hs=>SL_form hs) ?_;rintro⟨ah,kh,rfl,-⟩
   refine KO.app (cf:=pwC) (z:=Value.pointer none) (sz:=1) (by':=8) (us:=[.pointer (some ⟨b23,0,none⟩)]) (xs:=ps.map (·.2)) rfl rfl rfl Y11 Y11 Tryz.underlying161 Y62 Y68 b23 rfl rfl rfl Y29 (by decide) rfl ?_;intro vd;refine KO.fact (fun _ hs=>SL_form hs) ?_;rintro⟨ad,kd,rfl,-⟩
   refine Z253 ?_
  rotate_left
  focus
   show KO _ _ _ _ _ _ _ _ _ _
   refine Z306 ?_
   refine KO.bs1 (z:=(Value.pointer none)) (sz:=1) (by':=8) rfl rfl Tryz.underlying161 Y62 Y68 Y68 (by decide) (by decide) rfl ?_;intro b44
   refine Z86 ?_
   refine KO.bs1 (z:=(Value.pointer none)) (sz:=1) (by':=8) rfl rfl Tryz.underlying160 Y62 Y68 Y68 (by decide) (by decide) rfl ?_;intro b37
   refine KO.app (cf:=pwC) (z:=Value.pointer none) (sz:=1) (by':=8) (us:=[ptrV bh]) (xs:=ps.map (·.1)) rfl rfl rfl Y11 Y21 Tryz.underlying160 Y62 Y68 bh rfl rfl rfl Y29 (by decide) rfl ?_;intro vh;refine KO.fact (fun _ hs=>SL_form hs) ?_;rintro⟨ah,kh,rfl,-⟩
   refine KO.app (cf:=pwC) (z:=Value.pointer none) (sz:=1) (by':=8) (us:=[.pointer (some ⟨b23,0,none⟩)]) (xs:=ps.map (·.2)) rfl rfl rfl Y11 Y11 Tryz.underlying161 Y62 Y68 b23 rfl rfl rfl Y29 (by decide) rfl ?_;intro vd;refine KO.fact (fun _ hs=>SL_form hs) ?_;rintro⟨ad,kd,rfl,-⟩
   refine Z253 ?_
  rotate_left
  all_goals (
   refine Z76 ?_
   refine KQ.round (k+1,⟨.slice ah (ps.map (·.1)++[bh]).length kh,.slice ad (ps.map (·.2)++[b23]).length kd,.slice none 0 0,ps++[(bh,b23)]⟩) ⟨by dsimp only;omega,by dsimp only;rw[List.length_append,hps];rfl,rfl⟩ Y47 ⟨rfl,rfl,rfl,rfl,trivial⟩ (fun _ h=>?_)
   have e1:(ps++[(bh,b23)]).map (·.1)=ps.map (·.1)++[bh]:=by simp
   have e2:(ps++[(bh,b23)]).map (·.2)=ps.map (·.2)++[b23]:=by simp
   have h0:=h.pick3 (A:=hoP bh b23 (hNew (k:Int))) (B:=dkP b23 dkNew) (C:=fam hdP ps (wNew k).hs) Y11 Y11 Y11
   have h2:=fam_app (f:=hdP) (p:=(bh,b23)) (x:=(hNew (k:Int),dkNew)) (by rw[hps,hln]) h0.join
   rw[←hs]at h2
   unfold woX
   dsimp only
   rw[e1,e2]
   exact h2.all Y7)
 ·have hkn:k=n:=by omega
  subst hkn
  refine Z274 ?_
  refine Z192 ?_
  refine KQ.ret2 rfl rfl rfl (fun w' hs'=>⟨_,_,rfl,⟨(b17,(hv,dv,none)),rfl,rfl,rfl⟩,?_⟩)
  exact woP_mk (hd:=(hv,dv,none)) ⟨hv,dv,_,ps⟩ (by rw[hln];exact hps) hs' rfl ⟨rfl,fun l hl=>by cases hl⟩
end Go.Proofs.YtjhogocabcdjbabGreatDoor
/- bags: messages that go to other houses too -/
namespace WB
open Go
def jOf (H:Ho) (m:Ms):Nat:=if m.house≠H.id then m.house.toNat else 4+(H.qI m.queue).getD 0
theorem jOf_keys {H H':Ho} (h:keysOf H'=keysOf H) (hi:H'.id=H.id) (m:Ms):jOf H' m=jOf H m:=by unfold jOf;rw[qI_keys h,hi]
theorem put1_bagG {n:Nat} {H:Ho} (hB:HoB n H) {m:Ms} (hr:msRight m=true) (hq:m.house=H.id→∃i,H.qI m.queue=some i):∃H1,hput1 H m=some H1∧(hv H1).Perm (⟨jOf H m,m,-1,-1⟩::hv H)∧keysOf H1=keysOf H∧H1.names=H.names∧H1.next=max H.next (m.id/4+1)∧Same H H1:=by
 by_cases hm:m.house=H.id
 ·obtain⟨i,hi⟩:=hq hm
  obtain⟨H1,a,b,c,d,-,e,f⟩:=put1_bag hB hm hi
  have hj:jOf H m=4+i:=by unfold jOf;rw[if_neg (by rw[hm];simp),hi];rfl
  rw[hj]
  exact⟨H1,a,b,c,d,e,f⟩
 ·obtain⟨m1,m2,m3,m4,-,-,m7,m8⟩:=msRight_parts hr
  let H0:Ho:={H with next:=max H.next (m.id/4+1)}
  have hj:m.house.toNat<4:=by omega
  refine⟨H0.setW m.house.toNat (qpush (H0.wAt m.house.toNat) m (-1)),?_,?_,rfl,rfl,rfl,⟨rfl,rfl,rfl,rfl,rfl,rfl,rfl,rfl⟩⟩
  ·unfold hput1
   dsimp only
   rw[if_pos hm];rfl
  ·unfold hv
   rw[all_setW (H:=H0) (by rw[show H0.ways=H.ways from rfl,hB.ways];exact hj)]
   have hj2:jOf H m=m.house.toNat:=by unfold jOf;rw[if_pos hm]
   rw[hj2]
   have :=vw_push (l:=H0.all) m (-1) (all_w (H:=H0) hB.ways hj)
   exact this
theorem puts_bagG {n:Nat}:∀(l:List Ms) {H:Ho},HoB n H→(∀m∈l,msRight m=true∧(m.house=H.id→∃i,H.qI m.queue=some i))→
 ∃H1,hputs H l=(H1,true)∧(hv H1).Perm (l.map (fun m=>(⟨jOf H m,m,-1,-1⟩:En))++hv H)∧keysOf H1=keysOf H∧H1.names=H.names∧Same H H1∧H.next≤H1.next∧(∀m∈l,m.id/4<H1.next)∧(∀k:Int,H.next≤k→(∀m∈l,m.id/4<k)→H1.next≤k)∧HoB (n+l.length) H1
 |[],H,hB,_=>⟨H,rfl,.refl _,rfl,rfl,.refl _,Int.le_refl _,(fun m hm=>by cases hm),(fun k h _=>h),hB⟩
 |m::l,H,hB,h=>by
  obtain⟨hr,hm⟩:=h m (by simp)
  obtain⟨H1,e1,p1,k1,n1,x1,s1⟩:=put1_bagG hB hr hm
  have hB1:=hB.put1 hr e1
  obtain⟨H2,e2,p2,k2,n2,s2,x2,y2,z2,hB2⟩:=puts_bagG (n:=n+1) l hB1 fun m' hm'=>by
   obtain⟨a,b⟩:=h m' (by simp[hm'])
   exact⟨a,fun hh=>by rw[qI_keys k1];exact b (by rw[hh,s1.id])⟩
  refine⟨H2,?_,?_,k2.trans k1,n2.trans n1,s1.trans s2,by omega,fun m' hm'=>?_,fun k hk hl=>z2 k (by rw[x1];have :=hl m (by simp);omega) fun m' hm'=>hl m' (by simp[hm']),hB2.le Y61⟩
  ·rw[hputs,e1];exact e2
  ·refine p2.trans ?_
   rw[List.map_cons]
   have :(l.map fun m'=>(⟨jOf H1 m',m',-1,-1⟩:En))=l.map fun m'=>⟨jOf H m',m',-1,-1⟩:=by
    apply List.map_congr_left
    intro m' _
    rw[jOf_keys k1 s1.id]
   rw[this]
   refine((List.Perm.refl _).append p1).trans ?_
   rw[List.cons_append]
   exact List.perm_middle
  ·rcases List.mem_cons.1 hm' with rfl|hm'
   ·omega
   ·exact y2 m' hm'
end WB
/- bags: what a unit's record does, with messages for other houses; batches -/
namespace WB
open Go
theorem ends_bagG {n:Nat} {H:Ho} {x:Unt} (hB:HoB n H) (hx:UntOk x) (hn:((hv H).map idE).Nodup)
 (hp:∀p∈x.puts,p.1.house=H.id→∃i,H.qI p.1.queue=some i) (hpn:(x.puts.map fun p=>p.1.id).Nodup) (hpf:∀p∈x.puts,∀e∈hv H,idE e≠p.1.id)
 (hgn:(x.gets.map (·.1)).Nodup) (hg:∀g∈x.gets,∃i,H.qI g.2=some i∧∃e∈hv H,e.j=4+i∧idE e=g.1):
 ∃H1,hends H (recB x)=(H1,true)∧(hv H1).Perm ((x.puts.map (fun p=>(⟨jOf H p.1,p.1,-1,-1⟩:En))++hv H).filter fun e=> !decide (idE e∈x.gets.map (·.1)))∧keysOf H1=keysOf H∧H1.names=H.names∧Same H H1∧H.next≤H1.next∧(∀p∈x.puts,p.1.id/4<H1.next)∧(∀k:Int,H.next≤k→(∀p∈x.puts,p.1.id/4<k)→H1.next≤k)∧HoB (n+x.puts.length) H1:=by
 obtain⟨H1,e1,p1,k1,n1,s1,x1,y1,z1,hB1⟩:=puts_bagG (x.puts.map (·.1)) hB fun m hm=>by
  obtain⟨p,hp',rfl⟩:=List.mem_map.1 hm
  exact⟨hx.puts p hp',hp p hp'⟩
 rw[List.map_map]at p1
 have y2:∀p∈x.puts,p.1.id/4<H1.next:=fun p hp=>y1 _ (List.mem_map_of_mem (f:=(·.1)) hp)
 have z2:∀k:Int,H.next≤k→(∀p∈x.puts,p.1.id/4<k)→H1.next≤k:=fun k hk h=>z1 k hk fun m hm=>by
  obtain⟨p,hp',rfl⟩:=List.mem_map.1 hm
  exact h p hp'
 rw[List.length_map]at hB1
 have hn1:((hv H1).map idE).Nodup:=by
  refine(p1.map idE).nodup_iff.2 ?_
  rw[List.map_append,List.map_map,List.nodup_append]
  refine⟨?_,hn,fun a ha b hb=>?_⟩
  ·exact hpn
  ·obtain⟨p,hp',rfl⟩:=List.mem_map.1 ha
   obtain⟨e,he,rfl⟩:=List.mem_map.1 hb
   exact fun e2=>hpf p hp' e he e2.symm
 have hds:hends H (recB x)=if joinS (x.gets.map gotT) plus=⟨#[]⟩then(H1,true)else hgets H1 (pcs 43 (joinS (x.gets.map gotT) plus)):=by
  unfold hends
  have hrd:=hx.read
  rw[hx.cut]at hrd ⊢
  dsimp only at hrd ⊢
  rw[if_neg (by simp),hrd]
  dsimp only
  rw[e1]
  rfl
 by_cases h0:x.gets=[]
 ·refine⟨H1,?_,?_,k1,n1,s1,x1,y2,z2,hB1⟩
  ·rw[hds,h0];rfl
  ·rw[h0]
   refine p1.trans ?_
   rw[List.filter_eq_self.2 (fun a _=>by simp)]
   exact .refl _
 ·obtain⟨t1,t2⟩:=gets_text (fun g hg=>(hx.gets g hg).2.2) h0
  rw[if_neg t1,t2]at hds
  obtain⟨H2,e2,p2,k2,n2,w2,x2,s2,hB2⟩:=gets_bag x.gets hB1 hn1 hgn fun g hg'=>by
   obtain⟨i,hi,e,he,hj,hid⟩:=hg g hg'
   exact⟨hx.gets g hg',i,by rw[qI_keys k1];exact hi,e,p1.mem_iff.2 (List.mem_append_right _ he),hj,hid⟩
  exact⟨H2,hds.trans e2,p2.trans (p1.filter _),k2.trans k1,n2.trans n1,s1.trans s2,by omega,fun p hp=>by rw[x2];exact y2 p hp,fun k a b=>by rw[x2];exact z2 k a b,hB2⟩
theorem set_self {α:Type} {l:List α} {j:Nat} {q:α} (h:l[j]? =some q):l.set j q=l:=by
 apply List.ext_getElem?
 intro i
 rw[List.getElem?_set]
 split
 ·rename_i e
  rw[if_pos (List.getElem?_eq_some_iff.1 h).1,←e,h]
 ·rfl
theorem take_bag {l:List Qu} {j:Nat} {q:Qu} {a:Int} (h:l[j]? =some q) (hn:((vw l).map idE).Nodup) (hj:∀e∈vw l,idE e=a→e.j=j):(vw (l.set j (qtake q a))).Perm ((vw l).filter fun e=> !decide (idE e=a)):=by
 cases hk:qtakeI q a with
 |none=>
  have e1:qtake q a=q:=by unfold qtake;rw[hk]
  rw[e1,set_self h,List.filter_eq_self.2]
  intro e he
  have h2:idE e≠a:=fun e2=>by
   obtain⟨q',h3,x,hx,hex⟩:=vw_mem.1 he
   rw[hj e he e2,h]at h3
   simp only[Option.some.injEq]at h3
   subst h3
   unfold qtakeI at hk
   rw[List.findIdx?_eq_none_iff]at hk
   have :=hk x hx
   unfold idB at this
   have h4:x.m.id=a:=by rw[←e2,hex];rfl
   simp[h4]at this
  simpa using h2
 |some k=>
  obtain⟨hkl,hkp,-⟩:=List.findIdx?_eq_some_iff_getElem.1 hk
  have hkx:q.l[k]? =some q.l[k]:=List.getElem?_eq_getElem hkl
  have hkid:(q.l[k]).m.id=a:=by unfold idB at hkp;simpa using hkp
  have e1:qtake q a=⟨q.l.eraseIdx k,q.next⟩:=by unfold qtake;rw[hk]
  rw[e1]
  have :=filter_ne hn (vw_erase h hkx q.next)
  rw[show idE (enOf j q.l[k])=a from hkid]at this
  exact this
theorem takes_bag {j:Nat}:∀(b:List Int) {l:List Qu} {q:Qu},l[j]? =some q→((vw l).map idE).Nodup→(∀e∈vw l,idE e∈b→e.j=j)→(vw (l.set j (qtakes q b))).Perm ((vw l).filter fun e=> !decide (idE e∈b))
 |[],l,q,h,hn,hj=>by
  rw[show qtakes q []=q from rfl,set_self h,List.filter_eq_self.2 (fun _ _=>by simp)]
 |a::b,l,q,h,hn,hj=>by
  have hlt:=(List.getElem?_eq_some_iff.1 h).1
  have p1:=take_bag (a:=a) h hn fun e he e2=>hj e he (by simp[e2])
  have h1:(l.set j (qtake q a))[j]? =some (qtake q a):=by rw[List.getElem?_set_self hlt]
  have hn1:((vw (l.set j (qtake q a))).map idE).Nodup:=(p1.map idE).nodup_iff.2 (hn.sublist (List.filter_sublist.map _))
  have p2:=takes_bag b h1 hn1 fun e he e2=>hj e (List.mem_filter.1 (p1.mem_iff.1 he)).1 (by simp[e2])
  rw[List.set_set]at p2
  refine p2.trans ((p1.filter _).trans (List.Perm.of_eq ?_))
  rw[List.filter_filter]
  refine List.filter_congr fun x _=>?_
  by_cases h1:idE x=a<;>by_cases h2:idE x∈b<;>simp[h1,h2]
theorem comes_bag {n:Nat}:∀(l:List (Ms×ByteArray)) {H:Ho},HoB n H→(∀x∈l,((0≤x.1.pri∧x.1.pri≤9)∧0≤x.1.id∧x.1.id≤1099511627776)∧∃i,H.qI x.2=some i)→
 ∃H1,hcomes H l=(H1,true)∧(hv H1).Perm (l.map (fun x=>(⟨4+(H.qI x.2).getD 0,x.1,-1,-1⟩:En))++hv H)∧keysOf H1=keysOf H∧H1.names=H.names∧H1.next=H.next∧Same H H1∧HoB (n+l.length) H1
 |[],H,hB,_=>⟨H,rfl,.refl _,rfl,rfl,rfl,.refl _,hB⟩
 |(m,t)::l,H,hB,h=>by
  obtain⟨hm,i,hi⟩:=h (m,t) (by simp)
  have hil:=(qI_lt hi).1
  have hB1:=(hB.le (Nat.le_succ n)).setQ ((hB.qa hil).pushed hm.1 hm.2 (-1)) i
  have p1:(hv (H.setQ i (qpush (H.qAt i) m (-1)))).Perm (⟨4+i,m,-1,-1⟩::hv H):=by
   unfold hv
   rw[all_setQ hB.ways]
   exact vw_push m (-1) (bag_q hB hil)
  have k1:keysOf (H.setQ i (qpush (H.qAt i) m (-1)))=keysOf H:=by unfold keysOf;exact setQ_fst i _
  obtain⟨H2,e2,p2,k2,n2,x2,s2,hB2⟩:=comes_bag (n:=n+1) l hB1 fun x hx=>by
   obtain⟨a,j,b⟩:=h x Y67
   exact⟨a,j,by rw[qI_keys k1];exact b⟩
  refine⟨H2,?_,?_,k2.trans k1,n2,x2,Same.trans (B:=H.setQ i (qpush (H.qAt i) m (-1))) ⟨rfl,rfl,rfl,rfl,rfl,rfl,rfl,rfl⟩ s2,hB2.le Y61⟩
  ·rw[hcomes,hi];exact e2
  ·refine p2.trans ?_
   have :(l.map fun x=>(⟨4+((H.setQ i (qpush (H.qAt i) m (-1))).qI x.2).getD 0,x.1,-1,-1⟩:En))=l.map fun x=>⟨4+(H.qI x.2).getD 0,x.1,-1,-1⟩:=by
    apply List.map_congr_left
    intro x _
    rw[qI_keys k1]
   rw[this,List.map_cons]
   dsimp only
   rw[hi,Option.getD_some,List.cons_append]
   refine((List.Perm.refl _).append p1).trans ?_
   exact List.perm_middle
theorem ints_join {l:List Int} (h0:l≠[]) (h:∀x∈l,intB x):intsO (joinS (l.map itoaS) sp)=some l:=by
 unfold intsO
 rw[show(sp:ByteArray)=chr1 32 from rfl,pcs_joinS Y51 (fun p hp=>by
  obtain⟨n,-,rfl⟩:=List.mem_map.1 hp
  exact itoa_noB _ (by decide))]
 clear h0
 induction l with
 |nil=>rfl
 |cons a l ih=>
  rw[List.map_cons,List.mapM_cons,numO_itoa (h a (by simp)),ih fun x hx=>h x Y67]
  rfl
theorem hplays_made {H:Ho} {k a:Int} {r:List Int} (hr:rightK H k=true) (hi:∀x∈a::r,intB x):
 hplays H (recBt k (a::r))=({H with batch:=H.batch.set k.toNat (a::r),sent:=H.sent.set k.toNat (snAt H k.toNat+1)},true):=by
 have h4:=rightK_iff.1 hr
 have e:intsO (joinS ((k::a::r).map itoaS) sp)=some (k::a::r):=ints_join (by simp) fun x hx=>by
  rcases List.mem_cons.1 hx with rfl|hx
  ·exact⟨by omega,by omega⟩
  ·exact hi x hx
 unfold hplays recBt
 rw[rec_cut (by decide)]
 dsimp only
 rw[if_neg (by decide),if_neg (by decide),if_neg (by decide),if_pos rfl]
 unfold hmade
 rw[e]
 dsimp only
 rw[if_pos hr]
theorem hplays_known {H:Ho} {k:Int} (hr:rightK H k=true):
 hplays H (recA k)=({H.setW k.toNat (qtakes (H.wAt k.toNat) (bcAt H k.toNat))with batch:=H.batch.set k.toNat []},true):=by
 have h4:=rightK_iff.1 hr
 have e:intsO (itoaS k)=some [k]:=by
  have :=ints_join (l:=[k]) (by simp) (fun x hx=>by simp at hx;subst hx;exact⟨by omega,by omega⟩)
  rwa [List.map_cons,List.map_nil,joinS_one]at this
 unfold hplays recA
 rw[rec_cut (by decide)]
 dsimp only
 rw[if_neg (by decide),if_neg (by decide),if_neg (by decide),if_neg (by decide),if_pos rfl]
 unfold hknown
 rw[e]
 dsimp only
 rw[if_pos hr]
theorem pcs43_zip {l:List Ms} {t:List ByteArray} (ht:∀x∈t,wordB x=true) (hlt:t.length=l.length):l.zip (pcs 43 (joinS t plus))=l.zip t:=by
 by_cases h0:t=[]
 ·subst h0
  have :l=[]:=by simpa using hlt.symm
  subst this;rfl
 ·rw[pcs_joinP h0 ht]
theorem hplays_came {H:Ho} {k:Int} {l:List Ms} {t:List ByteArray} {H1:Ho} (hr:rightK H k=true) (h:badI l=none) (ht:∀x∈t,wordB x=true) (hlt:t.length=l.length) (h1:hcomes H (l.zip t)=(H1,true)):
 hplays H (recR k l t)=({H1 with arrived:=H.arrived.set k.toNat (avAt H k.toNat+1)},true):=by
 have h4:=rightK_iff.1 hr
 have hp:=recR_parts (k:=k) (badI_all h) ht
 have hc:cutB 58 (recR k l t)=(chr1 114,itoaS k++chr1 47++(writeS l++chr1 47++joinS t plus),true):=by unfold recR;exact rec_cut (by decide) _
 unfold hplays
 rw[hc]at hp ⊢
 dsimp only at hp ⊢
 rw[if_neg (by decide),if_neg (by decide),if_neg (by decide),if_neg (by decide),if_neg (by decide),if_pos rfl]
 unfold hcame
 rw[hp]
 dsimp only
 rw[numO_itoa ⟨by omega,by omega⟩,mrd_write h]
 dsimp only
 rw[if_pos hr,pcs43_zip ht hlt,h1]
 dsimp only
 rw[if_pos rfl]
end WB
/- houses that send batches to each other: each message is once (no house's inner parts here) -/
namespace WB
open Go
structure Cr where
 bg:List (Nat×Ms)
 bt:Nat→List Int
 sn:Nat→Int
 av:Nat→Int
 nx:Int
def setC (C:Nat→Cr) (k:Nat) (c:Cr):Nat→Cr:=fun i=>if i=k then c else C i
theorem setC_eq (C:Nat→Cr) (k:Nat) (c:Cr):setC C k c k=c:=if_pos rfl
theorem setC_ne {C:Nat→Cr} {k i:Nat} {c:Cr} (h:i≠k):setC C k c i=C i:=if_neg h
def idY (y:Nat×Ms):Int:=y.2.id
def cam (n:Nat) (C:Nat→Cr) (k d:Nat):Bool:=decide ((C k).bt d≠[]∧d<n∧(C k).sn d≤(C d).av k)
def visC (n:Nat) (C:Nat→Cr) (k:Nat) (y:Nat×Ms):Bool:=decide (4≤y.1)||(decide (y.1≠k)&& !(cam n C k y.1&&decide (idY y∈(C k).bt y.1)))
def view (n:Nat) (C:Nat→Cr) (k:Nat):List Ms:=((C k).bg.filter (visC n C k)).map (·.2)
def ledC (n:Nat) (C:Nat→Cr):List Ms:=(List.range n).flatMap (view n C)
def batB (c:Cr) (d:Nat) (y:Nat×Ms):Bool:=decide (y.1=d)&&decide (idY y∈c.bt d)
def batL (c:Cr) (d:Nat):List Ms:=(c.bg.filter (batB c d)).map (·.2)
structure FrOk (n:Nat) (C:Nat→Cr) (g:Gm):Prop where
 ok:∃a b:Nat,g.f.frm=(a:Int)∧g.to=(b:Int)∧a<n∧b<n∧a≠b∧
  (g.f.ack=true→g.f.num≤(C a).av b)∧
  (g.f.ack=false→g.f.num≤(C a).sn b∧(g.f.num=(C a).sn b→(C b).av a<g.f.num→(C a).bt b≠[]∧g.l.Perm (batL (C a) b)))
structure GC (n:Nat) (C:Nat→Cr) (way:List Gm) (T:List Ms):Prop where
 led:(ledC n C).Perm T
 tn:(T.map (·.id)).Nodup
 org:∀m∈T,∃o:Nat,o<n∧m.id%4=(o:Int)∧m.id/4<(C o).nx
 nod:∀k,k<n→((C k).bg.map idY).Nodup
 bin:∀k,k<n→∀d,∀i∈(C k).bt d,d<4∧∃y∈(C k).bg,y.1=d∧idY y=i
 pr:∀k d,k<n→d<n→k≠d→(C d).av k≤(C k).sn d∧(C k).sn d≤(C d).av k+1∧((C k).bt d=[]→(C d).av k=(C k).sn d)
 fr:∀g∈way,FrOk n C g
theorem flatC_one {α:Type} {n k:Nat} (hk:k<n) (f:Nat→List α):∃R,∀f':Nat→List α,(∀i,i≠k→f' i=f i)→((List.range n).flatMap f').Perm (f' k++R):=by
 have hp:(List.range n).Perm (k::(List.range n).erase k):=List.perm_cons_erase (List.mem_range.2 hk)
 have hn:=hp.nodup_iff.1 List.nodup_range
 rw[List.nodup_cons]at hn
 refine⟨((List.range n).erase k).flatMap f,fun f' h=>?_⟩
 refine(hp.flatMap_right f').trans (List.Perm.of_eq ?_)
 rw[List.flatMap_cons]
 congr 1
 exact flat_cg fun i hi=>h i fun e=>hn.1 (e▸hi)
where flat_cg {α:Type} {f g:Nat→List α}:∀{l:List Nat},(∀x∈l,f x=g x)→l.flatMap f=l.flatMap g
 |[],_=>rfl
 |a::l,h=>by rw[List.flatMap_cons,List.flatMap_cons,h a (by simp),flat_cg fun x hx=>h x Y67]
theorem flatC_two {α:Type} {n k d:Nat} (hk:k<n) (hd:d<n) (hkd:k≠d) (f:Nat→List α):∃R,∀f':Nat→List α,(∀i,i≠k→i≠d→f' i=f i)→((List.range n).flatMap f').Perm (f' k++(f' d++R)):=by
 have hp:(List.range n).Perm (k::(List.range n).erase k):=List.perm_cons_erase (List.mem_range.2 hk)
 have hn:=hp.nodup_iff.1 List.nodup_range
 rw[List.nodup_cons]at hn
 have hd2:d∈(List.range n).erase k:=by
  rcases List.mem_cons.1 (hp.mem_iff.1 (List.mem_range.2 hd))with e|e
  ·exact absurd e.symm hkd
  ·exact e
 have hp2:=List.perm_cons_erase hd2
 have hn2:=hp2.nodup_iff.1 hn.2
 rw[List.nodup_cons]at hn2
 refine⟨(((List.range n).erase k).erase d).flatMap f,fun f' h=>?_⟩
 refine((hp.trans (hp2.cons k)).flatMap_right f').trans (List.Perm.of_eq ?_)
 rw[List.flatMap_cons,List.flatMap_cons]
 congr 2
 exact flatC_one.flat_cg fun i hi=>h i (fun e=>hn.1 (e▸hp2.mem_iff.2 (List.mem_cons_of_mem _ hi))) fun e=>hn2.1 (e▸hi)
theorem nodup_of_map {α β:Type} {f:α→β} {l:List α} (h:(l.map f).Nodup) {x y:α} (hx:x∈l) (hy:y∈l) (e:f x=f y):x=y:=by
 induction l with
 |nil=>cases hx
 |cons a l ih=>
  rw[List.map_cons,List.nodup_cons]at h
  rcases List.mem_cons.1 hx with h1|h1<;>rcases List.mem_cons.1 hy with h2|h2
  ·rw[h1,h2]
  ·exact absurd (by rw[←h1,e];exact List.mem_map_of_mem (f:=f) h2) h.1
  ·exact absurd (by rw[←h2,←e];exact List.mem_map_of_mem (f:=f) h1) h.1
  ·exact ih h.2 h1 h2
theorem GC.sub {n:Nat} {C:Nat→Cr} {way way':List Gm} {T:List Ms} (h:GC n C way T) (hw:∀g∈way',g∈way∨FrOk n C g):GC n C way' T:=
 ⟨h.led,h.tn,h.org,h.nod,h.bin,h.pr,fun g hg=>(hw g hg).elim (h.fr g) id⟩
theorem GC.perm {n:Nat} {C:Nat→Cr} {way:List Gm} {T T':List Ms} (h:GC n C way T) (hT:T.Perm T'):GC n C way T':=
 ⟨h.led.trans hT,(hT.map _).nodup_iff.1 h.tn,fun m hm=>h.org m (hT.mem_iff.2 hm),h.nod,h.bin,h.pr,h.fr⟩
section
variable {n k d:Nat} {C:Nat→Cr} {way:List Gm} {T:List Ms} {c:Cr}
theorem view_congr {C':Nat→Cr} {i:Nat} (h1:(C' i).bg=(C i).bg) (h2:∀y,visC n C' i y=visC n C i y):view n C' i=view n C i:=by
 unfold view
 rw[h1]
 congr 1
 exact List.filter_congr fun y _=>h2 y
theorem GC.commit (h:GC n C way T) (hk:k<n) {P:List (Nat×Ms)} {G:List Int} (hbg:c.bg.Perm ((P++(C k).bg).filter fun y=> !decide (idY y∈G))) (hbt:c.bt=(C k).bt) (hsn:c.sn=(C k).sn) (hav:c.av=(C k).av) (hnx:(C k).nx≤c.nx)
 (hP:∀y∈P,(4≤y.1∨y.1≠k)∧idY y%4=(k:Int)∧idY y/4<c.nx) (hPn:(P.map idY).Nodup) (hPf:∀y∈P,idY y∉T.map (·.id)) (hPb:∀y∈P,idY y∉(C k).bg.map idY) (hG:∀i∈G,∃y∈(C k).bg,4≤y.1∧idY y=i):
 GC n (setC C k c) way ((P.map (·.2)++T).filter fun m=> !decide (m.id∈G)):=by
 have e1:∀a,(setC C k c a).bt=(C a).bt:=fun a=>by by_cases e:a=k;(rw[e,setC_eq,hbt]);(rw[setC_ne e])
 have e2:∀a,(setC C k c a).sn=(C a).sn:=fun a=>by by_cases e:a=k;(rw[e,setC_eq,hsn]);(rw[setC_ne e])
 have e3:∀a,(setC C k c a).av=(C a).av:=fun a=>by by_cases e:a=k;(rw[e,setC_eq,hav]);(rw[setC_ne e])
 have hcam:∀a b,cam n (setC C k c) a b=cam n C a b:=fun a b=>by unfold cam;rw[e1,e2,e3]
 have hvis:∀a y,visC n (setC C k c) a y=visC n C a y:=fun a y=>by unfold visC;rw[hcam,e1]
 have hPt:∀y∈P,∀b,idY y∉(C k).bt b:=fun y hy b hb=>by
  obtain⟨-,z,hz,-,e⟩:=h.bin k hk b _ hb
  exact hPb y hy (e▸List.mem_map_of_mem hz)
 have hPv:∀y∈P,visC n C k y=true:=fun y hy=>by
  unfold visC
  rcases(hP y hy).1 with h1|h1
  ·simp[h1]
  ·simp[h1,hPt y hy]
 obtain⟨R,hR⟩:=flatC_one hk (view n C)
 have hV:=hR (view n C) fun _ _=>rfl
 have hV':=hR (view n (setC C k c)) fun i hi=>view_congr (by rw[setC_ne hi]) (hvis i)
 have hids:(((view n C k++R)).map (·.id)).Nodup:=(((hV.symm.trans h.led).map (·.id)).nodup_iff).2 h.tn
 have hvk:(view n (setC C k c) k).Perm ((P.map (·.2)++view n C k).filter fun m=> !decide (m.id∈G)):=by
  unfold view
  rw[setC_eq]
  refine((hbg.filter _).map _).trans (List.Perm.of_eq ?_)
  rw[show(visC n (setC C k c) k)=visC n C k from funext (hvis k)]
  have :(P.map (·.2)++(((C k).bg.filter (visC n C k)).map (·.2)))=((P++(C k).bg).filter (visC n C k)).map (·.2):=by
   rw[List.filter_append,List.map_append,List.filter_eq_self.2 hPv]
  rw[this,List.filter_map,List.filter_filter,List.filter_filter]
  congr 1
  apply List.filter_congr
  intro y _
  rw[Bool.and_comm];rfl
 have hRG:R.filter (fun m=> !decide (m.id∈G))=R:=by
  rw[List.filter_eq_self]
  intro m hm
  have :m.id∉G:=fun hg=>by
   obtain⟨y,hy,h4,e⟩:=hG _ hg
   have hyV:y.2∈view n C k:=by
    unfold view
    exact List.mem_map_of_mem (List.mem_filter.2 ⟨hy,by unfold visC;simp[h4]⟩)
   rw[List.map_append,List.nodup_append]at hids
   exact hids.2.2 _ (List.mem_map_of_mem (f:=(·.id)) hyV) _ (List.mem_map_of_mem (f:=(·.id)) hm) e
  simpa using this
 have hled:(ledC n (setC C k c)).Perm ((P.map (·.2)++T).filter fun m=> !decide (m.id∈G)):=by
  refine hV'.trans ((hvk.append_right R).trans ?_)
  have h5:((P.map (·.2)++T).filter fun m=> !decide (m.id∈G)).Perm ((P.map (·.2)++(view n C k++R)).filter fun m=> !decide (m.id∈G)):=
   List.Perm.filter _ ((List.Perm.refl _).append (h.led.symm.trans hV))
  refine List.Perm.trans (List.Perm.of_eq ?_) h5.symm
  rw[←List.append_assoc,List.filter_append (l₁:=List.map (fun x=>x.snd) P++view n C k),hRG]
 refine⟨hled,?_,fun m hm=>?_,fun a ha=>?_,fun a ha b i hi=>?_,fun a b ha hb hab=>?_,fun g hg=>?_⟩
 ·refine List.Nodup.sublist (List.filter_sublist.map _) ?_
  rw[List.map_append,List.map_map,List.nodup_append]
  refine⟨hPn,h.tn,fun x hx y hy=>?_⟩
  obtain⟨z,hz,rfl⟩:=List.mem_map.1 hx
  exact fun e=>hPf z hz (by rw[show idY z=y from e];exact hy)
 ·rcases List.mem_append.1 (List.mem_filter.1 hm).1 with h1|h1
  ·obtain⟨y,hy,rfl⟩:=List.mem_map.1 h1
   exact⟨k,hk,(hP y hy).2.1,by rw[setC_eq];exact(hP y hy).2.2⟩
  ·obtain⟨o,ho,a,b⟩:=h.org m h1
   refine⟨o,ho,a,?_⟩
   by_cases e:o=k
   ·subst e;rw[setC_eq];omega
   ·rw[setC_ne e];exact b
 ·by_cases e:a=k
  ·subst e
   rw[setC_eq]
   refine(hbg.map idY).nodup_iff.2 (List.Nodup.sublist (List.filter_sublist.map _) ?_)
   rw[List.map_append,List.nodup_append]
   refine⟨hPn,h.nod a ha,fun x hx y hy=>?_⟩
   obtain⟨z,hz,rfl⟩:=List.mem_map.1 hx
   exact fun e=>hPb z hz (e▸hy)
  ·rw[setC_ne e];exact h.nod a ha
 ·rw[e1]at hi
  obtain⟨hb4,y,hy,e4,e5⟩:=h.bin a ha b i hi
  refine⟨hb4,y,?_,e4,e5⟩
  by_cases e:a=k
  ·subst e
   rw[setC_eq,hbg.mem_iff,List.mem_filter]
   refine⟨List.mem_append_right _ hy,?_⟩
   have :idY y∉G:=fun hg=>by
    obtain⟨z,hz,h4,e6⟩:=hG _ hg
    have :=nodup_of_map (h.nod a ha) hz hy e6
    subst this;omega
   simpa using this
  ·rw[setC_ne e];exact hy
 ·rw[e1,e2,e3];exact h.pr a b ha hb hab
 ·obtain⟨a,b,f1,f2,f3,f4,f5,f6,f7⟩:=(h.fr g hg).ok
  refine⟨a,b,f1,f2,f3,f4,f5,fun hh=>by rw[e3];exact f6 hh,fun hh=>?_⟩
  obtain⟨f8,f9⟩:=f7 hh
  refine⟨by rw[e2];exact f8,fun g1 g2=>?_⟩
  rw[e2]at g1
  rw[e3]at g2
  obtain⟨f10,f11⟩:=f9 g1 g2
  refine⟨by rw[e1];exact f10,f11.trans ?_⟩
  by_cases e:a=k
  ·subst e
   rw[setC_eq]
   unfold batL
   refine List.Perm.map _ (List.Perm.trans (List.Perm.of_eq ?_) (hbg.filter _).symm)
   rw[List.filter_filter,List.filter_append]
   have a1:P.filter (fun y=>batB c b y&& !decide (idY y∈G))=[]:=by
    rw[List.filter_eq_nil_iff]
    intro y hy
    unfold batB
    rw[hbt]
    simp[hPt y hy b]
   rw[a1,List.nil_append]
   apply List.filter_congr
   intro y hy
   unfold batB
   rw[hbt]
   by_cases hm:y.1=b∧idY y∈(C a).bt b
   ·have :idY y∉G:=fun hg=>by
     obtain⟨z,hz,h4,e6⟩:=hG _ hg
     have :=nodup_of_map (h.nod a hk) hz hy e6
     subst this
     have :=(h.bin a hk b _ hm.2).1
     omega
    simp[hm.1,hm.2,this]
   ·by_cases h1:y.1=b
    ·have h2:idY y∉(C a).bt b:=fun h2=>hm ⟨h1,h2⟩
     simp[h1,h2]
    ·simp[h1]
  ·rw[setC_ne e]
theorem GC.made (h:GC n C way T) (hk:k<n) (hd:d<n) (hkd:k≠d) (hd4:d<4) {l:List Int} (hl:l≠[]) (h0:(C k).bt d=[]) (hli:∀i∈l,∃y∈(C k).bg,y.1=d∧idY y=i)
 (hbg:c.bg=(C k).bg) (hbt:∀b,c.bt b=if b=d then l else(C k).bt b) (hsn:∀b,c.sn b=if b=d then(C k).sn d+1 else(C k).sn b) (hav:c.av=(C k).av) (hnx:c.nx=(C k).nx):
 GC n (setC C k c) way T:=by
 have e3:∀a,(setC C k c a).av=(C a).av:=fun a=>by by_cases e:a=k;(rw[e,setC_eq,hav]);(rw[setC_ne e])
 have e4:∀a,(setC C k c a).bg=(C a).bg:=fun a=>by by_cases e:a=k;(rw[e,setC_eq,hbg]);(rw[setC_ne e])
 have e1:∀a b,(a=k∧b=d)∨((setC C k c a).bt b=(C a).bt b∧(setC C k c a).sn b=(C a).sn b∧¬(a=k∧b=d)):=fun a b=>by
  by_cases e:a=k
  ·by_cases e':b=d
   ·exact .inl ⟨e,e'⟩
   ·rw[e,setC_eq,hbt,hsn,if_neg e',if_neg e'];exact .inr ⟨rfl,rfl,fun x=>e' x.2⟩
  ·rw[setC_ne e];exact .inr ⟨rfl,rfl,fun x=>e x.1⟩
 have ek:(setC C k c k).bt d=l∧(setC C k c k).sn d=(C k).sn d+1:=by rw[setC_eq,hbt,hsn,if_pos rfl,if_pos rfl];exact⟨rfl,rfl⟩
 have hpr:=h.pr k d hk hd hkd
 have hcam:∀a b,cam n (setC C k c) a b=cam n C a b:=fun a b=>by
  rcases e1 a b with⟨rfl,rfl⟩|⟨x,y,-⟩
  ·unfold cam;rw[ek.1,ek.2,e3,h0]
   have :¬((C a).sn b+1≤(C b).av a):=by have :=hpr.1;omega
   simp[this]
  ·unfold cam;rw[x,y,e3]
 have hcf:cam n C k d=false:=by unfold cam;rw[h0];simp
 have hvis:∀a y,visC n (setC C k c) a y=visC n C a y:=fun a y=>by
  unfold visC
  rw[hcam]
  rcases e1 a y.1 with⟨rfl,h2⟩|⟨x,-,-⟩
  ·rw[h2,hcf];simp
  ·rw[x]
 refine⟨?_,h.tn,fun m hm=>?_,fun a ha=>by rw[e4];exact h.nod a ha,fun a ha b i hi=>?_,fun a b ha hb hab=>?_,fun g hg=>?_⟩
 ·have :ledC n (setC C k c)=ledC n C:=by
   unfold ledC
   congr 1
   funext i
   exact view_congr (e4 i) (hvis i)
  rw[this];exact h.led
 ·obtain⟨o,ho,a,b⟩:=h.org m hm
  refine⟨o,ho,a,?_⟩
  by_cases e:o=k
  ·subst e;rw[setC_eq,hnx];exact b
  ·rw[setC_ne e];exact b
 ·rw[e4]
  rcases e1 a b with⟨rfl,rfl⟩|⟨x,-,-⟩
  ·rw[ek.1]at hi;exact⟨hd4,hli i hi⟩
  ·rw[x]at hi;exact h.bin a ha b i hi
 ·rw[e3]
  rcases e1 a b with⟨rfl,rfl⟩|⟨x,y,-⟩
  ·rw[ek.1,ek.2]
   have :=hpr.2.2 h0
   exact⟨by omega,by omega,fun h2=>absurd h2 hl⟩
  ·rw[x,y];exact h.pr a b ha hb hab
 ·obtain⟨a,b,f1,f2,f3,f4,f5,f6,f7⟩:=(h.fr g hg).ok
  refine⟨a,b,f1,f2,f3,f4,f5,fun hh=>by rw[e3];exact f6 hh,fun hh=>?_⟩
  obtain⟨f8,f9⟩:=f7 hh
  rcases e1 a b with⟨rfl,rfl⟩|⟨x,y,-⟩
  ·rw[ek.2]
   exact⟨by omega,fun h2=>by omega⟩
  ·rw[x,y,e3]
   refine⟨f8,fun g1 g2=>⟨(f9 g1 g2).1,(f9 g1 g2).2.trans (List.Perm.of_eq ?_)⟩⟩
   unfold batL
   rw[e4]
   congr 2
   funext z
   unfold batB
   rw[x]
theorem GC.came (h:GC n C way T) (hk:k<n) (hd:d<n) (hkd:k≠d) (hn4:n≤4) {P:List (Nat×Ms)} (hP:∀y∈P,4≤y.1) (hb0:(C k).bt d≠[]) (hs:(C k).sn d=(C d).av k+1) (hl:(P.map (·.2)).Perm (batL (C k) d))
 (hbg:c.bg.Perm (P++(C d).bg)) (hnod:(c.bg.map idY).Nodup) (hbt:c.bt=(C d).bt) (hsn:c.sn=(C d).sn) (hav:∀b,c.av b=if b=k then(C d).av k+1 else(C d).av b) (hnx:c.nx=(C d).nx):
 GC n (setC C d c) way T:=by
 have e1:∀a,(setC C d c a).bt=(C a).bt:=fun a=>by by_cases e:a=d;(rw[e,setC_eq,hbt]);(rw[setC_ne e])
 have e2:∀a,(setC C d c a).sn=(C a).sn:=fun a=>by by_cases e:a=d;(rw[e,setC_eq,hsn]);(rw[setC_ne e])
 have e3:∀a b,(a=d∧b=k)∨((setC C d c a).av b=(C a).av b∧¬(a=d∧b=k)):=fun a b=>by
  by_cases e:a=d
  ·by_cases e':b=k
   ·exact .inl ⟨e,e'⟩
   ·rw[e,setC_eq,hav,if_neg e'];exact .inr ⟨rfl,fun x=>e' x.2⟩
  ·rw[setC_ne e];exact .inr ⟨rfl,fun x=>e x.1⟩
 have ek:(setC C d c d).av k=(C d).av k+1:=by rw[setC_eq,hav,if_pos rfl]
 have hcam:∀a b,¬(b=d∧a=k)→cam n (setC C d c) a b=cam n C a b:=fun a b hab=>by
  rcases e3 b a with h1|⟨x,-⟩
  ·exact absurd h1 hab
  ·unfold cam;rw[e1,e2,x]
 have hct:cam n (setC C d c) k d=true:=by unfold cam;rw[e1,e2,ek];simp[hb0,hd,hs]
 have hcf:cam n C k d=false:=by unfold cam;rw[hs];simp;intros;omega
 have hvis:∀a y,¬(a=k∧y.1=d)→visC n (setC C d c) a y=visC n C a y:=fun a y hay=>by
  unfold visC
  rw[hcam a y.1 (fun x=>hay ⟨x.2,x.1⟩),e1]
 have hd4:d<4:=by omega
 obtain⟨R,hR⟩:=flatC_two hk hd hkd (view n C)
 have hV:=hR (view n C) fun _ _ _=>rfl
 have hV':=hR (view n (setC C d c)) fun i hi hi2=>view_congr (by rw[setC_ne hi2]) fun y=>hvis i y fun x=>hi x.1
 have hvk:(view n C k).Perm (batL (C k) d++view n (setC C d c) k):=by
  unfold view batL
  rw[setC_ne hkd,←List.map_append]
  refine List.Perm.map _ ?_
  have h1:(C k).bg.filter (visC n (setC C d c) k)=((C k).bg.filter (visC n C k)).filter fun y=> !batB (C k) d y:=by
   rw[List.filter_filter]
   apply List.filter_congr
   intro y _
   by_cases e:y.1=d
   ·unfold visC batB
    rw[e,hct,hcf,e1]
    have :¬4≤d:=by omega
    have :d≠k:=fun e=>hkd e.symm
    by_cases hm:idY y∈(C k).bt d<;>simp[*]
   ·rw[hvis k y fun x=>e x.2]
    unfold batB
    simp[e]
  have h2:(C k).bg.filter (batB (C k) d)=((C k).bg.filter (visC n C k)).filter (batB (C k) d):=by
   rw[List.filter_filter]
   apply List.filter_congr
   intro y _
   by_cases e:y.1=d
   ·unfold visC batB
    rw[e,hcf]
    have :d≠k:=fun e=>hkd e.symm
    simp[this]
   ·unfold batB
    simp[e]
  rw[h1,h2]
  exact(List.filter_append_perm _ _).symm
 have hvd:(view n (setC C d c) d).Perm (P.map (·.2)++view n C d):=by
  unfold view
  rw[setC_eq]
  refine((hbg.filter _).map _).trans (List.Perm.of_eq ?_)
  rw[List.filter_append,List.map_append]
  congr 1
  ·rw[List.filter_eq_self.2]
   intro y hy
   unfold visC
   simp[hP y hy]
  ·congr 1
   exact List.filter_congr fun y _=>hvis d y fun x=>hkd x.1.symm
 have hled:(ledC n (setC C d c)).Perm (ledC n C):=by
  refine hV'.trans (List.Perm.trans ?_ hV.symm)
  refine((List.Perm.refl _).append ((hvd.trans (hl.append_right _)).append_right R)).trans ?_
  refine List.Perm.trans ?_ (hvk.append_right _).symm
  have h5:∀A B E F:List Ms,(A++((B++E)++F)).Perm ((B++A)++(E++F)):=fun A B E F=>by
   rw[List.append_assoc,←List.append_assoc]
   exact List.perm_append_comm.append_right _
  exact h5 _ _ _ _
 have hbat:∀a b,b<n→(batL (C a) b).Perm (batL (setC C d c a) b):=fun a b hb=>by
  by_cases e:a=d
  ·subst e
   rw[setC_eq]
   unfold batL
   refine List.Perm.map _ (List.Perm.trans (List.Perm.of_eq ?_) (hbg.filter _).symm)
   rw[List.filter_append]
   have a1:P.filter (batB c b)=[]:=by
    rw[List.filter_eq_nil_iff]
    intro y hy
    have :=hP y hy
    unfold batB
    have :y.1≠b:=by omega
    simp[this]
   rw[a1,List.nil_append]
   apply List.filter_congr
   intro y _
   unfold batB
   rw[hbt]
  ·rw[setC_ne e]
 refine⟨hled.trans h.led,h.tn,fun m hm=>?_,fun a ha=>?_,fun a ha b i hi=>?_,fun a b ha hb hab=>?_,fun g hg=>?_⟩
 ·obtain⟨o,ho,a,b⟩:=h.org m hm
  refine⟨o,ho,a,?_⟩
  by_cases e:o=d
  ·subst e;rw[setC_eq,hnx];exact b
  ·rw[setC_ne e];exact b
 ·by_cases e:a=d
  ·subst e;rw[setC_eq];exact hnod
  ·rw[setC_ne e];exact h.nod a ha
 ·rw[e1]at hi
  obtain⟨hb4,y,hy,e4,e5⟩:=h.bin a ha b i hi
  refine⟨hb4,y,?_,e4,e5⟩
  by_cases e:a=d
  ·subst e;rw[setC_eq,hbg.mem_iff];exact List.mem_append_right _ hy
  ·rw[setC_ne e];exact hy
 ·rw[e1,e2]
  have :=h.pr a b ha hb hab
  rcases e3 b a with⟨rfl,rfl⟩|⟨x,-⟩
  ·rw[ek];exact⟨by omega,by omega,fun h2=>absurd h2 hb0⟩
  ·rw[x];exact this
 ·obtain⟨a,b,f1,f2,f3,f4,f5,f6,f7⟩:=(h.fr g hg).ok
  refine⟨a,b,f1,f2,f3,f4,f5,fun hh=>?_,fun hh=>?_⟩
  ·rcases e3 a b with⟨rfl,rfl⟩|⟨x,-⟩
   ·have :=f6 hh;omega
   ·rw[x];exact f6 hh
  ·obtain⟨f8,f9⟩:=f7 hh
   rw[e2]
   refine⟨f8,fun g1 g2=>?_⟩
   rcases e3 b a with⟨rfl,rfl⟩|⟨x,-⟩
   ·rw[ek]at g2;omega
   ·rw[x]at g2
    rw[e1]
    exact⟨(f9 g1 g2).1,(f9 g1 g2).2.trans (hbat a b f4)⟩
theorem GC.known (h:GC n C way T) (hk:k<n) (hd:d<n) (hkd:k≠d) (hn4:n≤4) (hb0:(C k).bt d≠[]) (hs:(C k).sn d≤(C d).av k)
 (hbg:c.bg.Perm ((C k).bg.filter fun y=> !decide (idY y∈(C k).bt d))) (hbt:∀b,c.bt b=if b=d then[]else(C k).bt b) (hsn:c.sn=(C k).sn) (hav:c.av=(C k).av) (hnx:c.nx=(C k).nx):
 GC n (setC C k c) way T:=by
 have e2:∀a,(setC C k c a).sn=(C a).sn:=fun a=>by by_cases e:a=k;(rw[e,setC_eq,hsn]);(rw[setC_ne e])
 have e3:∀a,(setC C k c a).av=(C a).av:=fun a=>by by_cases e:a=k;(rw[e,setC_eq,hav]);(rw[setC_ne e])
 have e1:∀a b,(a=k∧b=d)∨((setC C k c a).bt b=(C a).bt b∧¬(a=k∧b=d)):=fun a b=>by
  by_cases e:a=k
  ·by_cases e':b=d
   ·exact .inl ⟨e,e'⟩
   ·rw[e,setC_eq,hbt,if_neg e'];exact .inr ⟨rfl,fun x=>e' x.2⟩
  ·rw[setC_ne e];exact .inr ⟨rfl,fun x=>e x.1⟩
 have ek:(setC C k c k).bt d=[]:=by rw[setC_eq,hbt,if_pos rfl]
 have hd4:d<4:=by omega
 have hdk:d≠k:=fun e=>hkd e.symm
 have hcam:∀a b,¬(a=k∧b=d)→cam n (setC C k c) a b=cam n C a b:=fun a b hab=>by
  rcases e1 a b with h1|⟨x,-⟩
  ·exact absurd h1 hab
  ·unfold cam;rw[x,e2,e3]
 have hct:cam n C k d=true:=by unfold cam;simp[hb0,hd,hs]
 have hcf:cam n (setC C k c) k d=false:=by unfold cam;rw[ek];simp
 have hvis:∀a y,¬(a=k∧y.1=d)→visC n (setC C k c) a y=visC n C a y:=fun a y hay=>by
  unfold visC
  rw[hcam a y.1 hay]
  rcases e1 a y.1 with h1|⟨x,-⟩
  ·exact absurd h1 hay
  ·rw[x]
 have hin:∀y∈(C k).bg,idY y∈(C k).bt d→y.1=d:=fun y hy hm=>by
  obtain⟨-,z,hz,e4,e5⟩:=h.bin k hk d _ hm
  rw[←nodup_of_map (h.nod k hk) hz hy e5];exact e4
 obtain⟨R,hR⟩:=flatC_one hk (view n C)
 have hV:=hR (view n C) fun _ _=>rfl
 have hV':=hR (view n (setC C k c)) fun i hi=>view_congr (by rw[setC_ne hi]) fun y=>hvis i y fun x=>hi x.1
 have hvk:(view n (setC C k c) k).Perm (view n C k):=by
  unfold view
  rw[setC_eq]
  refine((hbg.filter _).map _).trans (List.Perm.of_eq ?_)
  rw[List.filter_filter]
  congr 1
  apply List.filter_congr
  intro y hy
  by_cases e:y.1=d
  ·unfold visC
   rw[e,hct,hcf]
   have :¬4≤d:=by omega
   by_cases hm:idY y∈(C k).bt d<;>simp[*]
  ·rw[hvis k y fun x=>e x.2]
   have :idY y∉(C k).bt d:=fun hm=>e (hin y hy hm)
   simp[this]
 have hbat:∀a b,¬(a=k∧b=d)→(batL (C a) b).Perm (batL (setC C k c a) b):=fun a b hab=>by
  by_cases e:a=k
  ·subst e
   rw[setC_eq]
   unfold batL
   refine List.Perm.map _ (List.Perm.trans (List.Perm.of_eq ?_) (hbg.filter _).symm)
   rw[List.filter_filter]
   apply List.filter_congr
   intro y hy
   unfold batB
   have hbd:b≠d:=fun e=>hab ⟨rfl,e⟩
   rw[hbt,if_neg hbd]
   by_cases e:y.1=b
   ·have :idY y∉(C a).bt d:=fun hm=>hbd (e.symm.trans (hin y hy hm))
    simp[this]
   ·simp[e]
  ·rw[setC_ne e]
 refine⟨hV'.trans ((hvk.append_right R).trans (hV.symm.trans h.led)),h.tn,fun m hm=>?_,fun a ha=>?_,fun a ha b i hi=>?_,fun a b ha hb hab=>?_,fun g hg=>?_⟩
 ·obtain⟨o,ho,a,b⟩:=h.org m hm
  refine⟨o,ho,a,?_⟩
  by_cases e:o=k
  ·subst e;rw[setC_eq,hnx];exact b
  ·rw[setC_ne e];exact b
 ·by_cases e:a=k
  ·subst e;rw[setC_eq];exact(hbg.map idY).nodup_iff.2 ((h.nod a ha).sublist (List.filter_sublist.map _))
  ·rw[setC_ne e];exact h.nod a ha
 ·rcases e1 a b with⟨rfl,rfl⟩|⟨x,hab⟩
  ·rw[ek]at hi;cases hi
  ·rw[x]at hi
   obtain⟨hb4,y,hy,e4,e5⟩:=h.bin a ha b i hi
   refine⟨hb4,y,?_,e4,e5⟩
   by_cases e:a=k
   ·subst e
    rw[setC_eq,hbg.mem_iff,List.mem_filter]
    refine⟨hy,?_⟩
    have :idY y∉(C a).bt d:=fun hm=>hab ⟨rfl,e4.symm.trans (hin y hy hm)⟩
    simpa using this
   ·rw[setC_ne e];exact hy
 ·rw[e2,e3]
  have :=h.pr a b ha hb hab
  rcases e1 a b with⟨rfl,rfl⟩|⟨x,-⟩
  ·exact⟨this.1,this.2.1,fun _=>by omega⟩
  ·rw[x];exact this
 ·obtain⟨a,b,f1,f2,f3,f4,f5,f6,f7⟩:=(h.fr g hg).ok
  refine⟨a,b,f1,f2,f3,f4,f5,fun hh=>by rw[e3];exact f6 hh,fun hh=>?_⟩
  obtain⟨f8,f9⟩:=f7 hh
  rw[e2,e3]
  refine⟨f8,fun g1 g2=>?_⟩
  rcases e1 a b with⟨rfl,rfl⟩|⟨x,hab⟩
  ·omega
  ·rw[x]
   exact⟨(f9 g1 g2).1,(f9 g1 g2).2.trans (hbat a b hab)⟩
end
end WB
/- a house of a world and its disk, whatever is done: what holds all the time -/
namespace WB
open Go
def crOf (H:Ho):Cr:=⟨(hv H).map jmE,bcAt H,snAt H,avAt H,H.next⟩
structure UJ (H:Ho) (u:Nat) (x:Unt):Prop where
 puts:∀p∈x.puts,(p.1.house=H.id→∃i,H.qI p.1.queue=some i)∧p.1.id%4=H.id∧∃e∈hv H,e.j=jOf H p.1∧e.m=p.1∧e.put=(u:Int)
 pn:(x.puts.map fun p=>p.1.id).Nodup
 gets:∀g∈x.gets,∃i,H.qI g.2=some i∧∃e∈hv H,e.j=4+i∧idE e=g.1∧e.put<0∧e.got=(u:Int)
 gn:(x.gets.map (·.1)).Nodup
structure HI (k:Nat) (H:Ho) (D:Dk) (H0:Ho):Prop where
 hid:H.id=(k:Int)
 rcd:∃R,DkInv D R∧Plays (hNew k) R H0∧H.used=R.length
 names:H0.names=H.names
 keys:keysOf H0=keysOf H
 bt:H0.batch=H.batch
 sn:H0.sent=H.sent
 av:H0.arrived=H.arrived
 dead:∃i,H.qI deadS=some i
 free0:∀e∈hv H0,e.put= -1∧e.got= -1
 sim:(hk H).Perm ((hv H0).map jmE)
 nod:((hv H).map idE).Nodup
 wy:∀e∈hv H,e.j<4→e.m.id%4=(k:Int)
 lt:∀e∈hv H,e.m.id%4=(k:Int)→e.m.id/4<H.next
 lt0:∀e∈hv H0,e.m.id%4=(k:Int)→e.m.id/4<H0.next
 nx:H0.next≤H.next
 unit:∀(u:Nat) x,H.units[u]? =some x→UJ H u x
 bin:∀d,∀i∈bcAt H d,∃y∈hk H,y.1=d∧idY y=i
section
variable {c kb k n:Nat} {H H0:Ho} {D:Dk}
theorem HI.upd (h:HI k H D H0) {H':Ho} (e1:H'.id=H.id) (e2:H'.used=H.used) (e3:H'.names=H.names) (e4:keysOf H'=keysOf H) (e5:H'.batch=H.batch) (e6:H'.sent=H.sent) (e7:H'.arrived=H.arrived)
 (sim:(hk H').Perm (hk H)) (nod:((hv H').map idE).Nodup) (wy:∀e∈hv H',e.j<4→e.m.id%4=(k:Int)) (lt:∀e∈hv H',e.m.id%4=(k:Int)→e.m.id/4<H'.next) (nx:H.next≤H'.next) (unit:∀(u:Nat) x,H'.units[u]? =some x→UJ H' u x):HI k H' D H0:=by
 obtain⟨R,r1,r2,r3⟩:=h.rcd
 obtain⟨i,hi⟩:=h.dead
 refine⟨by rw[e1,h.hid],⟨R,r1,r2,by rw[e2,r3]⟩,by rw[e3,h.names],by rw[e4,h.keys],by rw[e5,h.bt],by rw[e6,h.sn],by rw[e7,h.av],⟨i,by rw[qI_keys e4];exact hi⟩,h.free0,sim.trans h.sim,nod,wy,lt,h.lt0,by have :=h.nx;omega,unit,fun d i hi=>?_⟩
 have :bcAt H' d=bcAt H d:=by unfold bcAt;rw[e5]
 rw[this]at hi
 obtain⟨y,hy,a,b⟩:=h.bin d i hi
 exact⟨y,sim.mem_iff.2 hy,a,b⟩
theorem UJ.same {H':Ho} {u:Nat} {x:Unt} (h:UJ H u x) (e1:H'.id=H.id) (e2:H'.queues=H.queues) (e3:H'.ways=H.ways):UJ H' u x:=by
 have e4:hv H'=hv H:=by unfold hv Ho.all;rw[e2,e3]
 have e5:keysOf H'=keysOf H:=by unfold keysOf;rw[e2]
 refine⟨fun p hp=>?_,h.pn,fun g hg=>?_,h.gn⟩
 ·obtain⟨a,b,e,he,r⟩:=h.puts p hp
  exact⟨fun hh=>by rw[qI_keys e5];exact a (by rw[hh,e1]),by rw[e1];exact b,e,by rw[e4];exact he,by rw[jOf_keys e5 e1];exact r⟩
 ·obtain⟨i,a,e,he,r⟩:=h.gets g hg
  exact⟨i,by rw[qI_keys e5];exact a,e,by rw[e4];exact he,r⟩
theorem HI.torn (h:HI k H D H0) (t:Int):HI k {H with torn:=t} D H0:=
 h.upd rfl rfl rfl rfl rfl rfl rfl (.refl _) h.nod h.wy h.lt (Int.le_refl _) fun u x hx=>(h.unit u x hx).same rfl rfl rfl
theorem HI.downed (h:HI k H D H0):HI k {H with down:=true} D H0:=
 h.upd rfl rfl rfl rfl rfl rfl rfl (.refl _) h.nod h.wy h.lt (Int.le_refl _) fun u x hx=>(h.unit u x hx).same rfl rfl rfl
theorem HI.disk (h:HI k H D H0) {D':Dk} (hd:∀R,H.used=R.length→DkInv D R→DkInv D' R):HI k H D' H0:=by
 obtain⟨R,r1,r2,r3⟩:=h.rcd
 exact⟨h.hid,⟨R,hd R r3 r1,r2,r3⟩,h.names,h.keys,h.bt,h.sn,h.av,h.dead,h.free0,h.sim,h.nod,h.wy,h.lt,h.lt0,h.nx,h.unit,h.bin⟩
theorem HI.cut (h:HI k H D H0) (t:Int):HI k H (dkCut D t) H0:=h.disk fun R _ hd=>hd.cut t
theorem HI.opened (h:HI k H D H0):openH (k:Int) D=H0:=by
 obtain⟨R,r1,r2,r3⟩:=h.rcd
 exact open_plays r1 r2
theorem HI.hk0 (h:HI k H D H0):hk H0=(hv H0).map jmE:=by
 unfold hk
 rw[List.filter_eq_self.2]
 intro e he
 have :=(h.free0 e he).1
 unfold keptB;simp[this]
theorem HI.id0 (h:HI k H D H0):H0.id=(k:Int):=by
 obtain⟨R,r1,r2,r3⟩:=h.rcd
 rw[r2.same.1];rfl
theorem HI.units0 (h:HI k H D H0):H0.units=List.replicate 5 ⟨[],[]⟩:=by
 obtain⟨R,r1,r2,r3⟩:=h.rcd
 rw[r2.same.2.2.2];rfl
theorem HI.ids0 (h:HI k H D H0):((hv H0).map idE).Nodup:=by
 have h1:((hv H0).map idE).Perm ((hk H).map (·.2.id)):=by
  refine List.Perm.trans (List.Perm.of_eq ?_) (h.sim.map (·.2.id)).symm
  rw[List.map_map];rfl
 rw[h1.nodup_iff,hk_ids]
 exact h.nod.sublist (List.filter_sublist.map _)
theorem HI.in0 (h:HI k H D H0) {e:En} (he:e∈hv H0):∃e'∈hv H,e'.j=e.j∧e'.m=e.m∧e'.put<0:=by
 have h1:jmE e∈hk H:=h.sim.mem_iff.2 (List.mem_map_of_mem he)
 unfold hk at h1
 obtain⟨e',h2,h3⟩:=List.mem_map.1 h1
 obtain⟨h4,h5⟩:=List.mem_filter.1 h2
 unfold jmE at h3
 simp only[Prod.mk.injEq]at h3
 exact⟨e',h4,h3.1,h3.2,by unfold keptB at h5;simpa using h5⟩
theorem HI.to0 (h:HI k H D H0) {e:En} (he:e∈hv H) (hp:e.put<0):∃e'∈hv H0,e'.j=e.j∧e'.m=e.m:=by
 have h1:jmE e∈(hv H0).map jmE:=h.sim.mem_iff.1 (by
  unfold hk
  exact List.mem_map_of_mem (List.mem_filter.2 ⟨he,by unfold keptB;simpa using hp⟩))
 obtain⟨e',h2,h3⟩:=List.mem_map.1 h1
 unfold jmE at h3
 simp only[Prod.mk.injEq]at h3
 exact⟨e',h2,h3.1,h3.2⟩
theorem UJ.nil (H:Ho) (u:Nat):UJ H u ⟨[],[]⟩:=⟨(fun p hp=>by cases hp),List.nodup_nil,(fun p hp=>by cases hp),List.nodup_nil⟩
theorem HI.reopen (h:HI k H D H0):HI k H0 D H0:=by
 obtain⟨R,r1,r2,r3⟩:=h.rcd
 obtain⟨i,hi⟩:=h.dead
 refine⟨h.id0,⟨R,r1,r2,by rw[r2.used];simp[hNew]⟩,rfl,rfl,rfl,rfl,rfl,⟨i,by rw[qI_keys h.keys];exact hi⟩,h.free0,by rw[h.hk0],h.ids0,fun e he hj=>?_,h.lt0,h.lt0,Int.le_refl _,fun u x hx=>?_,fun d i hi=>?_⟩
 ·obtain⟨e',h1,h2,h3,-⟩:=h.in0 he
  rw[←h3];exact h.wy e' h1 (by rw[h2];exact hj)
 ·rw[h.units0]at hx
  have :=List.eq_of_mem_replicate (List.mem_of_getElem? hx)
  subst this
  exact UJ.nil _ _
 ·have :bcAt H0 d=bcAt H d:=by unfold bcAt;rw[h.bt]
  rw[this]at hi
  obtain⟨y,hy,a,b⟩:=h.bin d i hi
  exact⟨y,by rw[h.hk0];exact h.sim.mem_iff.1 hy,a,b⟩
theorem HI.fail (h:HI k H D H0) {s:ByteArray} (hs:s.size≤700000) (hb:noB 124 s) (he:logE H D≠0):HI k (logH H D) (logD H D s) H0:=by
 unfold logE at he
 unfold logH logD
 by_cases h1:roomE H≠0
 ·rw[if_pos h1,if_pos h1];exact h
 ·rw[if_neg h1]at he
  rw[if_neg h1,if_neg h1,if_pos he]
  have hr:=(roomE_z (H:=H) Y53).2
  have ho:dkOff D=true:=by
   cases hd:dkOff D with
   |true=>rfl
   |false=>exact absurd (dkOff_err.2 (by rw[hd];simp)) he
  refine h.downed.disk fun R hu hd=>?_
  have hu:H.used=R.length:=hu
  rw[hu]
  exact hd.bad hs hb ho (by rw[←hu];exact hr)
theorem logE_parts (h2:logE H D=0) (s:ByteArray):logH H D={H with used:=H.used+1}∧logD H D s=dkWrite D H.used (sealS H.used s) H.torn∧H.used<300∧¬dkOff D=true:=by
 obtain⟨h3,h4⟩:=logE_z h2
 refine⟨?_,?_,(roomE_z h3).2,dkOff_err.1 h4⟩
 ·unfold logH;rw[if_neg (by simpa using h3),if_neg (by simpa using h4)]
 ·unfold logD;rw[if_neg (by simpa using h3)]
theorem HI.logged (h:HI k H D H0) (h2:logE H D=0) {s:ByteArray} (hs:s.size≤700000) (hb:noB 124 s) (hrec:RecOk 250 s) {H' H3:Ho} (hp:hplays H0 s=(H3,true))
 (e1:H'.id=H.id) (e2:H'.used=H.used+1) (e3:H3.names=H'.names) (e4:keysOf H3=keysOf H') (e5:H3.batch=H'.batch) (e6:H3.sent=H'.sent) (e7:H3.arrived=H'.arrived) (e8:keysOf H'=keysOf H) (free0:∀e∈hv H3,e.put= -1∧e.got= -1)
 (sim:(hk H').Perm ((hv H3).map jmE)) (nod:((hv H').map idE).Nodup) (wy:∀e∈hv H',e.j<4→e.m.id%4=(k:Int)) (lt:∀e∈hv H',e.m.id%4=(k:Int)→e.m.id/4<H'.next) (lt0:∀e∈hv H3,e.m.id%4=(k:Int)→e.m.id/4<H3.next) (nx:H3.next≤H'.next) (unit:∀(u:Nat) x,H'.units[u]? =some x→UJ H' u x)
 (bin:∀d,∀i∈bcAt H' d,∃y∈hk H',y.1=d∧idY y=i):HI k H' (logD H D s) {H3 with used:=H0.used+1}:=by
 obtain⟨R,r1,r2,r3⟩:=h.rcd
 obtain⟨i,hi⟩:=h.dead
 obtain⟨-,eD,hu,ho⟩:=logE_parts h2 s
 refine⟨by rw[e1,h.hid],⟨R++[s],?_,r2.snoc hp,by rw[e2,r3];simp⟩,e3,e4,e5,e6,e7,⟨i,by rw[qI_keys e8];exact hi⟩,free0,sim,nod,wy,lt,lt0,nx,unit,bin⟩
 rw[eD,r3]
 exact r1.good hs hb hrec ho (by rw[←r3];exact hu)
theorem plR_ne {s:ByteArray} (h:(plR H s).2.2=0) (hk:¬(plR H s).2.1<0):(plR H s).2.1≠H.id:=by
 unfold plR at h hk ⊢
 split
 ·rename_i h1;rw[if_pos h1]at h;exact absurd h h1
 ·rename_i h1
  rw[if_neg h1]at h hk
  split
  ·rename_i h2
   rw[if_pos h2]at h hk
   split
   ·rename_i h3;rw[if_pos h3]at h;cases h
   ·rename_i h3;rw[if_neg h3]at hk;exact absurd (by dsimp only;decide) hk
  ·rename_i h2
   exact fun e=>h2 (.inr e)
theorem putE_z {u:Int} {s:ByteArray} {pri:Int} {body:ByteArray} (he:putE H u s pri body=0):(plR H s).2.2=0∧qputE (H.aAt (plJ H s)) (putM H s pri body)=0∧msRight (putM H s pri body)=true∧H.down=false:=by
 have h0:=he
 unfold putE at h0
 split at h0
 ·cases h0
 ·split at h0
  ·cases h0
  ·split at h0
   ·exact absurd h0 Y63
   ·rename_i h1
    split at h0
    ·cases h0
    ·rename_i h2
     refine⟨by simpa using h1,h0,?_,by simpa using h2⟩
     unfold qputE at h0
     cases hr:msRight (putM H s pri body)with
     |true=>rfl
     |false=>rw[if_pos hr]at h0;cases h0
theorem HI.put (h:HI k H D H0) (hB:HoB n H) {u:Nat} (hu:u<5) {s:ByteArray} {pri:Int} {body:ByteArray} (he:putE H u s pri body=0):
 HI k (putH H u s pri body) D H0∧(putM H s pri body).id=H.next *4+k:=by
 obtain⟨hp2,hq0,hmr,-⟩:=putE_z he
 obtain⟨hj,h2,h3⟩:=plJ_lt hB hp2
 have hmid:(putM H s pri body).id=H.next *4+k:=by rw[←h.hid];rfl
 have hjm:jOf H (putM H s pri body)=plJ H s∧((putM H s pri body).house=H.id→∃i,H.qI (putM H s pri body).queue=some i):=by
  unfold jOf
  by_cases hn:(plR H s).2.1<0
  ·obtain⟨-,i,hqi,hji⟩:=h2 hn
   have e1:(putM H s pri body).house=H.id:=by unfold putM;dsimp only;rw[if_pos hn]
   have e2:(putM H s pri body).queue=(plR H s).1:=rfl
   rw[if_neg (by rw[e1];simp),e2,hqi]
   exact⟨by rw[hji];rfl,fun _=>⟨i,rfl⟩⟩
  ·obtain⟨a,b⟩:=h3 hn
   have e1:(putM H s pri body).house=(plR H s).2.1:=by unfold putM;dsimp only;rw[if_neg hn]
   rw[if_pos (by rw[e1];exact plR_ne hp2 hn),e1,b]
   exact⟨by simp,fun hh=>absurd (b.trans hh) (plR_ne hp2 hn)⟩
 refine⟨?_,hmid⟩
 have hux:=uAt_of hB hu
 generalize hx:H.uAt u=x at hux
 have e1:putH H u s pri body=putU {H.setA (plJ H s) (qpush (H.aAt (plJ H s)) (putM H s pri body) u)with next:=H.next+1} u ⟨x.puts++[(putM H s pri body,(plR H s).2.1)],x.gets⟩:=by
  unfold putH
  rw[if_pos he]
  unfold qput
  rw[if_pos hq0,Int.toNat_natCast,hx]
 rw[e1]
 generalize putM H s pri body=m at hq0 hmr hmid hjm
 have hall:H.all[plJ H s]? =some (H.aAt (plJ H s)):=all_a hj
 generalize hH':putU {H.setA (plJ H s) (qpush (H.aAt (plJ H s)) m u)with next:=H.next+1} u ⟨x.puts++[(m,(plR H s).2.1)],x.gets⟩=H'
 have hv':(hv H').Perm (⟨plJ H s,m,(u:Int),-1⟩::hv H):=by
  have h3:H'.all=(H.setA (plJ H s) (qpush (H.aAt (plJ H s)) m u)).all:=by rw[←hH'];rfl
  unfold hv
  rw[h3,all_setA hB.ways]
  have :=vw_push m u hall
  rw[show max (u:Int) (-1)=u by omega]at this
  exact this
 have hks:keysOf H'=keysOf H:=by rw[←hH'];exact setA_fst _ _
 have hidd:H'.id=H.id:=by rw[←hH'];exact setA_id _ _
 have hnx:H'.next=H.next+1:=by rw[←hH'];rfl
 have hun:H'.units=H.units.set u ⟨x.puts++[(m,(plR H s).2.1)],x.gets⟩:=by rw[←hH'];unfold putU;dsimp only;rw[setA_units]
 have hkk:(hk H').Perm (hk H):=by
  unfold hk
  refine((hv'.filter _).map _).trans (List.Perm.of_eq ?_)
  rw[List.filter_cons,if_neg (by unfold keptB;simp)]
 have hmem:∀e∈hv H,e∈hv H':=fun e he=>hv'.mem_iff.2 (List.mem_cons_of_mem _ he)
 have hnew:∀e∈hv H,idE e≠m.id:=fun e he e2=>by
  unfold idE at e2
  have :=h.lt e he (by rw[e2,hmid];have :=h.hid;have :=hB.id;omega)
  rw[e2,hmid]at this
  have :=h.hid;have :=hB.id
  omega
 have hk4:(k:Int)<4:=by have :=h.hid;have :=hB.id;omega
 refine h.upd hidd (by rw[←hH'];exact setA_used _ _) (by rw[←hH'];exact setA_names _ _) hks (by rw[←hH'];exact setA_batch _ _) (by rw[←hH'];exact setA_sent _ _) (by rw[←hH'];exact setA_arrived _ _) hkk ?_ (fun e he2 hj2=>?_) (fun e he2 hj2=>?_) (by omega) fun v y hy=>?_
 ·refine(hv'.map idE).nodup_iff.2 ?_
  rw[List.map_cons,List.nodup_cons]
  refine⟨fun hm2=>?_,h.nod⟩
  obtain⟨e,he2,he3⟩:=List.mem_map.1 hm2
  exact hnew e he2 he3
 ·rcases List.mem_cons.1 (hv'.mem_iff.1 he2)with rfl|he3
  ·dsimp only;rw[hmid];omega
  ·exact h.wy e he3 hj2
 ·rw[hnx]
  rcases List.mem_cons.1 (hv'.mem_iff.1 he2)with rfl|he3
  ·dsimp only;rw[hmid];omega
  ·have :=h.lt e he3 hj2;omega
 ·rw[hun]at hy
  rcases unit_set Y32 hy with⟨rfl,rfl⟩|⟨hne,hy⟩
  ·have ui:=h.unit v x hux
   refine⟨fun p hp=>?_,?_,fun g hg=>?_,ui.gn⟩
   ·rcases List.mem_append.1 hp with hp|hp
    ·obtain⟨a,b,e,he2,e3⟩:=ui.puts p hp
     exact⟨fun hh=>by rw[qI_keys hks];exact a Y59,by rw[hidd];exact b,e,hmem e he2,by rw[jOf_keys hks hidd];exact e3⟩
    ·simp at hp;subst hp
     refine⟨fun hh=>by rw[qI_keys hks];exact hjm.2 (by rw[←hidd];exact hh),by rw[hidd,h.hid];dsimp only;rw[hmid];omega,_,hv'.mem_iff.2 List.mem_cons_self,by rw[jOf_keys hks hidd];exact hjm.1.symm,rfl,rfl⟩
   ·dsimp only
    rw[List.map_append,List.nodup_append]
    refine⟨ui.pn,by simp,fun a ha b hb=>?_⟩
    obtain⟨p,hp,rfl⟩:=List.mem_map.1 ha
    obtain⟨-,-,e,he2,-,e3,-⟩:=ui.puts p hp
    simp at hb
    subst hb
    have :=hnew e he2
    unfold idE at this
    rw[e3]at this;exact this
   ·obtain⟨i',d,e,he2,e3⟩:=ui.gets g hg
    exact⟨i',by rw[qI_keys hks];exact d,e,hmem e he2,e3⟩
  ·have ui:=h.unit v y hy
   refine⟨fun p hp=>?_,ui.pn,fun g hg=>?_,ui.gn⟩
   ·obtain⟨a,b,e,he2,e3⟩:=ui.puts p hp
    exact⟨fun hh=>by rw[qI_keys hks];exact a Y59,by rw[hidd];exact b,e,hmem e he2,by rw[jOf_keys hks hidd];exact e3⟩
   ·obtain⟨i',d,e,he2,e3⟩:=ui.gets g hg
    exact⟨i',by rw[qI_keys hks];exact d,e,hmem e he2,e3⟩
theorem HI.get (h:HI k H D H0) (hB:HoB n H) {u:Nat} (hu:u<5) {s:ByteArray} (he:getE H u s=0):
 HI k (getH H u s) D H0∧∃i,(i,getM H u s)∈hk H∧4≤i:=by
 obtain⟨i,hqi,hq0⟩:∃i,H.qI s=some i∧qgetE (H.qAt i)=0:=by
  have h0:=he
  unfold getE at h0
  split at h0
  ·cases h0
  ·cases hq:H.qI s with
   |none=>rw[hq]at h0;cases h0
   |some i=>
    rw[hq]at h0
    dsimp only at h0
    split at h0
    ·cases h0
    ·split at h0
     ·cases h0
     ·exact⟨i,rfl,h0⟩
 have hil:=(qI_lt hqi).1
 obtain⟨q,hik⟩:∃q,qgetI (H.qAt i)=some q:=by
  unfold qgetE at hq0
  split at hq0
  ·cases hq0
  ·rename_i q hk1;exact⟨q,hk1⟩
 obtain⟨hkl,hka,-⟩:=List.findIdx?_eq_some_iff_getElem.1 hik
 have hkx:(H.qAt i).l[q]? =some (H.qAt i).l[q]:=List.getElem?_eq_getElem hkl
 generalize hy:(H.qAt i).l[q]=y at hkx hka
 have hit:itAt (H.qAt i).l q=y:=itAt_of hkx
 have hgm:qgetM (H.qAt i)=y.m:=by unfold qgetM;rw[hik];dsimp only;rw[hit]
 have hgq:qget (H.qAt i) u=⟨(H.qAt i).l.set q {y with got:=(u:Int)},(H.qAt i).next⟩:=by unfold qget;rw[hik];dsimp only;rw[if_neg (by omega),hit]
 have hM:getM H u s=y.m:=by unfold getM;rw[if_pos he,hqi];exact hgm
 unfold availB at hka
 simp only[Bool.and_eq_true,decide_eq_true_eq]at hka
 obtain⟨Rr,p1,p2⟩:=vw_change {y with got:=(u:Int)} (bag_q hB hil) hkx (H.qAt i).next
 have hux:=uAt_of hB hu
 generalize hx:H.uAt u=x at hux
 have e1:getH H u s=putU (H.setQ i (qget (H.qAt i) u)) u ⟨x.puts,x.gets++[(y.m.id,s)]⟩:=by
  unfold getH
  rw[if_pos he,Int.toNat_natCast,hx,hqi]
  simp only[Option.getD_some]
  rw[hgm]
 rw[e1,hM]
 generalize hH':putU (H.setQ i (qget (H.qAt i) u)) u ⟨x.puts,x.gets++[(y.m.id,s)]⟩=H'
 have hv':(hv H').Perm (enOf (4+i) {y with got:=(u:Int)}::Rr):=by
  have h3:H'.all=(H.setQ i (qget (H.qAt i) u)).all:=by rw[←hH'];rfl
  unfold hv
  rw[h3,all_setQ hB.ways,hgq]
  exact p2
 have hvH:(hv H).Perm (enOf (4+i) y::Rr):=p1
 have hks:keysOf H'=keysOf H:=by rw[←hH'];exact setQ_fst _ _
 have hidd:H'.id=H.id:=by rw[←hH'];rfl
 have hnx:H'.next=H.next:=by rw[←hH'];rfl
 have hun:H'.units=H.units.set u ⟨x.puts,x.gets++[(y.m.id,s)]⟩:=by rw[←hH'];rfl
 have hkk:(hk H').Perm (hk H):=by
  unfold hk
  refine((hv'.filter _).map _).trans (List.Perm.trans (List.Perm.of_eq ?_) ((hvH.filter _).map _).symm)
  rw[List.filter_cons,List.filter_cons]
  have :keptB (enOf (4+i) y)=true:=by unfold keptB enOf;simpa using hka.1
  rw[if_pos this,if_pos (show keptB (enOf (4+i) {y with got:=(u:Int)})=true from this)]
  rfl
 have hids:((hv H').map idE).Perm ((hv H).map idE):=(hv'.map idE).trans (hvH.map idE).symm
 have hmem:∀e∈hv H,e∈hv H'∨e=enOf (4+i) y:=fun e he=>by
  rcases List.mem_cons.1 (hvH.mem_iff.1 he)with rfl|h1
  ·exact .inr rfl
  ·exact .inl (hv'.mem_iff.2 (List.mem_cons_of_mem _ h1))
 have hyv:enOf (4+i) y∈hv H:=hvH.mem_iff.2 List.mem_cons_self
 have hyv':enOf (4+i) {y with got:=(u:Int)}∈hv H':=hv'.mem_iff.2 List.mem_cons_self
 have hback:∀e∈hv H',∃e'∈hv H,e'.j=e.j∧e'.m=e.m:=fun e he=>by
  rcases List.mem_cons.1 (hv'.mem_iff.1 he)with rfl|h1
  ·exact⟨_,hyv,rfl,rfl⟩
  ·exact⟨e,hvH.mem_iff.2 (List.mem_cons_of_mem _ h1),rfl,rfl⟩
 have hput:∀v p (j':Nat) (e:En),e∈hv H→e.j=j'→e.m=p→e.put=((v:Nat):Int)→∃e∈hv H',e.j=j'∧e.m=p∧e.put=((v:Nat):Int):=fun v p i' e he a b d=>by
  rcases hmem e he with h1|rfl
  ·exact⟨e,h1,a,b,d⟩
  ·have :y.put=(v:Int):=d
   omega
 have hget:∀(v:Nat) k' (i':Nat) (e:En),e∈hv H→e.j=4+i'→idE e=k'→e.put<0→e.got=((v:Nat):Int)→∃e∈hv H',e.j=4+i'∧idE e=k'∧e.put<0∧e.got=((v:Nat):Int):=fun v k' i' e he a b d f=>by
  rcases hmem e he with h1|rfl
  ·exact⟨e,h1,a,b,d,f⟩
  ·have :y.got=(v:Int):=f
   omega
 refine⟨h.upd hidd Y49 Y49 hks Y49 Y49 Y49 hkk (hids.nodup_iff.2 h.nod) (fun e he2 hj2=>?_) (fun e he2 hj2=>?_) (by omega) fun v z hz=>?_,4+i,?_,by omega⟩
 ·obtain⟨e',a,b,d⟩:=hback e he2
  rw[←d];exact h.wy e' a (by rw[b];exact hj2)
 ·obtain⟨e',a,b,d⟩:=hback e he2
  rw[←d]at hj2 ⊢;rw[hnx];exact h.lt e' a hj2
 ·rw[hun]at hz
  rcases unit_set Y32 hz with⟨rfl,rfl⟩|⟨hne,hz⟩
  ·have ui:=h.unit v x hux
   refine⟨fun p hp=>?_,ui.pn,fun g hg=>?_,?_⟩
   ·obtain⟨a,b,e,he2,e3,e4,e5⟩:=ui.puts p hp
    exact⟨fun hh=>by rw[qI_keys hks];exact a Y59,by rw[hidd];exact b,by rw[jOf_keys hks hidd];exact hput v _ _ e he2 e3 e4 e5⟩
   ·rcases List.mem_append.1 hg with hg|hg
    ·obtain⟨i',d,e,he2,e3,e4,e5,e6⟩:=ui.gets g hg
     exact⟨i',by rw[qI_keys hks];exact d,hget v _ i' e he2 e3 e4 e5 e6⟩
    ·simp at hg;subst hg
     exact⟨i,by rw[qI_keys hks];exact hqi,_,hyv',rfl,rfl,hka.1,rfl⟩
   ·dsimp only
    rw[List.map_append,List.nodup_append]
    refine⟨ui.gn,by simp,fun a ha b hb=>?_⟩
    obtain⟨g,hg,rfl⟩:=List.mem_map.1 ha
    obtain⟨i',-,e,he2,-,e4,-,e6⟩:=ui.gets g hg
    simp at hb
    subst hb
    intro e7
    have :e=enOf (4+i) y:=nodup_inj h.nod he2 hyv (by rw[e4,e7];rfl)
    rw[this]at e6
    have :y.got=(v:Int):=e6
    omega
  ·have ui:=h.unit v z hz
   refine⟨fun p hp=>?_,ui.pn,fun g hg=>?_,ui.gn⟩
   ·obtain⟨a,b,e,he2,e3,e4,e5⟩:=ui.puts p hp
    exact⟨fun hh=>by rw[qI_keys hks];exact a Y59,by rw[hidd];exact b,by rw[jOf_keys hks hidd];exact hput v _ _ e he2 e3 e4 e5⟩
   ·obtain⟨i',d,e,he2,e3,e4,e5,e6⟩:=ui.gets g hg
    exact⟨i',by rw[qI_keys hks];exact d,hget v _ i' e he2 e3 e4 e5 e6⟩
 ·unfold hk
  exact List.mem_map.2 ⟨enOf (4+i) y,List.mem_filter.2 ⟨hyv,by unfold keptB enOf;simpa using hka.1⟩,rfl⟩
theorem HI.back (h:HI k H D H0) (hB:HoB n H) {u:Nat} (hu:u<5) (he:bkE H u=0):HI k (bkH H u) D H0:=by
 have e1:bkH H u=putU (hEnds H u) u noUnit:=by unfold bkH;rw[if_pos he,Int.toNat_natCast]
 rw[e1]
 have hv':hv (putU (hEnds H u) u noUnit)=((hv H).filter fun e=> !decide (e.put=(u:Int))).map (freeE u):=hEnds_hv H (by omega)
 have hks:keysOf (putU (hEnds H u) u noUnit)=keysOf H:=by unfold keysOf putU hEnds;simp
 generalize hH':putU (hEnds H u) u noUnit=H' at hv' hks
 have hidd:H'.id=H.id:=by rw[←hH'];rfl
 have hnx:H'.next=H.next:=by rw[←hH'];rfl
 have hun:H'.units=H.units.set u noUnit:=by rw[←hH'];rfl
 have hmem:∀e∈hv H,e.put≠(u:Int)→freeE u e∈hv H':=fun e he hp=>by
  rw[hv'];exact List.mem_map_of_mem (List.mem_filter.2 ⟨he,by simpa using hp⟩)
 have hback:∀e∈hv H',∃e'∈hv H,e'.j=e.j∧e'.m=e.m:=fun e he=>by
  rw[hv']at he
  obtain⟨e',h1,rfl⟩:=List.mem_map.1 he
  exact⟨e',(List.mem_filter.1 h1).1,rfl,rfl⟩
 have hkk:hk H'=hk H:=by
  unfold hk
  rw[hv',List.filter_map,List.map_map,List.filter_filter]
  rw[show(jmE∘freeE u)=jmE from rfl]
  congr 1
  apply List.filter_congr
  intro e _
  unfold keptB freeE
  dsimp only[Function.comp]
  by_cases e1:e.put=(u:Int)
  ·have :¬e.put<0:=by omega
   simp[e1]
  ·simp[e1]
 refine h.upd hidd Y49 Y49 hks Y49 Y49 Y49 (by rw[hkk]) ?_ (fun e he2 hj2=>?_) (fun e he2 hj2=>?_) (by omega) fun v y hy=>?_
 ·rw[hv',List.map_map,show(idE∘freeE u)=idE from rfl]
  exact h.nod.sublist (List.filter_sublist.map _)
 ·obtain⟨e',a,b,d⟩:=hback e he2
  rw[←d];exact h.wy e' a (by rw[b];exact hj2)
 ·obtain⟨e',a,b,d⟩:=hback e he2
  rw[←d]at hj2 ⊢;rw[hnx];exact h.lt e' a hj2
 ·rw[hun]at hy
  rcases unit_set Y32 hy with⟨rfl,rfl⟩|⟨hne,hy⟩
  ·exact UJ.nil _ _
  ·have ui:=h.unit v y hy
   have hvu:((v:Nat):Int)≠(u:Int):=fun e=>hne (by omega)
   refine⟨fun p hp=>?_,ui.pn,fun g hg=>?_,ui.gn⟩
   ·obtain⟨a,b,e,he2,e3,e4,e5⟩:=ui.puts p hp
    refine⟨fun hh=>by rw[qI_keys hks];exact a Y59,by rw[hidd];exact b,_,hmem e he2 (by rw[e5];exact hvu),by rw[jOf_keys hks hidd];exact e3,e4,?_⟩
    unfold freeE;dsimp only;rw[if_neg (by rw[e5];exact hvu)];exact e5
   ·obtain⟨i',d,e,he2,e3,e4,e5,e6⟩:=ui.gets g hg
    have hpu:e.put≠(u:Int):=by omega
    refine⟨i',by rw[qI_keys hks];exact d,_,hmem e he2 hpu,e3,e4,?_,?_⟩
    ·unfold freeE;dsimp only;rw[if_neg hpu];exact e5
    ·unfold freeE;dsimp only;rw[if_neg (by rw[e6];exact hvu)];exact e6
end
end WB
/- a house of a world and its disk: records that are written -/
namespace WB
open Go
section
variable {c kb k n:Nat} {H H0:Ho} {D:Dk}
theorem HI.B0 (h:HI k H D H0) (hb:HdB c kb k (H,D)) (hk:k<4) (hK:kb≤1000000000000):HoB (300+c+250*H0.used) H0∧WR H0:=by
 have h1:=hb.open' hk hK
 rw[h.opened]at h1
 exact⟨h1.B,h1.ways⟩
theorem getD_set {α:Type} {l:List α} {d:Nat} (hd:d<l.length) (x z:α) (b:Nat):(l.set d x).getD b z=if b=d then x else l.getD b z:=by
 rw[List.getD_eq_getElem?_getD,List.getD_eq_getElem?_getD,List.getElem?_set]
 by_cases e:b=d
 ·rw[if_pos e,if_pos e.symm,if_pos hd];rfl
 ·rw[if_neg e,if_neg fun e2=>e e2.symm]
theorem bc4 (hB:HoB n H) {d:Nat} (hd:4≤d):bcAt H d=[]:=by
 unfold bcAt
 rw[List.getD_eq_getElem?_getD,List.getElem?_eq_none (by rw[hB.batch];exact hd)];rfl
theorem cmE_parts {u:Int} (he:cmE H D u=0):cmPE H u=0∧logE H D=0:=by
 unfold cmE at he
 by_cases h1:cmPE H u≠0
 ·rw[if_pos h1]at he;exact absurd he h1
 ·rw[if_neg h1]at he
  exact⟨by simpa using h1,he⟩
theorem cmH_units (u:Int):(cmH H D u).units=if cmE H D u=0 then H.units.set u.toNat noUnit else H.units:=by
 by_cases he:cmE H D u=0
 ·rw[if_pos he]
  obtain⟨h1,h2⟩:=cmE_parts he
  unfold cmH
  rw[if_neg Y53,if_neg Y52]
  rw[(hends_same _ _).units]
  unfold putU hEnds
  dsimp only
  rw[logH_units]
 ·rw[if_neg he]
  unfold cmE at he
  unfold cmH
  by_cases h1:cmPE H u≠0
  ·rw[if_pos h1]
  ·rw[if_neg h1]at he ⊢
   rw[if_pos he,logH_units]
theorem recU_small {x:Unt} (hox:UntOk x):(recU x).size≤700000:=by
 have hsz:=hox.size
 rw[recU_eq]
 have e1:(chr1 117).size=1:=rfl
 have e2:(chr1 58).size=1:=rfl
 simp only[ByteArray.size_append];omega
theorem HI.commitF (h:HI k H D H0) (hb:HdB c kb k (H,D)) {u:Nat} (hu:u<5) (he:cmE H D u≠0):HI k (cmH H D u) (cmD H D u) H0:=by
 unfold cmE at he
 unfold cmH cmD
 by_cases h1:cmPE H u≠0
 ·rw[if_pos h1,if_pos h1];exact h
 ·rw[if_neg h1]at he
  rw[if_neg h1,if_neg h1,if_pos he,Int.toNat_natCast]
  have hox:=(hb.units _ (List.mem_of_getElem? (uAt_of hb.B hu))).1
  exact h.fail (recU_small hox) (bar_rec hox) he
set_option maxHeartbeats 1000000 in
theorem HI.commit (h:HI k H D H0) (hb:HdB c kb k (H,D)) (hk:k<4) (hK:kb≤1000000000000) (hc:c≤250) {u:Nat} (hu:u<5) (he:cmE H D u=0):
 ∃H3,HI k (cmH H D u) (cmD H D u) H3∧(crOf H3).bg.Perm (((H.uAt u).puts.map (fun p=>(jOf H p.1,p.1))++(crOf H0).bg).filter fun y=> !decide (idY y∈(H.uAt u).gets.map (·.1)))∧H3.batch=H0.batch∧H3.sent=H0.sent∧H3.arrived=H0.arrived∧H0.next≤H3.next∧∀p∈(H.uAt u).puts,p.1.id/4<H3.next:=by
 obtain⟨h1,h2⟩:=cmE_parts he
 have hB:=hb.B
 have hux:=uAt_of hB hu
 unfold cmH cmD
 rw[if_neg (show ¬cmPE H (u:Int)≠0 by simpa using h1),if_neg (show ¬cmPE H (u:Int)≠0 by simpa using h1),if_neg (show ¬logE H D≠0 by simpa using h2),Int.toNat_natCast]
 dsimp only at hux hB
 generalize hx:H.uAt u=x at hux
 obtain⟨hox,hpm⟩:=hb.units x (List.mem_of_getElem? hux)
 have hrs:=recU_small hox
 obtain⟨eL,-,-,-⟩:=logE_parts h2 (recU x)
 rw[eL]
 have ui:=h.unit u x hux
 have hB1:HoB (300+c+250*H.used) (putU (hEnds {H with used:=H.used+1} u) u noUnit):=by
  have :=hB.log (D:=D)
  rw[eL]at this
  exact(this.hEnds _).putU _ _
 have hv1:hv (putU (hEnds {H with used:=H.used+1} u) u noUnit)=((hv H).filter fun e=> !decide (e.put=(u:Int))).map (freeE u):=hEnds_hv {H with used:=H.used+1} (by omega)
 have hks:keysOf (putU (hEnds {H with used:=H.used+1} u) u noUnit)=keysOf H:=by unfold keysOf putU hEnds;simp
 generalize hH1:putU (hEnds {H with used:=H.used+1} u) u noUnit=H1 at hB1 hv1 hks
 have hnm:H1.names=H.names:=by rw[←hH1];rfl
 have hidd:H1.id=H.id:=by rw[←hH1];rfl
 have hus:H1.used=H.used+1:=by rw[←hH1];rfl
 have hnx:H1.next=H.next:=by rw[←hH1];rfl
 have hun:H1.units=H.units.set u noUnit:=by rw[←hH1];rfl
 have hbt:H1.batch=H.batch:=by rw[←hH1];rfl
 have hsn:H1.sent=H.sent:=by rw[←hH1];rfl
 have hav:H1.arrived=H.arrived:=by rw[←hH1];rfl
 have hmem:∀e∈hv H,e.put≠(u:Int)→freeE u e∈hv H1:=fun e he hp=>by
  rw[hv1];exact List.mem_map_of_mem (List.mem_filter.2 ⟨he,by simpa using hp⟩)
 have hfrom:∀e∈hv H1,∃e'∈hv H,e'.put≠(u:Int)∧e=freeE u e':=fun e he=>by
  rw[hv1]at he
  obtain⟨e',h5,rfl⟩:=List.mem_map.1 he
  obtain⟨h6,h7⟩:=List.mem_filter.1 h5
  exact⟨e',h6,by simpa using h7,rfl⟩
 have hn1:((hv H1).map idE).Nodup:=by
  rw[hv1,List.map_map,show(idE∘freeE u)=idE from rfl]
  exact h.nod.sublist (List.filter_sublist.map _)
 obtain⟨H2,e2,p2,k2,n2,s2,x2,y2,z2,hB2⟩:=ends_bagG hB1 hox hn1
  (fun p hp hh=>by
   obtain⟨i,hi⟩:=(ui.puts p hp).1 Y59
   exact⟨i,by rw[qI_keys hks];exact hi⟩) ui.pn
  (fun p hp e he e3=>by
   obtain⟨e',h5,h6,rfl⟩:=hfrom e he
   obtain⟨-,-,e4,h7,-,h8,h9⟩:=ui.puts p hp
   have :e'=e4:=nodup_inj h.nod h5 h7 (by rw[show idE e'=p.1.id from e3];unfold idE;rw[h8])
   rw[this]at h6;exact h6 h9) ui.gn
  (fun g hg=>by
   obtain⟨i,d,e,h5,h6,h7,h8,-⟩:=ui.gets g hg
   exact⟨i,by rw[qI_keys hks];exact d,_,hmem e h5 (by omega),h6,h7⟩)
 have hB0:=(h.B0 hb hk hK).1
 have hid0:H0.id=H.id:=by rw[h.id0,h.hid]
 obtain⟨H3,e3,p3,k3,n3,s3,x3,y3,z3,hB3⟩:=ends_bagG hB0 hox h.ids0
  (fun p hp hh=>by
   obtain⟨i,hi⟩:=(ui.puts p hp).1 (by rw[hh,hid0])
   exact⟨i,by rw[qI_keys h.keys];exact hi⟩) ui.pn
  (fun p hp e he e3=>by
   obtain⟨e',h5,-,h6,h7⟩:=h.in0 he
   obtain⟨-,-,e4,h8,-,h9,h10⟩:=ui.puts p hp
   have :e'=e4:=nodup_inj h.nod h5 h8 (by unfold idE at *;rw[h6,h9];exact e3)
   rw[this,h10]at h7;omega) ui.gn
  (fun g hg=>by
   obtain⟨i,d,e,h5,h6,h7,h8,-⟩:=ui.gets g hg
   obtain⟨e',h9,h10,h11⟩:=h.to0 h5 h8
   exact⟨i,by rw[qI_keys h.keys];exact d,e',h9,by rw[h10];exact h6,by unfold idE at *;rw[h11];exact h7⟩)
 rw[e2]
 dsimp only
 have hk4:(k:Int)<4:=by omega
 have hj1:∀m,jOf H1 m=jOf H m:=jOf_keys hks hidd
 have hj0:∀m,jOf H0 m=jOf H m:=jOf_keys h.keys hid0
 have hN1:(x.puts.map fun p=>(⟨jOf H1 p.1,p.1,-1,-1⟩:En))=x.puts.map fun p=>⟨jOf H p.1,p.1,-1,-1⟩:=by
  apply List.map_congr_left;intro p _;rw[hj1]
 have hN0:(x.puts.map fun p=>(⟨jOf H0 p.1,p.1,-1,-1⟩:En))=x.puts.map fun p=>⟨jOf H p.1,p.1,-1,-1⟩:=by
  apply List.map_congr_left;intro p _;rw[hj0]
 rw[hN1]at p2
 rw[hN0]at p3
 have hNj:(x.puts.map fun p=>(jOf H p.1,p.1))=(x.puts.map fun p=>(⟨jOf H p.1,p.1,-1,-1⟩:En)).map jmE:=by rw[List.map_map];rfl
 rw[hNj]
 generalize hN:(x.puts.map fun p=>(⟨jOf H p.1,p.1,-1,-1⟩:En))=N at p2 p3
 have hNk:∀e∈N,e.put= -1∧e.got= -1∧∃p∈x.puts,e.m=p.1:=fun e he=>by
  rw[←hN]at he
  obtain⟨p,hp,rfl⟩:=List.mem_map.1 he
  exact⟨rfl,rfl,p,hp,rfl⟩
 have hNi:N.map idE=x.puts.map fun p=>p.1.id:=by rw[←hN,List.map_map];rfl
 have hk1:((hv H1).filter keptB).map jmE=WB.hk H:=by
  unfold WB.hk
  rw[hv1,List.filter_map,List.map_map,List.filter_filter]
  rw[show(jmE∘freeE u)=jmE from rfl]
  congr 1
  apply List.filter_congr
  intro e _
  unfold keptB freeE
  dsimp only[Function.comp]
  by_cases e1:e.put=(u:Int)
  ·have :¬e.put<0:=by omega
   simp[e1]
  ·simp[e1]
 have hbg3:((hv H3).map jmE).Perm ((N.map jmE++(hv H0).map jmE).filter fun y=> !decide (idY y∈x.gets.map (·.1))):=by
  refine(p3.map jmE).trans (List.Perm.of_eq ?_)
  rw[←List.map_append,List.filter_map];rfl
 have hsim:(WB.hk H2).Perm ((hv H3).map jmE):=by
  have a1:(WB.hk H2).Perm ((((N++hv H1).filter keptB).map jmE).filter fun y=> !decide (idY y∈x.gets.map (·.1))):=by
   unfold WB.hk
   refine((p2.filter keptB).map jmE).trans (List.Perm.of_eq ?_)
   rw[List.filter_map,List.filter_filter,List.filter_filter]
   congr 1
   apply List.filter_congr
   intro e _
   rw[Bool.and_comm];rfl
  refine a1.trans (List.Perm.trans (List.Perm.filter _ ?_) hbg3.symm)
  rw[List.filter_append,List.map_append,hk1]
  rw[List.filter_eq_self.2 (fun e he=>by unfold keptB;simp[(hNk e he).1])]
  exact(List.Perm.refl _).append h.sim
 have hnod2:((hv H2).map idE).Nodup:=by
  refine(p2.map idE).nodup_iff.2 (List.Nodup.sublist (List.filter_sublist.map _) ?_)
  rw[List.map_append,List.nodup_append,hNi]
  refine⟨ui.pn,hn1,fun a ha b hb=>?_⟩
  obtain⟨p,hp,rfl⟩:=List.mem_map.1 ha
  obtain⟨e,he,rfl⟩:=List.mem_map.1 hb
  obtain⟨e',h5,h6,rfl⟩:=hfrom e he
  obtain⟨-,-,e4,h7,-,h8,h9⟩:=ui.puts p hp
  intro e5
  have :e'=e4:=nodup_inj h.nod h5 h7 (by unfold idE at *;rw[h8];exact e5.symm)
  rw[this]at h6;exact h6 h9
 have hm2:∀e∈hv H2,(∃p∈x.puts,e.m=p.1)∨∃e'∈hv H,e.j=e'.j∧e.m=e'.m:=fun e he=>by
  rw[p2.mem_iff,List.mem_filter]at he
  rcases List.mem_append.1 he.1 with h5|h5
  ·exact .inl (hNk e h5).2.2
  ·obtain⟨e',h6,-,rfl⟩:=hfrom e h5
   exact .inr ⟨e',h6,rfl,rfl⟩
 have hstay:∀e∈hv H,e.put≠(u:Int)→idE e∉x.gets.map (·.1)→freeE u e∈hv H2:=fun e he h5 h6=>by
  rw[p2.mem_iff,List.mem_filter]
  exact⟨List.mem_append_right _ (hmem e he h5),by rw[show idE (freeE u e)=idE e from rfl];simpa using h6⟩
 have hgot:∀e∈hv H,idE e∈x.gets.map (·.1)→e.put<0∧e.got=(u:Int)∧4≤e.j:=fun e he h5=>by
  obtain⟨g,hg,h6⟩:=List.mem_map.1 h5
  obtain⟨i,-,e4,h7,h11,h8,h9,h10⟩:=ui.gets g hg
  have :e=e4:=nodup_inj h.nod he h7 (by rw[h8];exact h6.symm)
  rw[this];exact⟨h9,h10,by omega⟩
 have hq2:∀s,H2.qI s=H.qI s:=fun s=>by rw[qI_keys k2,qI_keys hks]
 have hjj:∀m,jOf H2 m=jOf H m:=fun m=>by rw[jOf_keys k2 s2.id,hj1]
 have hle:H.next≤H2.next:=by rw[←hnx];exact x2
 refine⟨{H3 with used:=H0.used+1},?_,hbg3,s3.batch,s3.sent,s3.arrived,x3,y3⟩
 refine h.logged h2 hrs (bar_rec hox) (hox.recK (by omega)) (by rw[hplays_unit];exact e3) (by rw[s2.id,hidd]) (by rw[s2.used,hus]) (by rw[n2,hnm];exact n3.trans h.names) (by rw[k2,hks];exact k3.trans h.keys) (by rw[s2.batch,hbt];exact s3.batch.trans h.bt) (by rw[s2.sent,hsn];exact s3.sent.trans h.sn) (by rw[s2.arrived,hav];exact s3.arrived.trans h.av) (k2.trans hks)
  (fun e he=>?_) hsim hnod2 (fun e he hj=>?_) (fun e he hj=>?_) (fun e he hj=>?_) (z3 _ (by have :=h.nx;omega) y2) (fun v y hy=>?_) (fun d i hi=>?_)
 ·rw[p3.mem_iff,List.mem_filter]at he
  rcases List.mem_append.1 he.1 with h5|h5
  ·exact⟨(hNk e h5).1,(hNk e h5).2.1⟩
  ·exact h.free0 e h5
 ·rcases hm2 e he with⟨p,hp,h5⟩|⟨e',h6,h5,h7⟩
  ·rw[h5,(ui.puts p hp).2.1,h.hid]
  ·rw[h7];exact h.wy e' h6 (by rw[←h5];exact hj)
 ·rcases hm2 e he with⟨p,hp,h5⟩|⟨e',h6,h5,h7⟩
  ·rw[h5];exact y2 p hp
  ·rw[h7]at hj ⊢
   have :=h.lt e' h6 hj;omega
 ·rw[p3.mem_iff,List.mem_filter]at he
  rcases List.mem_append.1 he.1 with h5|h5
  ·obtain⟨-,-,p,hp,h6⟩:=hNk e h5
   rw[h6];exact y3 p hp
  ·have :=h.lt0 e h5 hj;omega
 ·rw[s2.units,hun]at hy
  rcases unit_set Y32 hy with⟨rfl,rfl⟩|⟨hne,hy⟩
  ·exact UJ.nil _ _
  ·have vi:=h.unit v y hy
   have hvu:((v:Nat):Int)≠(u:Int):=fun e=>hne (by omega)
   refine⟨fun p hp=>?_,vi.pn,fun g hg=>?_,vi.gn⟩
   ·obtain⟨a,b,e,he2,e3,e4,e5⟩:=vi.puts p hp
    have hpu:e.put≠(u:Int):=by rw[e5];exact hvu
    refine⟨fun hh=>by rw[hq2];exact a (by rw[hh,s2.id,hidd]),by rw[s2.id,hidd];exact b,_,hstay e he2 hpu (fun hh=>?_),by rw[hjj];exact e3,e4,?_⟩
    ·have :=(hgot e he2 hh).1;omega
    ·unfold freeE;dsimp only;rw[if_neg hpu];exact e5
   ·obtain⟨i',d,e,he2,e3,e4,e5,e6⟩:=vi.gets g hg
    have hpu:e.put≠(u:Int):=by omega
    refine⟨i',by rw[hq2];exact d,_,hstay e he2 hpu (fun hh=>?_),e3,e4,?_,?_⟩
    ·have :=(hgot e he2 hh).2.1
     exact hvu (by rw[←e6,this])
    ·unfold freeE;dsimp only;rw[if_neg hpu];exact e5
    ·unfold freeE;dsimp only;rw[if_neg (by rw[e6];exact hvu)];exact e6
 ·have hbb:bcAt H2 d=bcAt H d:=by unfold bcAt;rw[s2.batch,hbt]
  rw[hbb]at hi
  obtain⟨y,hy,a,b⟩:=h.bin d i hi
  refine⟨y,hsim.mem_iff.2 (hbg3.mem_iff.2 (List.mem_filter.2 ⟨List.mem_append_right _ (h.sim.mem_iff.1 hy),?_⟩)),a,b⟩
  have hd4:d<4:=by
   rcases Nat.lt_or_ge d 4 with h5|h5
   ·exact h5
   ·rw[bc4 hB h5]at hi;cases hi
  obtain⟨e,he,rfl⟩:=List.mem_map.1 hy
  have :idE e∉x.gets.map (·.1):=fun hh=>by
   have :=(hgot e (List.mem_filter.1 he).1 hh).2.2
   have :e.j=d:=a
   omega
  show(!decide (idE e∈x.gets.map (·.1)))=true
  rw[decide_eq_false this];rfl
end
end WB
/- a house of a world and its disk: batches made, known, and come -/
namespace WB
open Go
section
variable {c kb k n:Nat} {H H0:Ho} {D:Dk}
theorem rightK_id {H H':Ho} (h:H'.id=H.id) (a:Int):rightK H' a=rightK H a:=by unfold rightK;rw[h]
theorem btNew_parts {a:Int} (h:btNew H a=true):rightK H a=true∧H.down=false∧bcAt H a.toNat=[]∧qthere (H.wAt a.toNat)≠[]:=by
 unfold btNew at h
 rw[decide_eq_true_eq]at h
 obtain⟨h1,h2⟩:=h
 unfold btPE at h1
 split at h1
 ·cases h1
 ·rename_i h3
  split at h1
  ·cases h1
  ·rename_i h4
   split at h1
   ·cases h1
   ·rename_i h5
    exact⟨by simpa using h3,by simpa using h4,h2,fun h6=>h5 ⟨h2,h6⟩⟩
theorem there_hk (hB:HoB n H) {j:Nat} (hj:j<4) {m:Ms} (hm:m∈qthere (H.wAt j)):(j,m)∈hk H:=by
 unfold qthere at hm
 obtain⟨e,he,rfl⟩:=List.mem_map.1 hm
 obtain⟨h1,h2⟩:=List.mem_filter.1 he
 unfold availB at h2
 simp only[Bool.and_eq_true,decide_eq_true_eq]at h2
 unfold hk
 refine List.mem_map.2 ⟨enOf j e,List.mem_filter.2 ⟨vw_mem.2 ⟨H.wAt j,all_w hB.ways hj,e,h1,rfl⟩,?_⟩,rfl⟩
 unfold keptB enOf
 simpa using h2.1
theorem HI.made (h:HI k H D H0) (hb:HdB c kb k (H,D)) {a:Int} (hn:btNew H a=true) (he:logE H D=0):
 ∃H3,HI k (btH H D a) (btD H D a) H3∧hv H3=hv H0∧H3.batch=H0.batch.set a.toNat (btIds H a.toNat)∧H3.sent=H0.sent.set a.toNat (snAt H0 a.toNat+1)∧H3.arrived=H0.arrived∧H3.next=H0.next∧btIds H a.toNat≠[]∧(∀i∈btIds H a.toNat,∃y∈(crOf H0).bg,y.1=a.toNat∧idY y=i)∧bcAt (btH H D a) a.toNat=btIds H a.toNat∧snAt (btH H D a) a.toNat=snAt H a.toNat+1∧(btH H D a).wAt a.toNat=H.wAt a.toNat:=by
 obtain⟨h1,-,h3,h4⟩:=btNew_parts hn
 have hr:=rightK_iff.1 h1
 have hB:=hb.B
 dsimp only at hB
 have hj:a.toNat<4:=by omega
 have hne:btIds H a.toNat≠[]:=by
  unfold btIds
  intro h5
  rw[List.map_eq_nil_iff,List.take_eq_nil_iff]at h5
  rcases h5 with h5|h5
  ·cases h5
  ·exact h4 h5
 have hin:∀i∈btIds H a.toNat,∃m,(a.toNat,m)∈hk H∧m.id=i:=fun i hi=>by
  unfold btIds at hi
  obtain⟨m,hm,rfl⟩:=List.mem_map.1 hi
  exact⟨m,there_hk hB hj (List.mem_of_mem_take hm),rfl⟩
 have hint:∀i∈btIds H a.toNat,intB i:=fun i hi=>by
  unfold btIds at hi
  obtain⟨m,hm,rfl⟩:=List.mem_map.1 hi
  have h5:=List.mem_of_mem_take hm
  unfold qthere at h5
  obtain⟨e,he,rfl⟩:=List.mem_map.1 h5
  have :=(hB.w hj).ids e (List.mem_filter.1 he).1
  exact⟨by omega,by omega⟩
 have hlen:(btIds H a.toNat).length≤3:=by unfold btIds;simp;omega
 have hbl:H.batch.length=4:=hB.batch
 have hsl:H.sent.length=4:=hB.sent
 obtain⟨eL,-,-,-⟩:=logE_parts he (recBt a (btIds H a.toNat))
 have hsz:(recBt a (btIds H a.toNat)).size≤700000:=by
  have :=(recBt_ok (k:=a) ⟨hr.1,hr.2.1⟩ hlen hint).size;omega
 have hrec:RecOk 250 (recBt a (btIds H a.toNat)):=(recBt_ok (k:=a) ⟨hr.1,hr.2.1⟩ hlen hint).mono (by omega)
 have e0:H0.id=H.id:=by rw[h.id0,h.hid]
 unfold btH btD
 rw[if_pos hn,if_pos hn]
 unfold wrH
 rw[if_pos he,eL]
 obtain⟨i,r,hir⟩:=List.exists_cons_of_ne_nil hne
 have p1:hplays {H with used:=H.used+1} (recBt a (btIds H a.toNat))=({H with used:=H.used+1,batch:=H.batch.set a.toNat (btIds H a.toNat),sent:=H.sent.set a.toNat (snAt H a.toNat+1)},true):=by
  rw[hir]
  exact hplays_made (H:={H with used:=H.used+1}) h1 (by rw[←hir];exact hint)
 have p0:hplays H0 (recBt a (btIds H a.toNat))=({H0 with batch:=H0.batch.set a.toNat (btIds H a.toNat),sent:=H0.sent.set a.toNat (snAt H0 a.toNat+1)},true):=by
  rw[hir]
  exact hplays_made (H:=H0) (by rw[rightK_id e0];exact h1) (by rw[←hir];exact hint)
 rw[p1]
 dsimp only
 have hsn:snAt H0 a.toNat=snAt H a.toNat:=by unfold snAt;rw[h.sn]
 refine⟨{H0 with batch:=H0.batch.set a.toNat (btIds H a.toNat),sent:=H0.sent.set a.toNat (snAt H0 a.toNat+1),used:=H0.used+1},?_,rfl,rfl,rfl,rfl,rfl,hne,fun i hi=>?_,?_,?_,rfl⟩
 ·refine h.logged he hsz (bar_Bt _ _) hrec p0 rfl rfl h.names h.keys (by dsimp only;rw[h.bt]) (by dsimp only;rw[hsn,h.sn]) h.av rfl h.free0 h.sim h.nod h.wy h.lt h.lt0 h.nx (fun u x hx=>(h.unit u x hx).same rfl rfl rfl) fun d i hi=>?_
  have e5:bcAt ({H with used:=H.used+1,batch:=H.batch.set a.toNat (btIds H a.toNat),sent:=H.sent.set a.toNat (snAt H a.toNat+1)}:Ho) d=if d=a.toNat then btIds H a.toNat else bcAt H d:=by
   unfold bcAt;exact getD_set (by omega) _ _ _
  rw[e5]at hi
  split at hi
  ·rename_i e6
   obtain⟨m,hm,e7⟩:=hin i hi
   exact⟨(a.toNat,m),hm,e6.symm,e7⟩
  ·exact h.bin d i hi
 ·obtain⟨m,hm,e7⟩:=hin i hi
  exact⟨(a.toNat,m),h.sim.mem_iff.1 hm,rfl,e7⟩
 ·unfold bcAt;rw[show({H with used:=H.used+1,batch:=H.batch.set a.toNat (btIds H a.toNat),sent:=H.sent.set a.toNat (snAt H a.toNat+1)}:Ho).batch=H.batch.set a.toNat (btIds H a.toNat)from rfl,getD_set (by omega),if_pos rfl]
 ·show(H.sent.set a.toNat (snAt H a.toNat+1)).getD a.toNat 0=snAt H a.toNat+1
  rw[getD_set (by omega),if_pos rfl]
theorem HI.madeF (h:HI k H D H0) (hb:HdB c kb k (H,D)) {a:Int} (hn:btNew H a=false∨logE H D≠0):HI k (btH H D a) (btD H D a) H0:=by
 unfold btH btD
 by_cases h1:btNew H a=true
 ·rw[if_pos h1,if_pos h1]
  rcases hn with hn|hn
  ·rw[hn]at h1;cases h1
  ·have hr:=rightK_iff.1 (btNew_parts h1).1
   have hB:=hb.B
   dsimp only at hB
   have hj:a.toNat<4:=by omega
   unfold wrH
   rw[if_neg hn]
   refine h.fail ?_ (bar_Bt _ _) hn
   have :=(recBt_ok (k:=a) (l:=btIds H a.toNat) ⟨hr.1,hr.2.1⟩ (by unfold btIds;simp;omega) (fun i hi=>by
    unfold btIds at hi
    obtain⟨m,hm,rfl⟩:=List.mem_map.1 hi
    have h5:=List.mem_of_mem_take hm
    unfold qthere at h5
    obtain⟨e,he,rfl⟩:=List.mem_map.1 h5
    have :=(hB.w hj).ids e (List.mem_filter.1 he).1
    exact⟨by omega,by omega⟩)).size
   omega
 ·rw[if_neg h1,if_neg h1];exact h
theorem caPE_parts {a num:Int} (h:caPE H a num=0):rightK H a=true∧H.down=false∧bcAt H a.toNat≠[]∧num=snAt H a.toNat:=by
 unfold caPE at h
 split at h
 ·cases h
 ·rename_i h1
  split at h
  ·cases h
  ·rename_i h2
   split at h
   ·cases h
   ·rename_i h3
    refine⟨by simpa using h1,by simpa using h2,fun h4=>h3 (.inl h4),Decidable.byContradiction fun h4=>h3 (.inr h4)⟩
theorem takesW_bag {j:Nat} (hB:HoB n H) (hj:j<4) (hn:((hv H).map idE).Nodup) {b:List Int} (hb:∀e∈hv H,idE e∈b→e.j=j):(hv (H.setW j (qtakes (H.wAt j) b))).Perm ((hv H).filter fun e=> !decide (idE e∈b)):=by
 unfold hv
 rw[all_setW (by rw[hB.ways];exact hj)]
 exact takes_bag b (all_w hB.ways hj) hn hb
theorem HI.known (h:HI k H D H0) (hb:HdB c kb k (H,D)) (hk:k<4) (hK:kb≤1000000000000) {a num:Int} (hp:caPE H a num=0) (he:logE H D=0):
 ∃H3,HI k (caH H D a num) (caD H D a num) H3∧(crOf H3).bg.Perm ((crOf H0).bg.filter fun y=> !decide (idY y∈bcAt H0 a.toNat))∧H3.batch=H0.batch.set a.toNat []∧H3.sent=H0.sent∧H3.arrived=H0.arrived∧H3.next=H0.next:=by
 obtain⟨h1,-,h3,h4⟩:=caPE_parts hp
 have hr:=rightK_iff.1 h1
 have hB:=hb.B
 dsimp only at hB
 have hB0:=(h.B0 hb hk hK).1
 have hj:a.toNat<4:=by omega
 have hbl:H.batch.length=4:=hB.batch
 have e0:H0.id=H.id:=by rw[h.id0,h.hid]
 have ebc:bcAt H0 a.toNat=bcAt H a.toNat:=by unfold bcAt;rw[h.bt]
 obtain⟨eL,-,-,-⟩:=logE_parts he (recA a)
 have hrec:RecOk 250 (recA a):=(recA_ok (k:=a) ⟨hr.1,hr.2.1⟩).mono (by omega)
 have hsz:(recA a).size≤700000:=by have :=hrec.size;omega
 have hin:∀e∈hv H,idE e∈bcAt H a.toNat→e.j=a.toNat∧e.put<0:=fun e he hm=>by
  obtain⟨y,hy,a1,a2⟩:=h.bin _ _ hm
  obtain⟨e',he',rfl⟩:=List.mem_map.1 hy
  obtain⟨b1,b2⟩:=List.mem_filter.1 he'
  have :e=e':=nodup_inj h.nod he b1 a2.symm
  rw[this]
  exact⟨a1,by unfold keptB at b2;simpa using b2⟩
 have hin0:∀e∈hv H0,idE e∈bcAt H a.toNat→e.j=a.toNat:=fun e he hm=>by
  obtain⟨e',b1,b2,b3,-⟩:=h.in0 he
  rw[←b2]
  exact(hin e' b1 (by unfold idE at *;rw[b3];exact hm)).1
 unfold caH caD
 rw[if_neg (show ¬caPE H a num≠0 by simpa using hp),if_neg (show ¬caPE H a num≠0 by simpa using hp)]
 unfold wrH
 rw[if_pos he,eL]
 rw[hplays_known (H:={H with used:=H.used+1}) h1]
 dsimp only
 have q0:=hplays_known (H:=H0) (k:=a) (by rw[rightK_id e0];exact h1)
 rw[ebc]at q0
 have v0:(hv (H0.setW a.toNat (qtakes (H0.wAt a.toNat) (bcAt H a.toNat)))).Perm ((hv H0).filter fun e=> !decide (idE e∈bcAt H a.toNat)):=takesW_bag hB0 hj h.ids0 hin0
 have v1:(hv (H.setW a.toNat (qtakes (H.wAt a.toNat) (bcAt H a.toNat)))).Perm ((hv H).filter fun e=> !decide (idE e∈bcAt H a.toNat)):=takesW_bag hB hj h.nod fun e he hm=>(hin e he hm).1
 generalize hH':({({H with used:=H.used+1}:Ho).setW a.toNat (qtakes (({H with used:=H.used+1}:Ho).wAt a.toNat) (bcAt {H with used:=H.used+1} a.toNat))with batch:=H.batch.set a.toNat []}:Ho)=H'
 generalize hH3:({H0.setW a.toNat (qtakes (H0.wAt a.toNat) (bcAt H a.toNat))with batch:=H0.batch.set a.toNat []}:Ho)=H3 at q0
 have v3:(hv H3).Perm ((hv H0).filter fun e=> !decide (idE e∈bcAt H a.toNat)):=by rw[←hH3];exact v0
 have v2:(hv H').Perm ((hv H).filter fun e=> !decide (idE e∈bcAt H a.toNat)):=by rw[←hH'];exact v1
 have hbg:((hv H3).map jmE).Perm (((hv H0).map jmE).filter fun y=> !decide (idY y∈bcAt H a.toNat)):=by
  refine(v3.map jmE).trans (List.Perm.of_eq ?_)
  rw[List.filter_map];rfl
 have hsim:(WB.hk H').Perm ((hv H3).map jmE):=by
  refine List.Perm.trans ?_ hbg.symm
  refine List.Perm.trans ?_ (h.sim.filter _)
  unfold WB.hk
  refine((v2.filter _).map _).trans (List.Perm.of_eq ?_)
  rw[List.filter_map,List.filter_filter,List.filter_filter]
  congr 1
  apply List.filter_congr
  intro e _
  rw[Bool.and_comm];rfl
 have k1:keysOf H'=keysOf H:=by rw[←hH'];rfl
 have hid:H'.id=H.id:=by rw[←hH'];rfl
 have hsub:∀e∈hv H',e∈hv H:=fun e he=>(List.mem_filter.1 (v2.mem_iff.1 he)).1
 refine⟨{H3 with used:=H0.used+1},?_,by rw[ebc];exact hbg,by rw[←hH3],by rw[←hH3];rfl,by rw[←hH3];rfl,by rw[←hH3];rfl⟩
 refine h.logged he hsz (bar_A _) hrec q0 hid Y49 (by rw[←hH',←hH3];exact h.names) (by rw[k1,←h.keys,←hH3];rfl) (by rw[←hH',←hH3];dsimp only;rw[h.bt]) (by rw[←hH',←hH3];exact h.sn) (by rw[←hH',←hH3];exact h.av) k1
  (fun e he=>h.free0 e (List.mem_filter.1 (v3.mem_iff.1 he)).1) hsim ((v2.map idE).nodup_iff.2 (h.nod.sublist (List.filter_sublist.map _))) (fun e he=>h.wy e (hsub e he)) (fun e he hj=>by rw[show H'.next=H.next from by rw[←hH'];rfl];exact h.lt e (hsub e he) hj)
  (fun e he hj=>by rw[show H3.next=H0.next from by rw[←hH3];rfl];exact h.lt0 e (List.mem_filter.1 (v3.mem_iff.1 he)).1 hj) (by rw[←hH',←hH3];exact h.nx) (fun u x hx=>?_) fun d i hi=>?_
 ·have hx:H.units[u]? =some x:=by rw[←hH']at hx;exact hx
  have ui:=h.unit u x hx
  have hstay:∀e∈hv H,(0≤e.put∨4≤e.j)→e∈hv H':=fun e he hh=>by
   rw[v2.mem_iff,List.mem_filter]
   have :idE e∉bcAt H a.toNat:=fun hm=>by
    have :=hin e he hm
    omega
   exact⟨he,by rw[decide_eq_false this];rfl⟩
  refine⟨fun p hp=>?_,ui.pn,fun g hg=>?_,ui.gn⟩
  ·obtain⟨a1,a2,e,a3,a4,a5,a6⟩:=ui.puts p hp
   exact⟨fun hh=>by rw[qI_keys k1];exact a1 (by rw[hh,hid]),by rw[hid];exact a2,e,hstay e a3 (.inl (by omega)),by rw[jOf_keys k1 hid];exact a4,a5,a6⟩
  ·obtain⟨i,a1,e,a2,a3,a4⟩:=ui.gets g hg
   exact⟨i,by rw[qI_keys k1];exact a1,e,hstay e a2 (.inr (by omega)),a3,a4⟩
 ·have e5:bcAt H' d=if d=a.toNat then[]else bcAt H d:=by
   rw[←hH']
   unfold bcAt;exact getD_set (by omega) _ _ _
  rw[e5]at hi
  split at hi
  ·cases hi
  ·rename_i hd
   obtain⟨y,hy,a1,a2⟩:=h.bin d i hi
   refine⟨y,hsim.mem_iff.2 (hbg.mem_iff.2 (List.mem_filter.2 ⟨h.sim.mem_iff.1 hy,?_⟩)),a1,a2⟩
   have :idY y∉bcAt H a.toNat:=fun hm=>by
    obtain⟨e,he,rfl⟩:=List.mem_map.1 hy
    exact hd (a1.symm.trans (hin e (List.mem_filter.1 he).1 hm).1)
   rw[decide_eq_false this];rfl
theorem HI.knownF (h:HI k H D H0) {a num:Int} (hp:caPE H a num≠0∨logE H D≠0):HI k (caH H D a num) (caD H D a num) H0:=by
 unfold caH caD
 by_cases h1:caPE H a num≠0
 ·rw[if_pos h1,if_pos h1];exact h
 ·rw[if_neg h1,if_neg h1]
  have hp:logE H D≠0:=hp.resolve_left h1
  unfold wrH
  rw[if_neg hp]
  have hr:=rightK_iff.1 (caPE_parts Y53).1
  refine h.fail ?_ (bar_A _) hp
  have :=(recA_ok (k:=a) ⟨hr.1,hr.2.1⟩).size
  omega
theorem arW_parts {a num:Int} {l:List Ms} (h:arW H a num l=true):rightK H a=true∧H.down=false∧num=avAt H a.toNat+1∧badI l=none∧(∀m∈l,notFor H m=false)∧arTw H l=false:=by
 unfold arW at h
 rw[decide_eq_true_eq]at h
 obtain⟨h1,h2⟩:=h
 unfold arPE at h1
 split at h1
 ·cases h1
 ·rename_i g1
  split at h1
  ·cases h1
  ·rename_i g2
   split at h1
   ·rename_i g3;omega
   ·split at h1
    ·cases h1
    ·rename_i g4
     split at h1
     ·cases h1
     ·rename_i g5
      split at h1
      ·cases h1
      ·rename_i g6
       have g7:badI l=none:=Decidable.byContradiction fun g=>g5 (.inl g)
       have g8:l.any (notFor H)=false:=by
        cases hh:l.any (notFor H)with
        |false=>rfl
        |true=>exact absurd (.inr hh) g5
       rw[List.any_eq_false]at g8
       exact⟨by simpa using g1,by simpa using g2,by omega,g7,fun m hm=>by simpa using g8 m hm,by simpa using g6⟩
theorem arDst_q:∀(l:List Ms) (r:List (ByteArray×Int)),∀t∈arDst H l r,t=deadS∨∃i,H.qI t=some i
 |[],_,t,h=>by cases h
 |m::l,r,t,h=>by
  unfold arDst at h
  split at h
  ·rcases List.mem_cons.1 h with rfl|h
   ·exact .inl rfl
   ·exact arDst_q l r t h
  ·rename_i h1
   rcases List.mem_cons.1 h with rfl|h
   ·right
    unfold toDead at h1
    cases hq:H.qI m.queue with
    |none=>rw[hq]at h1;exact absurd rfl h1
    |some i=>exact⟨i,rfl⟩
   ·exact arDst_q l _ t h
theorem arTw_parts {l:List Ms} (h:arTw H l=false):(l.map (·.id)).Nodup∧∀m∈l,∀x∈H.queues,qhas x.2 m.id=false:=by
 unfold arTw at h
 rw[List.any_eq_false]at h
 have key:∀(i:Nat) m,l[i]? =some m→twAt H l i m=false:=fun i m hm=>by
  have :=h (m,i) (List.mem_zipIdx_iff_getElem?.2 hm)
  simpa using this
 constructor
 ·rw[List.nodup_iff_pairwise_ne,List.pairwise_map,List.pairwise_iff_getElem]
  intro i j hi hj hij e
  have :=key j l[j] (List.getElem?_eq_getElem hj)
  unfold twAt at this
  rw[Bool.or_eq_false_iff,List.any_eq_false]at this
  have h3:l[i]∈l.take j:=List.mem_take_iff_getElem.2 ⟨i,by omega,rfl⟩
  have :=this.1 _ h3
  unfold sameId at this
  simp[e]at this
 ·intro m hm x hx
  obtain⟨i,hi,rfl⟩:=List.getElem_of_mem hm
  have :=key i l[i] (List.getElem?_eq_getElem hi)
  unfold twAt at this
  rw[Bool.or_eq_false_iff,List.any_eq_false]at this
  have h8:=this.2
  rw[List.any_eq_false]at h8
  simpa using h8 x hx
theorem HI.came (h:HI k H D H0) (hb:HdB c kb k (H,D)) (hk:k<4) (hK:kb≤1000000000000) {a num:Int} {l:List Ms} (hl:l.length≤250) (hw:arW H a num l=true) (he:logE H D=0):
 ∃H3 P,HI k (arH H D a num l) (arD H D a num l) H3∧P.map (·.2)=l∧(∀y∈P,4≤y.1)∧(crOf H3).bg.Perm (P++(crOf H0).bg)∧H3.batch=H0.batch∧H3.sent=H0.sent∧H3.arrived=H0.arrived.set a.toNat (avAt H0 a.toNat+1)∧H3.next=H0.next∧avAt (arH H D a num l) a.toNat=avAt H a.toNat+1:=by
 obtain⟨h1,-,h3,h4,h5,h6⟩:=arW_parts hw
 obtain⟨t1,t2⟩:=arTw_parts h6
 have hr:=rightK_iff.1 h1
 have hB:=hb.B
 dsimp only at hB
 have hB0:=(h.B0 hb hk hK).1
 have hj:a.toNat<4:=by omega
 have e0:H0.id=H.id:=by rw[h.id0,h.hid]
 have eav:avAt H0 a.toNat=avAt H a.toNat:=by unfold avAt;rw[h.av]
 have hlr:=badI_all h4
 have htw:=arDst_word (H:=H) hlr []
 have htl:=arDst_len H l []
 have htq:∀t∈arDst H l [],∃i,H.qI t=some i:=fun t ht=>by
  rcases arDst_q l [] t ht with rfl|hh
  ·exact h.dead
  ·exact hh
 obtain⟨eL,-,-,-⟩:=logE_parts he (arRec H a l)
 obtain⟨hrec,hsz⟩:=recR_ok (k:=a) ⟨hr.1,hr.2.1⟩ h4 hl htw htl
 have hz:∀x∈l.zip (arDst H l []),((0≤x.1.pri∧x.1.pri≤9)∧0≤x.1.id∧x.1.id≤1099511627776)∧∃i,H.qI x.2=some i:=fun x hx=>by
  obtain⟨x1,x2⟩:=x
  have h7:=List.of_mem_zip hx
  obtain⟨m1,m2,m3,m4,-⟩:=msRight_parts (hlr _ h7.1)
  exact⟨⟨⟨m3,m4⟩,m1,m2⟩,htq _ h7.2⟩
 have hBl:HoB (300+c+250*H.used) {H with used:=H.used+1}:=by
  have :=hB.log (D:=D)
  rw[eL]at this;exact this
 obtain⟨H2,e2,p2,k2,n2,x2,s2,-⟩:=comes_bag (l.zip (arDst H l [])) hBl hz
 obtain⟨H3,e3,p3,k3,n3,x3,s3,-⟩:=comes_bag (l.zip (arDst H l [])) hB0 fun x hx=>by
  obtain⟨b1,i,b2⟩:=hz x hx
  exact⟨b1,i,by rw[qI_keys h.keys];exact b2⟩
 have ek0:∀s,H0.qI s=H.qI s:=fun s=>qI_keys h.keys s
 have ek2:∀s,({H with used:=H.used+1}:Ho).qI s=H.qI s:=fun s=>rfl
 have hN0:((l.zip (arDst H l [])).map fun x=>(⟨4+(H0.qI x.2).getD 0,x.1,-1,-1⟩:En))=(l.zip (arDst H l [])).map fun x=>⟨4+(H.qI x.2).getD 0,x.1,-1,-1⟩:=by
  apply List.map_congr_left;intro p _;rw[ek0]
 rw[hN0]at p3
 have p2:(hv H2).Perm (((l.zip (arDst H l [])).map fun x=>(⟨4+(H.qI x.2).getD 0,x.1,-1,-1⟩:En))++hv H):=p2
 generalize hN:((l.zip (arDst H l [])).map fun x=>(⟨4+(H.qI x.2).getD 0,x.1,-1,-1⟩:En))=N at p2 p3
 have hNk:∀e∈N,e.put= -1∧e.got= -1∧4≤e.j∧e.m∈l:=fun e he=>by
  rw[←hN]at he
  obtain⟨p,hp,rfl⟩:=List.mem_map.1 he
  obtain⟨p1,p2⟩:=p
  exact⟨rfl,rfl,by dsimp only;omega,(List.of_mem_zip hp).1⟩
 have hzl:(l.zip (arDst H l [])).map (·.1)=l:=List.map_fst_zip (by rw[htl];exact Nat.le_refl _)
 have hNm:N.map (·.m)=l:=by
  rw[←hN,List.map_map]
  exact hzl
 have hNi:N.map idE=l.map (·.id):=by
  rw[←hNm,List.map_map];rfl
 have hfresh:∀m∈l,∀e∈hv H,idE e≠m.id:=fun m hm e he e5=>by
  have g1:=h5 m hm
  unfold notFor at g1
  rw[Bool.or_eq_false_iff]at g1
  have g2:m.id%4≠H.id:=by simpa using g1.2
  rcases Nat.lt_or_ge e.j 4 with h7|h7
  ·have :=h.wy e he h7
   unfold idE at e5
   rw[e5,←h.hid]at this
   exact g2 this
  ·obtain⟨q,a1,x,a2,a3⟩:=vw_mem.1 he
   unfold Ho.all at a1
   rw[List.getElem?_append_right (by rw[hB.ways];exact h7),List.getElem?_map]at a1
   obtain⟨z,b1,b2⟩:=Option.map_eq_some_iff.1 a1
   have g3:=t2 m hm z (List.mem_of_getElem? b1)
   rw[b2]at g3
   unfold qhas at g3
   rw[List.any_eq_false]at g3
   have :=g3 x a2
   unfold idB at this
   have g4:x.m.id=m.id:=by rw[←e5,a3];rfl
   simp[g4]at this
 have q0:hplays H0 (arRec H a l)=({H3 with arrived:=H0.arrived.set a.toNat (avAt H0 a.toNat+1)},true):=hplays_came (by rw[rightK_id e0];exact h1) h4 htw htl e3
 have q1:hplays {H with used:=H.used+1} (arRec H a l)=({H2 with arrived:=H.arrived.set a.toNat (avAt H a.toNat+1)},true):=hplays_came (H:={H with used:=H.used+1}) h1 h4 htw htl e2
 unfold arH arD
 rw[if_pos hw,if_pos hw]
 unfold wrH
 rw[if_pos he,eL,q1]
 dsimp only
 have hbg:((hv H3).map jmE).Perm (N.map jmE++(hv H0).map jmE):=by rw[←List.map_append];exact p3.map jmE
 have hsim:(WB.hk H2).Perm ((hv H3).map jmE):=by
  refine List.Perm.trans ?_ hbg.symm
  refine List.Perm.trans ?_ ((List.Perm.refl _).append h.sim)
  unfold WB.hk
  refine((p2.filter _).map _).trans (List.Perm.of_eq ?_)
  rw[List.filter_append,List.map_append,List.filter_eq_self.2 (fun e he=>by unfold keptB;simp[(hNk e he).1])]
 have hids:H2.id=H.id:=s2.id
 have hks:keysOf H2=keysOf H:=k2
 have hmem:∀e∈hv H,e∈hv H2:=fun e he=>p2.mem_iff.2 (List.mem_append_right _ he)
 have hcase:∀e∈hv H2,(4≤e.j∧e.m∈l)∨e∈hv H:=fun e he=>by
  rcases List.mem_append.1 (p2.mem_iff.1 he)with g1|g1
  ·exact .inl ⟨(hNk e g1).2.2.1,(hNk e g1).2.2.2⟩
  ·exact .inr g1
 have hnl:∀m∈l,m.id%4≠(k:Int):=fun m hm=>by
  have g1:=h5 m hm
  unfold notFor at g1
  rw[Bool.or_eq_false_iff]at g1
  rw[←h.hid];simpa using g1.2
 refine⟨{H3 with arrived:=H0.arrived.set a.toNat (avAt H0 a.toNat+1),used:=H0.used+1},N.map jmE,?_,by rw[List.map_map];exact hNm,fun y hy=>?_,hbg,s3.batch,s3.sent,rfl,x3,?_⟩
 ·refine h.logged he (Nat.le_trans hsz (by decide)) (bar_R _ hlr htw) hrec q0 hids s2.used (by dsimp only;rw[n2];exact n3.trans h.names) (by show keysOf H3=keysOf H2;rw[hks];exact k3.trans h.keys) (by dsimp only;rw[s2.batch];exact s3.batch.trans h.bt) (by dsimp only;rw[s2.sent];exact s3.sent.trans h.sn) (by dsimp only;rw[eav,h.av]) hks
   (fun e he=>?_) hsim ?_ (fun e he hj=>?_) (fun e he hj=>?_) (fun e he hj=>?_) (by dsimp only;rw[x3,x2];exact h.nx) (fun u x hx=>?_) fun d i hi=>?_
  ·rcases List.mem_append.1 (p3.mem_iff.1 he)with g1|g1
   ·exact⟨(hNk e g1).1,(hNk e g1).2.1⟩
   ·exact h.free0 e g1
  ·refine(p2.map idE).nodup_iff.2 ?_
   rw[List.map_append,List.nodup_append,hNi]
   refine⟨t1,h.nod,fun x hx y hy=>?_⟩
   obtain⟨m,hm,rfl⟩:=List.mem_map.1 hx
   obtain⟨e,he,rfl⟩:=List.mem_map.1 hy
   exact fun e5=>hfresh m hm e he e5.symm
  ·rcases hcase e he with g1|g1
   ·omega
   ·exact h.wy e g1 hj
  ·rcases hcase e he with g1|g1
   ·exact absurd hj (hnl _ g1.2)
   ·rw[show({H2 with arrived:=H.arrived.set a.toNat (avAt H a.toNat+1)}:Ho).next=H.next from x2];exact h.lt e g1 hj
  ·rcases List.mem_append.1 (p3.mem_iff.1 he)with g1|g1
   ·exact absurd hj (hnl _ (hNk e g1).2.2.2)
   ·rw[show({H3 with arrived:=H0.arrived.set a.toNat (avAt H0 a.toNat+1)}:Ho).next=H0.next from x3];exact h.lt0 e g1 hj
  ·have hx:H.units[u]? =some x:=by rw[←show H2.units=H.units from s2.units];exact hx
   have ui:=h.unit u x hx
   refine UJ.same (H:=H2) ⟨fun p hp=>?_,ui.pn,fun g hg=>?_,ui.gn⟩ rfl rfl rfl
   ·obtain⟨a1,a2,e,a3,a4⟩:=ui.puts p hp
    exact⟨fun hh=>by rw[qI_keys hks];exact a1 (by rw[hh,hids]),by rw[hids];exact a2,e,hmem e a3,by rw[jOf_keys hks hids];exact a4⟩
   ·obtain⟨i,a1,e,a2,a3⟩:=ui.gets g hg
    exact⟨i,by rw[qI_keys hks];exact a1,e,hmem e a2,a3⟩
  ·have hi:i∈bcAt H d:=by unfold bcAt at hi ⊢;rw[←show H2.batch=H.batch from s2.batch];exact hi
   obtain⟨y,hy,a1,a2⟩:=h.bin d i hi
   exact⟨y,hsim.mem_iff.2 (hbg.mem_iff.2 (List.mem_append_right _ (h.sim.mem_iff.1 hy))),a1,a2⟩
 ·obtain⟨e,he,rfl⟩:=List.mem_map.1 hy
  exact(hNk e he).2.2.1
 ·unfold avAt
  rw[show({H2 with arrived:=H.arrived.set a.toNat (H.arrived.getD a.toNat 0+1)}:Ho).arrived=H.arrived.set a.toNat (H.arrived.getD a.toNat 0+1)from rfl,getD_set (by rw[hB.arrived];exact hj),if_pos rfl]
theorem HI.cameF (h:HI k H D H0) {a num:Int} {l:List Ms} (hl:l.length≤250) (hp:arW H a num l=false∨logE H D≠0):HI k (arH H D a num l) (arD H D a num l) H0:=by
 unfold arH arD
 by_cases h1:arW H a num l=true
 ·rw[if_pos h1,if_pos h1]
  rcases hp with hp|hp
  ·rw[hp]at h1;cases h1
  ·obtain⟨g1,-,-,h4,-,-⟩:=arW_parts h1
   have hr:=rightK_iff.1 g1
   have hlr:=badI_all h4
   have htw:=arDst_word (H:=H) hlr []
   obtain⟨hrec,hsz⟩:=recR_ok (k:=a) ⟨hr.1,hr.2.1⟩ h4 hl htw (arDst_len H l [])
   unfold wrH
   rw[if_neg hp]
   exact h.fail (Nat.le_trans hsz (by decide)) (bar_R _ hlr htw) hp
 ·rw[if_neg h1,if_neg h1];exact h
end
end WB
/- worlds: the ledger -/
namespace WB
open Go
def hkeptL (H:Ho):List Ms:=H.queues.flatMap fun q=>qkept q.2
theorem qI_at {H:Ho} (hn:(H.queues.map (·.1)).Nodup) {i:Nat} {x:ByteArray×Qu} (hx:H.queues[i]? =some x):H.qI x.1=some i∧H.qAt i=x.2:=by
 have hi:=(List.getElem?_eq_some_iff.1 hx).1
 have hxe:=(List.getElem?_eq_some_iff.1 hx).2
 refine⟨?_,?_⟩
 ·unfold Ho.qI
  rw[List.findIdx?_eq_some_iff_getElem]
  refine⟨hi,by rw[hxe];simp,fun j hj=>?_⟩
  have h2:=List.pairwise_iff_getElem.1 hn j i Y61 (by simpa using hi) hj
  simp only[List.getElem_map]at h2
  rw[hxe]at h2
  simpa using h2
 ·unfold Ho.qAt
  rw[List.getD_eq_getElem?_getD,hx];rfl
theorem kept_perm {n:Nat} {H:Ho} (hB:HoB n H) {ns:List ByteArray} (h:ns.Perm (H.queues.map (·.1))):((sortB ns).flatMap (keptAt H)).Perm (hkeptL H):=by
 have h1:=((sortB_perm ns).trans h).flatMap_right (keptAt H)
 refine h1.trans (List.Perm.of_eq ?_)
 unfold hkeptL
 rw[List.flatMap_map]
 have key:∀x∈H.queues,keptAt H x.1=qkept x.2:=fun x hx=>by
  obtain⟨i,hi,rfl⟩:=List.getElem_of_mem hx
  obtain⟨a,b⟩:=qI_at hB.nodup (List.getElem?_eq_getElem hi)
  unfold keptAt
  rw[a]
  dsimp only
  rw[b]
 exact flat_congr key
where flat_congr {f g:ByteArray×Qu→List Ms}:∀{l:List (ByteArray×Qu)},(∀x∈l,f x=g x)→l.flatMap f=l.flatMap g
 |[],_=>rfl
 |a::l,h=>by rw[List.flatMap_cons,List.flatMap_cons,h a (by simp),flat_congr fun x hx=>h x Y67]
def cameB (W:Wo) (k dst:Nat):Bool:=decide (bcAt (W.H k) dst≠[]∧W.is dst=true∧rightK (W.H k) dst=true∧snAt (W.H k) dst≤(if rightK (W.H dst) k=true then avAt (W.H dst) k else 0))
def ledWay (W:Wo) (k dst:Nat):List Ms:=if rightK (W.H k) dst=true then(qkept ((W.H k).wAt dst)).filter fun m=> !cameB W k dst|| !decide (m.id∈bcAt (W.H k) dst)else[]
def ledK (W:Wo) (k:Nat):List Ms:=hkeptL (W.H k)++(List.range 4).flatMap (ledWay W k)
def ledP (W:Wo):List Ms:=(List.range W.hs.length).flatMap (ledK W)
theorem qkept_len (q:Qu):(qkept q).length≤q.l.length:=by
 unfold qkept;rw[List.length_map];exact List.length_filter_le _ _
theorem hkeptL_len {n:Nat} {H:Ho} (hB:HoB n H):(hkeptL H).length≤H.queues.length *n:=by
 unfold hkeptL
 have key:∀l:List (ByteArray×Qu),(∀x∈l,x∈H.queues)→(l.flatMap fun q=>qkept q.2).length≤l.length *n:=by
  intro l
  induction l with
  |nil=>intro _;simp
  |cons a l ih=>
   intro hl
   have h1:=ih fun x hx=>hl x Y67
   have h2:(qkept a.2).length≤n:=by
    obtain⟨i,hi,e⟩:=List.getElem_of_mem (hl a (by simp))
    obtain⟨c,d⟩:=qI_at hB.nodup (List.getElem?_eq_getElem hi)
    have h3:=(hB.qa hi).len
    rw[d,e]at h3
    exact Nat.le_trans (qkept_len _) h3
   rw[List.flatMap_cons,List.length_append,List.length_cons,Nat.succ_mul]
   omega
 exact key _ fun _ h=>h
theorem ledWay_len {c kb:Nat} {W:Wo} (h:WoB c kb W) (hc:c≤4000) {k:Nat} (hk:k<W.hs.length) (dst:Nat):(ledWay W k dst).length≤80000:=by
 unfold ledWay
 split
 ·rename_i hr
  obtain⟨x,hx,e1,e2⟩:=wo_get hk
  have hB:HoB 79600 x.1:=(h.hs k x hx).B.le (by have :=(h.hs k x hx).B.used;omega)
  obtain⟨h0,h4,-⟩:=rightK_iff.1 hr
  have h1:=(hB.w (j:=dst) (by omega)).len
  rw[e1]
  refine Nat.le_trans (List.length_filter_le _ _) (Nat.le_trans (qkept_len _) (by omega))
 ·simp
theorem qkept_ids {n:Nat} {q:Qu} (h:QB n q):∀m∈qkept q,0≤m.id∧m.id≤1099511627776:=fun m hm=>by
 unfold qkept at hm
 obtain⟨e,he,rfl⟩:=List.mem_map.1 hm
 exact h.ids e (List.mem_filter.1 he).1
theorem hkeptL_ids {n:Nat} {H:Ho} (hB:HoB n H):∀m∈hkeptL H,0≤m.id∧m.id≤1099511627776:=fun m hm=>by
 unfold hkeptL at hm
 obtain⟨a,ha,hm⟩:=List.mem_flatMap.1 hm
 obtain⟨i,hi,e⟩:=List.getElem_of_mem ha
 obtain⟨c,d⟩:=qI_at hB.nodup (List.getElem?_eq_getElem hi)
 have h3:=hB.qa hi
 rw[d,e]at h3
 exact qkept_ids h3 m hm
theorem ledP_ids {c kb:Nat} {W:Wo} (h:WoB c kb W) (hc:c≤4000):∀m∈ledP W,0≤m.id∧m.id≤1099511627776:=fun m hm=>by
 unfold ledP at hm
 obtain⟨k,hk,hm⟩:=List.mem_flatMap.1 hm
 have hk:=List.mem_range.1 hk
 obtain⟨x,hx,e1,e2⟩:=wo_get hk
 have hB:HoB 79600 x.1:=(h.hs k x hx).B.le (by have :=(h.hs k x hx).B.used;omega)
 unfold ledK at hm
 rw[e1]at hm
 rcases List.mem_append.1 hm with hm|hm
 ·exact hkeptL_ids hB m hm
 ·obtain⟨j,hj,hm⟩:=List.mem_flatMap.1 hm
  have hj:=List.mem_range.1 hj
  unfold ledWay at hm
  rw[e1]at hm
  split at hm
  ·exact qkept_ids (hB.w hj) m (List.mem_filter.1 hm).1
  ·cases hm
end WB
/- worlds: each message is once, whatever is done -/
namespace WB
open Go
def nmL (k n:Nat):List Nm:=[⟨farS,inS,((k:Int)+1)%n⟩,⟨inS,⟨#[]⟩,-1⟩,⟨outS,⟨#[]⟩,-1⟩]
def CC (C0:Nat→Ho):Nat→Cr:=fun k=>crOf (C0 k)
def updH (C0:Nat→Ho) (k:Nat) (H:Ho):Nat→Ho:=fun i=>if i=k then H else C0 i
structure GI (n:Nat) (W:Wo) (C0:Nat→Ho) (T:List Ms):Prop where
 hn:W.hs.length=n
 hi:∀(k:Nat) x,W.hs[k]? =some x→HI k x.1 x.2 (C0 k)
 gc:GC n (CC C0) W.way T
 fresh:∀(k:Nat) x,W.hs[k]? =some x→∀(u:Nat) y,x.1.units[u]? =some y→∀p∈y.puts,p.1.id∉T.map (·.id)
 nms:∀(k:Nat) x,W.hs[k]? =some x→x.1.names=nmL k n
theorem CC_upd (C0:Nat→Ho) (k:Nat) (H:Ho):CC (updH C0 k H)=setC (CC C0) k (crOf H):=by
 funext i
 unfold CC updH setC
 by_cases e:i=k
 ·rw[if_pos e,if_pos e]
 ·rw[if_neg e,if_neg e]
theorem updH_self (C0:Nat→Ho) (k:Nat):updH C0 k (C0 k)=C0:=by
 funext i
 unfold updH
 by_cases e:i=k
 ·rw[if_pos e,e]
 ·rw[if_neg e]
theorem set_get {W:Wo} {k i:Nat} {x y:Ho×Dk} (h:(W.setH k x).hs[i]? =some y):(i=k∧y=x)∨(i≠k∧W.hs[i]? =some y):=by
 unfold Wo.setH at h
 dsimp only at h
 rw[List.getElem?_set]at h
 by_cases e:k=i
 ·rw[if_pos e]at h
  split at h
  ·simp only[Option.some.injEq]at h;exact .inl ⟨e.symm,h.symm⟩
  ·cases h
 ·rw[if_neg e]at h;exact .inr ⟨fun e2=>e e2.symm,h⟩
section
variable {c kb n:Nat} {W:Wo} {C0:Nat→Ho} {T:List Ms}
theorem GI.set (g:GI n W C0 T) {k:Nat} {H' H3:Ho} {D':Dk} {T':List Ms} (hi:HI k H' D' H3) (gc:GC n (setC (CC C0) k (crOf H3)) W.way T') (hnm:H'.names=nmL k n)
 (fr:∀(u:Nat) y,H'.units[u]? =some y→∀p∈y.puts,p.1.id∉T'.map (·.id)) (fro:∀(i:Nat) x,i≠k→W.hs[i]? =some x→∀(u:Nat) y,x.1.units[u]? =some y→∀p∈y.puts,p.1.id∉T'.map (·.id)):
 GI n (W.setH k (H',D')) (updH C0 k H3) T':=by
 refine⟨by rw[setH_n];exact g.hn,fun i x hx=>?_,by rw[CC_upd];exact gc,fun i x hx=>?_,fun i x hx=>?_⟩
 ·unfold updH
  rcases set_get hx with⟨rfl,rfl⟩|⟨hne,hx⟩
  ·rw[if_pos rfl];exact hi
  ·rw[if_neg hne];exact g.hi i x hx
 ·rcases set_get hx with⟨rfl,rfl⟩|⟨hne,hx⟩
  ·exact fr
  ·exact fro i x hne hx
 ·rcases set_get hx with⟨rfl,rfl⟩|⟨hne,hx⟩
  ·exact hnm
  ·exact g.nms i x hx
theorem setC_self (C0:Nat→Ho) (k:Nat):setC (CC C0) k (crOf (C0 k))=CC C0:=by rw[←CC_upd,updH_self]
theorem GI.same (g:GI n W C0 T) {k:Nat} {H':Ho} {D':Dk} (hi:HI k H' D' (C0 k)) (hnm:H'.names=nmL k n) (fr:∀(u:Nat) y,H'.units[u]? =some y→∀p∈y.puts,p.1.id∉T.map (·.id)):GI n (W.setH k (H',D')) C0 T:=by
 have :=g.set (T':=T) hi (by rw[setC_self];exact g.gc) hnm fr (fun i x _ hx=>g.fresh i x hx)
 rw[updH_self]at this
 exact this
theorem GI.units (g:GI n W C0 T) {k:Nat} {x:Ho×Dk} (hx:W.hs[k]? =some x) {H':Ho} (hu:H'.units=x.1.units):∀(u:Nat) y,H'.units[u]? =some y→∀p∈y.puts,p.1.id∉T.map (·.id):=fun u y hy=>g.fresh k x hx u y (by rw[←hu];exact hy)
theorem GI.way (g:GI n W C0 T) {way':List Gm} {lost:Int} (hw:∀m∈way',m∈W.way∨FrOk n (CC C0) m):GI n {W with way:=way',lost:=lost} C0 T:=
 ⟨g.hn,g.hi,g.gc.sub hw,g.fresh,g.nms⟩
theorem GI.wput (g:GI n W C0 T) {m:Gm} (hm:FrOk n (CC C0) m):GI n (wPut W m) C0 T:=by
 unfold wPut
 split
 ·exact g.way fun m hm=>.inl hm
 ·have :GI n {W with way:=W.way++[m],lost:=W.lost} C0 T:=g.way fun m' hm'=>by
   rcases List.mem_append.1 hm' with h|h
   ·exact .inl h
   ·simp at h;subst h;exact .inr hm
  exact this
theorem GI.wsend (g:GI n W C0 T) {dst:Int} {f:Fr} {l:List Ms} (hm:FrOk n (CC C0) ⟨dst,f,l⟩):GI n (wSend W dst f l) C0 T:=by
 unfold wSend
 split
 ·exact g.wput hm
 ·exact g
theorem GI.out (g:GI n W C0 T) (i:Nat):GI n (outW W i) C0 T:=by
 have :GI n {W with way:=W.way.eraseIdx i,lost:=W.lost} C0 T:=g.way fun m hm=>.inl ((List.eraseIdx_sublist _ _).subset hm)
 exact this
theorem hk_flat (H:Ho) (p:Nat×Ms→Bool):((hk H).filter p).map (·.2)=H.all.zipIdx.flatMap fun x=>(qkept x.1).filter fun m=>p (x.2,m):=by
 unfold hk hv vw
 rw[List.filter_flatMap,List.map_flatMap,List.filter_flatMap,List.map_flatMap]
 congr 1
 funext x
 unfold ent qkept
 rw[List.filter_map,List.filter_map,List.filter_map,List.map_map,List.map_map,List.filter_map,List.filter_filter,List.filter_filter]
 rfl
theorem four_of {α:Type} {l:List α} (h:l.length=4):∃a b c d,l=[a,b,c,d]:=by
 match l,h with
 |[a,b,c,d],_=>exact⟨a,b,c,d,rfl⟩
theorem zip_flat {α β:Type} (f:Nat→α→List β) (g:α→List β):∀(l:List α) (s:Nat),(∀j,s≤j→∀x,f j x=g x)→((l.zipIdx s).flatMap fun x=>f x.2 x.1)=l.flatMap g
 |[],_,_=>rfl
 |a::l,s,h=>by rw[List.zipIdx_cons,List.flatMap_cons,List.flatMap_cons,h s (Nat.le_refl _),zip_flat f g l (s+1) fun j hj=>h j (by omega)]
theorem hk_split {H:Ho} (h4:H.ways.length=4) (p:Nat×Ms→Bool):((hk H).filter p).map (·.2)=((List.range 4).flatMap fun j=>(qkept (H.wAt j)).filter fun m=>p (j,m))++((H.queues.map (·.2)).zipIdx 4).flatMap fun x=>(qkept x.1).filter fun m=>p (x.2,m):=by
 rw[hk_flat]
 unfold Ho.all Ho.wAt
 obtain⟨a,b,c,d,e⟩:=four_of h4
 rw[e]
 show(([a,b,c,d]++H.queues.map (·.2)).zipIdx).flatMap _=_
 rw[List.zipIdx_append,List.flatMap_append]
 congr 1
theorem hk_at {H:Ho} (h4:H.ways.length=4) {j:Nat} (hj:j<4) (p:Ms→Bool):((hk H).filter fun y=>decide (y.1=j)&&p y.2).map (·.2)=(qkept (H.wAt j)).filter p:=by
 rw[hk_split h4]
 have h2:(((H.queues.map (·.2)).zipIdx 4).flatMap fun x=>(qkept x.1).filter fun m=>decide (x.2=j)&&p m)=(H.queues.map (·.2)).flatMap fun _=>([]:List Ms):=by
  refine zip_flat (fun i q=>(qkept q).filter fun m=>decide (i=j)&&p m) (fun _=>[]) _ 4 fun i hi x=>?_
  rw[List.filter_eq_nil_iff]
  intro m _
  have :i≠j:=by omega
  simp[this]
 have h3:((H.queues.map (·.2)).flatMap fun _=>([]:List Ms))=[]:=by simp
 dsimp only at h2 ⊢
 rw[h2,h3,List.append_nil]
 have :∀i,((qkept (H.wAt i)).filter fun m=>decide (i=j)&&p m)=if i=j then(qkept (H.wAt j)).filter p else[]:=fun i=>by
  by_cases e:i=j
  ·subst e;simp
  ·rw[if_neg e,List.filter_eq_nil_iff];intro m _;simp[e]
 simp only[this]
 have hj4:j=0∨j=1∨j=2∨j=3:=by omega
 rcases hj4 with rfl|rfl|rfl|rfl<;>simp[List.range_succ]
theorem led_view (hw:WoB c kb W) (g:GI n W C0 T) {k:Nat} (hk:k<n):(ledK W k).Perm (view n (CC C0) k):=by
 have hn:=g.hn
 have hn4:=hw.n1
 obtain⟨x,hx,e1,e2⟩:=wo_get (W:=W) (j:=k) (by omega)
 have h:=g.hi k x hx
 have hB:=(hw.hs k x hx).B
 unfold view
 rw[show(CC C0 k).bg=(hv (C0 k)).map jmE from rfl]
 refine List.Perm.trans ?_ ((h.sim.filter _).map _)
 rw[hk_split hB.ways]
 have hq:(((x.1.queues.map (·.2)).zipIdx 4).flatMap fun y=>(qkept y.1).filter fun m=>visC n (CC C0) k (y.2,m))=hkeptL x.1:=by
  have :(((x.1.queues.map (·.2)).zipIdx 4).flatMap fun y=>(fun(j:Nat) (q:Qu)=>(qkept q).filter fun m=>visC n (CC C0) k (j,m)) y.2 y.1)=(x.1.queues.map (·.2)).flatMap qkept:=by
   refine zip_flat (fun(j:Nat) (q:Qu)=>(qkept q).filter fun m=>visC n (CC C0) k (j,m)) qkept _ 4 fun j hj q=>?_
   rw[List.filter_eq_self]
   intro m _
   unfold visC
   simp[hj]
  refine this.trans ?_
  unfold hkeptL
  rw[List.flatMap_map]
 rw[hq]
 unfold ledK
 rw[e1]
 refine List.perm_append_comm.trans (List.Perm.of_eq ?_)
 congr 1
 refine take_bag_flat fun j hj=>?_
 have hj:=List.mem_range.1 hj
 unfold ledWay
 rw[e1]
 have hbt:bcAt (C0 k) j=bcAt x.1 j:=by unfold bcAt;rw[h.bt]
 have hsn:snAt (C0 k) j=snAt x.1 j:=by unfold snAt;rw[h.sn]
 have hr:rightK x.1 (j:Int)=decide (j≠k):=by
  unfold rightK
  rw[h.hid]
  by_cases e:j=k
  ·subst e;simp
  ·have :(j:Int)≠(k:Int):=fun e2=>e (by omega)
   simp[e,this];omega
 have hcam:j≠k→cam n (CC C0) k j=cameB W k j:=fun hjk=>by
  unfold cam cameB
  rw[e1,hr]
  show decide (bcAt (C0 k) j≠[]∧j<n∧snAt (C0 k) j≤avAt (C0 j) k)=_
  rw[hbt,hsn]
  by_cases hjn:j<n
  ·obtain⟨y,hy,f1,-⟩:=wo_get (W:=W) (j:=j) (by omega)
   have h2:=g.hi j y hy
   have hrr:rightK y.1 (k:Int)=true:=by
    rw[rightK_iff,h2.hid]
    refine⟨by omega,by omega,fun e=>hjk (by omega)⟩
   have hav:avAt (C0 j) k=avAt y.1 k:=by unfold avAt;rw[h2.av]
   rw[f1,if_pos hrr,hav]
   have :W.is (j:Int)=true:=by unfold Wo.is;rw[decide_eq_true_eq];omega
   simp[hjk,hjn,this]
  ·have :W.is (j:Int)=false:=by unfold Wo.is;rw[decide_eq_false_iff_not];omega
   simp[hjn,this]
 rw[hr]
 by_cases hjk:j=k
 ·rw[if_neg (by simp[hjk]),eq_comm,List.filter_eq_nil_iff]
  intro m _
  unfold visC
  have :¬4≤j:=by omega
  simp[this,hjk];omega
 ·rw[if_pos (by simp[hjk])]
  apply List.filter_congr
  intro m _
  unfold visC
  rw[hcam hjk]
  show _=(decide (4≤j)||(decide (j≠k)&& !(cameB W k j&&decide (m.id∈bcAt (C0 k) j))))
  rw[hbt]
  have :¬4≤j:=by omega
  simp[this,hjk,Bool.not_and]
where take_bag_flat {α β:Type} {f g:α→List β}:∀{l:List α},(∀x∈l,f x=g x)→l.flatMap f=l.flatMap g
 |[],_=>rfl
 |a::l,h=>by rw[List.flatMap_cons,List.flatMap_cons,h a (by simp),take_bag_flat fun x hx=>h x Y67]
theorem GI.led (g:GI n W C0 T) (hw:WoB c kb W):(ledP W).Perm T:=by
 refine List.Perm.trans ?_ g.gc.led
 unfold ledP ledC
 rw[g.hn]
 have key:∀l:List Nat,(∀k∈l,k<n)→(l.flatMap (ledK W)).Perm (l.flatMap (view n (CC C0))):=by
  intro l
  induction l with
  |nil=>intro _;exact .refl _
  |cons a l ih=>
   intro h
   rw[List.flatMap_cons,List.flatMap_cons]
   exact(led_view hw g (h a (by simp))).append (ih fun k hk=>h k (by simp[hk]))
 exact key _ fun k hk=>List.mem_range.1 hk
end
end WB
