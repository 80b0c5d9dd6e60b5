import Derived.Test.YtjhogocabcdjbabGreatDoorB3
set_option linter.unusedSimpArgs false
set_option linter.unusedVariables false
set_option maxRecDepth 100000
set_option maxHeartbeats 8000000
namespace Go.Proofs.YtjhogocabcdjbabGreatDoor
open Tryz
open Go Go.RowKit WB
theorem NM{w0 w:World}{L:List HP}{b k:Nat}{xs:List ak}{vs:List Value}(h:St w0 (bP b (.cells vs.toArray 9 (0,0))::L) w)(SS:vs=xs.map Value.string)(hk:xs.length=k)(hle:k<=1000):St w0 (l5 (.slice (some ⟨b,0,none⟩) k k) xs::L) w:=by
 subst hk
 have hf:xs.flatMap ln=vs:=by rw[SS];clear SS h hle;induction xs with
  |nil=>rfl
  |cons a l ih=>rw[aR,ih];rfl
 refine h.lO (aD _) Ux ?_ ?_
 ·rw[SS];simp
 ·rw[hf,SS,Nat.mul_one];exact List.take_of_length_le aj
theorem abV(w0:World)(L:List HP)(f:Fr)(v:Value)(xs:List Ms)(hr0:∀w,St w0 L w->x9 w 5 du v xs)(Re:qH w0)(dK:∀m∈xs,m.body.size<=maxLen/\m.queue.size<=maxLen):
 KE prog 264 #[.agg (frC f v).toArray] w0 L (fun u M=>u=.tuple #[.string (fwT f xs),cS 70 (fwE f xs)]/\M=L):=by
 refine KE.mk (n:=62) func264 rfl ntmps264 aj ?_
 intro w hw
 have hT:=Re.ext (Ext.ct hw.below)
 have hr:=hr0 w hw
 have Zg:=hr
 obtain⟨sa,cap,rfl,hc⟩:=Zg
 have fin:∀(e:Int) (t:ak) (w':World) (M:List HP),e=fwE f xs->t=fwT f xs->St w M w'->∃v L',Ending.returned (.tuple #[.string t,cS 70 e])=Ending.returned v/\(v=.tuple #[.string (fwT f xs),cS 70 (fwE f xs)]/\L'=L)/\St w0 L' w'/\Below w.heap.size w w':=fun e t w' M h1 h2 hs=>⟨_,_,rfl,⟨by rw[h1,h2],rfl⟩,hw.aE hs.below,hs.below⟩
 refine Z3 ?_
 refine KO.box rfl rfl aQ rfl ?_;intro b1
 refine Z7 ?_
 refine lK ?_
 by_cases a1:f.fa<0
 ·have fG:=p7 (f:=f) (xs:=xs) (fun h=>by unfold okF at h;omega)
  refine Jz ?_
  refine Ub ?_
  refine Ql ?_
  refine sO ?_
  refine tM ?_
  refine yx ?_
  refine tM ?_
  refine BH ?_
  refine Vz ?_
  refine BH ?_
  refine xE ?_
  refine qb ?_
  refine KQ.fp rfl rfl rfl (fun w' hs=>fin 1 ⟨#[]⟩ w' _ fG.1.symm fG.2.symm hs)
 by_cases a2:4<=f.fa
 ·have fG:=p7 (f:=f) (xs:=xs) (fun h=>by unfold okF at h;omega)
  refine Jz ?_
  refine G_ ?_
  refine Qd ?_
  refine o_ ?_
  refine BJ ?_
  refine Ql ?_
  refine sO ?_
  refine tM ?_
  refine BH ?_
  refine Vz ?_
  refine BH ?_
  refine yx ?_
  refine Z2 ?_
  refine K.cV rfl (by simp[a2]) ?_
  refine qb ?_
  refine KQ.fp rfl rfl rfl (fun w' hs=>fin 1 ⟨#[]⟩ w' _ fG.1.symm fG.2.symm hs)
 by_cases a3:f.num<0
 ·have fG:=p7 (f:=f) (xs:=xs) (fun h=>by unfold okF at h;omega)
  refine Jz ?_
  refine G_ ?_
  refine Qd ?_
  refine o_ ?_
  refine BJ ?_
  refine Ed ?_
  refine yz ?_
  refine x8 ?_
  refine Ql ?_
  refine sO ?_
  refine Em ?_
  refine Vz ?_
  refine BH ?_
  refine yx ?_
  refine Z2 ?_
  refine K.cV rfl (by simp[a3]) ?_
  refine qb ?_
  refine KQ.fp rfl rfl rfl (fun w' hs=>fin 1 ⟨#[]⟩ w' _ fG.1.symm fG.2.symm hs)
 by_cases a4:1099511627776<f.num
 ·have fG:=p7 (f:=f) (xs:=xs) (fun h=>by unfold okF at h;omega)
  refine Jz ?_
  refine G_ ?_
  refine Qd ?_
  refine o_ ?_
  refine BJ ?_
  refine Ed ?_
  refine yz ?_
  refine x8 ?_
  refine Ed ?_
  refine JA ?_
  refine Hg ?_
  refine JJ ?_
  refine sO ?_
  refine Em ?_
  refine yx ?_
  refine Z2 ?_
  refine K.cV rfl (by simp[a4]) ?_
  refine qb ?_
  refine KQ.fp rfl rfl rfl (fun w' hs=>fin 1 ⟨#[]⟩ w' _ fG.1.symm fG.2.symm hs)
 have hz:decide ((xs.length:Int)=0)=decide (xs.length=0):=decide_eq_decide.2 ae
 by_cases a5:f.vN=decide ((xs.length:Int)=0)
 case neg=>
  have fG:=p7 (f:=f) (xs:=xs) (fun h=>by unfold okF at h;rw[hz]at a5;exact a5 h.2.2.2.2.1)
  have a6:(f.vN !=decide ((xs.length:Int)=0))=true:=by simpa using a5
  refine Jz ?_
  refine G_ ?_
  refine Qd ?_
  refine o_ ?_
  refine BJ ?_
  refine Ed ?_
  refine yz ?_
  refine x8 ?_
  refine Ed ?_
  refine JA ?_
  refine A1 ?_
  refine Qs ?_
  refine lL ?_
  refine Qi ?_
  refine lL ?_
  refine Hp ?_
  refine lL ?_
  refine Hh ?_
  refine lL ?_
  refine Bc ?_
  refine lL ?_
  refine D_ ?_
  refine X8 ?_
  refine x8 ?_
  refine Z1 ?_
  refine Hl ?_
  refine Hl ?_
  refine MT ?_
  refine Z2 ?_
  refine K.cV rfl (by simp[a6]) ?_
  refine qb ?_
  refine KQ.fp rfl rfl rfl (fun w' hs=>fin 1 ⟨#[]⟩ w' _ fG.1.symm fG.2.symm hs)
 have a6:(f.vN !=decide ((xs.length:Int)=0))=false:=by simpa using a5
 by_cases a7:3<(xs.length:Int)
 ·have fG:=p7 (f:=f) (xs:=xs) (fun h=>by unfold okF at h;omega)
  refine Jz ?_
  refine G_ ?_
  refine Qd ?_
  refine o_ ?_
  refine BJ ?_
  refine Ed ?_
  refine yz ?_
  refine x8 ?_
  refine Ed ?_
  refine JA ?_
  refine A1 ?_
  refine Qs ?_
  refine lL ?_
  refine Qi ?_
  refine lL ?_
  refine Hp ?_
  refine lL ?_
  refine Hh ?_
  refine lL ?_
  refine Bc ?_
  refine lL ?_
  refine D_ ?_
  refine X8 ?_
  refine x8 ?_
  refine Js ?_
  refine Hp ?_
  refine vB ?_
  refine Hh ?_
  refine vB ?_
  refine Bc ?_
  refine vB ?_
  refine vC ?_
  refine KO.nd rfl xG rfl rfl ?_
  refine Z2 ?_
  refine K.cV rfl (by simp[a7]) ?_
  refine qb ?_
  refine KQ.fp rfl rfl rfl (fun w' hs=>fin 1 ⟨#[]⟩ w' _ fG.1.symm fG.2.symm hs)
 refine Jz ?_
 refine G_ ?_
 refine Qd ?_
 refine o_ ?_
 refine BJ ?_
 refine Ed ?_
 refine yz ?_
 refine x8 ?_
 refine Ed ?_
 refine JA ?_
 refine A1 ?_
 refine Qs ?_
 refine lL ?_
 refine Qi ?_
 refine lL ?_
 refine Hp ?_
 refine lL ?_
 refine Hh ?_
 refine lL ?_
 refine Bc ?_
 refine lL ?_
 refine D_ ?_
 refine X8 ?_
 refine x8 ?_
 refine Js ?_
 refine Hp ?_
 refine vB ?_
 refine Hh ?_
 refine vB ?_
 refine Bc ?_
 refine vB ?_
 refine vC ?_
 refine KO.nd rfl xG rfl rfl ?_
 refine Z2 ?_
 refine K.dp rfl (by simp[a7]) ?_
 refine Z6 ?_
 cases hb:ju xs with
 |some k=>
  have fG:=p7 (f:=f) (xs:=xs) (fun h=>by unfold okF at h;rw[hb]at h;exact absurd h.2.2.2.2.2.2 aj)
  refine dR ?_
  refine Hp ?_
  refine Hh ?_
  refine KO.ce (cp:=[]) rfl rfl rfl call60 rfl (lz w _ _ xs (fun w' hw'=>zH hr (Ext.ct hw'.below)) hT dK ae) ?_;rintro v' L' hR;unfold QN at hR;rw[hb]at hR;obtain⟨be,rfl,rfl⟩:=hR;unfold atV
  refine ky ?_
  refine xD ?_
  refine BA ?_
  refine qb ?_
  refine KQ.fp rfl rfl rfl (fun w' hs=>fin 1 ⟨#[]⟩ w' _ fG.1.symm fG.2.symm hs)
 |none=>
  have kZ:okF f xs:=by unfold okF;exact⟨by omega,by omega,by omega,by omega,by rw[a5,hz],by omega,hb⟩
  obtain⟨e1,e2⟩:=Kz kZ
  have i1:oR f.fa:=⟨by omega,by omega⟩
  have i2:oR f.num:=⟨by omega,by omega⟩
  have s1:=cH i1
  have s2:=cH i2
  have s3:=lg (dG hb)
  refine dR ?_
  refine Hp ?_
  refine Hh ?_
  refine KO.ce (cp:=[]) rfl rfl rfl call60 rfl (lz w _ _ xs (fun w' hw'=>zH hr (Ext.ct hw'.below)) hT dK ae) ?_;rintro v' L' hR;unfold QN at hR;rw[hb]at hR;obtain⟨rfl,rfl⟩:=hR
  refine ky ?_
  refine Jo ?_
  refine BL ?_
  refine dR ?_
  refine mB ?_
  refine Qs ?_
  refine Qi ?_
  refine Z2 ?_
  have p4:(ni f.vN).size<=1:=by unfold ni;split<;>decide
  have hjz:(dn [ni f.vN,b_ f.fa,b_ f.num,cF xs] colon).size<=1000000:=by
   have :=gD colon 1000 [ni f.vN,b_ f.fa,b_ f.num,cF xs] Y12
   have h2:colon.size=1:=rfl
   simp at this;omega
  refine K.cut (fun _:Unit=>[(1,.pointer (some ⟨b1,0,none⟩)),(4,.string (cF xs)),(6,.string (ni f.vN))]) (fun _=>[bP b1 (.cells (frC f (.slice sa xs.length cap)).toArray 256 (0,0))]) (fun _=>True) ?_ ?_
  ·refine K.cond rfl (fun h=>?_) (fun h=>?_)
   ·refine dR ?_
    refine xF ?_
    exact KQ.tf () trivial ⟨rfl,rfl,by rw[h];rfl,trivial⟩ (fun _ h=>h.all QE)
   ·refine K.skip ?_
    exact KQ.tf () trivial ⟨rfl,rfl,by rw[h];rfl,trivial⟩ (fun _ h=>h.all QE)
  rintro _ _
  refine qq ?_
  refine K.draw [.pure,.pure,.read,.dm,.pure,.read,.dm,.pure,.dm,.dm,.pure,.pure] [0,1,2,4,5,7,3,6,8,9,10,11] bH bH ?_
  refine Z1 ?_
  refine Qd ?_
  refine tL ?_
  refine Z83 ?_
  refine tL ?_
  refine Z1 ?_
  refine KO.ce (cp:=[]) rfl rfl rfl call59 rfl (kK w _ f.fa hT i1) ?_;rintro v' L' ⟨rfl,rfl⟩
  refine KO.ce (cp:=[]) rfl rfl rfl call59 rfl (kK w _ f.num hT i2) ?_;rintro v' L' ⟨rfl,rfl⟩
  refine KO.bsF (z:=(Value.string ⟨#[]⟩)) (dP:=16) rfl [.tmp 52,.tmp 55,.tmp 58,.tmp 59] rfl rfl underlying115 bH aQ aQ ai ai aQ rfl ?_;intro b60
  refine KO.conv (fun w' hw'=>NM (b:=b60) (vs:=[.string (ni f.vN),.string (b_ f.fa),.string (b_ f.num),.string (cF xs)]) (xs:=[ni f.vN,b_ f.fa,b_ f.num,cF xs]) (k:=4) (hw'.pick bZ) rfl rfl ae) ?_;refine KO.ce (cp:=[]) rfl rfl rfl call62 rfl (wD w _ _ (.slice (some ⟨b60,0,none⟩) 4 4) [ni f.vN,b_ f.fa,b_ f.num,cF xs] colon .head aj ae) ?_;rintro v' L' ⟨rfl,rfl⟩
  refine rC ?_
  refine KQ.fp rfl rfl rfl (fun w' hs=>fin 0 (Nj f xs) w' _ e1.symm e2.symm hs)
end Go.Proofs.YtjhogocabcdjbabGreatDoor
namespace WB
open Go
def WR (H:Ho):Prop:= ∀q∈H.ways,∀e∈q.l,bT e.m=true
theorem WR.of{H H':Ho}(h:WR H)(e:H'.ways=H.ways):WR H':=fun q hq=>h q (by rw[<-e];exact hq)
theorem WR.at'{H:Ho}(h:WR H)(j:Nat):∀e∈(H.dy j).l,bT e.m=true:=fun e he=>by
 unfold Ho.dy at he
 rw[aq]at he
 cases hj:H.ways[j]? with
 |none=>rw[hj]at he;cases he
 |some q=>rw[hj]at he;exact h q (ax hj) e he
theorem WR.gK{H:Ho}(h:WR H){j:Nat}{q:Qu}(hq:∀e∈q.l,bT e.m=true):WR (H.gK j q):=fun q' h'=>by
 unfold Ho.gK at h'
 rcases a_ h' with h1|rfl
 ·exact h q' h1
 ·exact hq
theorem B5{q:Qu}{m:Ms}{u:Int}{e:It}(h:e∈(db q m u).l):e=er q m u\/e∈q.l:=by
 unfold db at h
 rcases aN.1 h with h|h
 ·exact .inr (List.mem_of_mem_take h)
 ·rcases aF.1 h with h|h
  ·exact .inl h
  ·exact .inr (List.mem_of_mem_drop h)
theorem LC{q:Qu}{id:Int}{e:It}(h:e∈(eA q id).l):e∈q.l:=by
 unfold eA at h
 split at h
 ·exact h
 ·exact(List.eraseIdx_sublist _ _).subset h
theorem pL{e:It}:∀(l:List Int) (q:Qu),e∈(cN q l).l->e∈q.l
 |[],_,h=>h
 |i::l,q,h=>LC (pL l (eA q i) h)
theorem OV{H H1:Ho}{m:Ms}(h:WR H)(hm:bT m=true)(h1:fM H m=some H1):WR H1:=by
 unfold fM at h1
 dsimp only at h1
 split at h1
 ·simp only[az]at h1
  subst h1
  refine WR.gK (H:={H with next:=max H.next (m.id/4+1)}) h fun e he=>?_
  rcases B5 he with rfl|he
  ·exact hm
  ·exact h.at' _ e he
 ·split at h1
  ·cases h1
  ·simp only[az]at h1
   subst h1
   exact h
theorem F9:∀(l:List Ms) (H:Ho),WR H->(∀m∈l,bT m=true)->WR (ef H l).1
 |[],_,h,_=>h
 |m::r,H,h,hl=>by
  unfold ef
  cases h1:fM H m with
  |none=>exact h
  |some H1=>exact F9 r H1 (OV h (hl m aj) h1) fun x hx=>hl x yK
theorem Gr:∀(l:List ak) (H:Ho),WR H->WR (iz H l).1
 |[],_,h=>h
 |s::r,H,h=>by
  unfold iz
  cases h1:iA H s with
  |none=>exact h
  |some H1=>
   refine Gr r H1 ?_
   unfold iA at h1
   split at h1
   ·cases h1
   ·split at h1
    ·cases h1
    ·split at h1
     ·simp only[az]at h1;subst h1;exact h
     ·cases h1
theorem wO:∀(l:List (Ms×ak)) (H:Ho),WR H->WR (dO H l).1
 |[],_,h=>h
 |(m,t)::r,H,h=>by
  unfold dO
  cases H.qI t with
  |none=>exact h
  |some i=>exact wO r _ h
theorem Gu{H:Ho}(h:WR H)(s:ak):WR (eZ H s).1:=by
 unfold eZ
 split
 ·exact h
 ·split
  ·exact h
  ·rename_i l hl
   have h1:=F9 l H h (dG (oO hl).1)
   split
   ·exact h1
   ·split
    ·exact h1
    ·exact Gr _ _ h1
theorem O2{H:Ho}(h:WR H)(s:ak):WR (iy H s).1:=by
 unfold iy
 split
 ·split<;>exact h
 ·exact h
theorem Mn{H:Ho}(h:WR H)(s:ak):WR (ft H s).1:=by
 unfold ft
 split
 ·split
  ·exact(h.gK fun e he=>h.at' _ e (pL _ _ he)).of rfl
  ·exact h
 ·exact h
theorem Pe{H:Ho}(h:WR H)(s:ak):WR (iD H s).1:=by
 unfold iD
 split
 ·split
  ·split
   ·split
    ·exact(wO _ _ h).of rfl
    ·exact wO _ _ h
   ·exact h
  ·exact h
 ·exact h
theorem wH{H:Ho}(h:WR H)(s:ak):WR (ck H s).1:=by
 unfold ck
 split
 ·split
  ·exact h
  ·refine h.of ?_
   unfold jq
   split<;>rfl
 ·split
  ·exact h
  ·split
   ·exact Gu h _
   ·split
    ·exact O2 h _
    ·split
     ·exact Mn h _
     ·split
      ·exact Pe h _
      ·exact h
theorem Fx(D:Dk):∀(f:Nat) (H:Ho),WR H->WR (iV D f H)
 |0,_,h=>h
 |f+1,H,h=>by
  unfold iV
  split
  ·exact h
  ·split
   ·exact wH h _
   ·exact Fx D f _ ((wH h _).of rfl)
theorem Tw(id:Int):WR (bX id):=fun q hq=>by
 have :q=⟨[],0⟩:=List.eq_of_mem_replicate (n:=4) (by exact hq)
 subst this
 intro e he;cases he
theorem N9(id:Int)(D:Dk):WR (bK id D):=Fx D 300 _ (Tw id)
theorem Fh{H:Ho}(h:WR H)(j:Nat):∀m∈aW (H.dy j),bT m=true:=fun m hm=>by
 unfold aW at hm
 obtain⟨e,he,rfl⟩:=ay.1 hm
 exact h.at' j e (aC.1 he).1
theorem Ch(H:Ho)(D:Dk):(dc H D).ways=H.ways:=by
 unfold dc
 split
 ·rfl
 ·split<;>rfl
theorem VG{H:Ho}(h:WR H)(D:Dk)(s:ak):WR (lM H D s):=by
 unfold lM
 have h1:=h.of (Ch H D)
 split
 ·exact wH h1 s
 ·exact h1
theorem Dg(H:Ho)(i:Nat)(q:Qu):(H.fB i q).aI.length=H.aI.length:=by unfold Ho.fB;simp
theorem OU{H H1:Ho}{m:Ms}(h1:fM H m=some H1):H1.aI.length=H.aI.length:=by
 unfold fM at h1
 dsimp only at h1
 split at h1
 ·simp only[az]at h1
  subst h1;rfl
 ·split at h1
  ·cases h1
  ·simp only[az]at h1
   subst h1
   exact Dg _ _ _
theorem uW:∀(l:List Ms) (H:Ho),(ef H l).1.aI.length=H.aI.length
 |[],_=>rfl
 |m::r,H=>by
  unfold ef
  cases h1:fM H m with
  |none=>rfl
  |some H1=>exact(uW r H1).trans (OU h1)
theorem Gq:∀(l:List ak) (H:Ho),(iz H l).1.aI.length=H.aI.length
 |[],_=>rfl
 |s::r,H=>by
  unfold iz
  cases h1:iA H s with
  |none=>rfl
  |some H1=>
   refine(Gq r H1).trans ?_
   unfold iA at h1
   split at h1
   ·cases h1
   ·split at h1
    ·cases h1
    ·split at h1
     ·simp only[az]at h1;subst h1;exact Dg _ _ _
     ·cases h1
theorem wN:∀(l:List (Ms×ak)) (H:Ho),(dO H l).1.aI.length=H.aI.length
 |[],_=>rfl
 |(m,t)::r,H=>by
  unfold dO
  cases H.qI t with
  |none=>rfl
  |some i=>exact(wN r _).trans (Dg _ _ _)
theorem Gs(H:Ho)(s:ak):(eZ H s).1.aI.length=H.aI.length:=by
 unfold eZ
 split
 ·rfl
 ·split
  ·rfl
  ·rename_i l hl
   split
   ·exact uW l H
   ·split
    ·exact uW l H
    ·exact(Gq _ _).trans (uW l H)
theorem O1(H:Ho)(s:ak):(iy H s).1.aI.length=H.aI.length:=by
 unfold iy
 split
 ·split<;>rfl
 ·rfl
theorem Mm(H:Ho)(s:ak):(ft H s).1.aI.length=H.aI.length:=by
 unfold ft
 split
 ·split<;>rfl
 ·rfl
theorem Pd(H:Ho)(s:ak):(iD H s).1.aI.length=H.aI.length:=by
 unfold iD
 split
 ·split
  ·split
   ·split
    ·exact wN _ _
    ·exact wN _ _
   ·rfl
  ·rfl
 ·rfl
theorem Cp(H:Ho)(s:ak):(ck H s).1.aI.length<=H.aI.length+1:=by
 unfold ck
 split
 ·split
  ·exact Nat.le_succ _
  ·dsimp only
   unfold jq
   split
   ·dsimp only
    split
    ·simp
    ·exact Nat.le_succ _
   ·exact Nat.le_succ _
 ·split
  ·exact Nat.le_succ _
  ·split
   ·exact Nat.le_succ_of_le (Nat.le_of_eq (Gs _ _))
   ·split
    ·exact Nat.le_succ_of_le (Nat.le_of_eq (O1 _ _))
    ·split
     ·exact Nat.le_succ_of_le (Nat.le_of_eq (Mm _ _))
     ·split
      ·exact Nat.le_succ_of_le (Nat.le_of_eq (Pd _ _))
      ·exact Nat.le_succ _
theorem Fw(D:Dk):∀(f:Nat) (H:Ho),H.aI.length<=1+H.used->(iV D f H).aI.length<=2+(iV D f H).used
 |0,H,h=>by show H.aI.length<=2+H.used;omega
 |f+1,H,h=>by
  unfold iV
  split
  ·omega
  ·rename_i s hs
   have h1:=Cp H s
   have h2:=(dV H s).used
   split
   ·rw[h2];omega
   ·refine Fw D f _ ?_
    dsimp only
    omega
theorem N8(id:Int)(D:Dk):(bK id D).aI.length<=2+(bK id D).used:=Fw D 300 _ (aD 1)
theorem SA(H:Ho)(D:Dk):(dc H D).aI=H.aI/\H.used<=(dc H D).used:=by
 unfold dc
 split
 ·exact⟨rfl,aD _⟩
 ·split
  ·exact⟨rfl,aD _⟩
  ·exact⟨rfl,Nat.le_succ _⟩
theorem VF{H:Ho}(h:H.aI.length<=2+H.used)(D:Dk)(s:ak):(lM H D s).aI.length<=2+(lM H D s).used:=by
 obtain⟨a,b⟩:=SA H D
 unfold lM
 split
 ·rename_i h0
  have h1:=Cp (dc H D) s
  have h2:=(dV (dc H D) s).used
  have h3:(dc H D).used=H.used+1:=by
   have h4:fU H=0/\lX D=0:=by
    unfold c7 at h0
    by_cases h5:fU H=0
    ·rw[if_neg (by simpa using h5)]at h0;exact⟨h5,h0⟩
    ·rw[if_pos h5]at h0;exact absurd h0 h5
   unfold dc
   rw[if_neg (by simpa using h4.1),if_neg (by simpa using h4.2)]
  rw[a]at h1
  omega
 ·rw[a];omega
def TD (s:ak):Option (Fr×List Ms):=
 match dE 58 s with
 |[a,b,c,d]=>match eW b,eW c,td d with
  |some x,some y,some xs=>if okF ⟨x,y,decide (a=⟨#[97]⟩)⟩ xs/\Nj ⟨x,y,decide (a=⟨#[97]⟩)⟩ xs=s then some (⟨x,y,decide (a=⟨#[97]⟩)⟩,xs)else none
  |_,_,_=>none
 |_=>none
theorem nj{n:Int}:∀b∈(b_ n).data.toList,b≠58:=fun b hb=>by
 have :=Ac b hb
 rintro rfl;revert this;decide
theorem Cj{s:ak}(h:iI s=true):∀b∈s.data.toList,b≠58:=fun b hb=>by
 unfold iI at h
 have :=aJ.1 h b hb
 rintro rfl;revert this;decide
theorem LW{m:Ms}(h:bT m=true):∀b∈(qy m).data.toList,b≠58:=fun b hb=>by
 obtain⟨h1,h2,h3,h4,h5,h6,h7,h8⟩:=bV h
 rw[rS]at hb
 rcases jC hb with hb|⟨x,hx,hb⟩
 ·have :b=32:=by simpa[sp]using hb
  subst this;decide
 ·simp only[aF,List.not_mem_nil,or_false]at hx
  rcases hx with rfl|rfl|rfl|rfl|rfl
  ·exact nj b hb
  ·exact nj b hb
  ·exact Cj (vp h5) b hb
  ·exact Cj (ib h6) b hb
  ·exact nj b hb
theorem EM{xs:List Ms}(h:ju xs=none):∀b∈(cF xs).data.toList,b≠58:=fun b hb=>by
 unfold cF at hb
 rcases jC hb with hb|⟨x,hx,hb⟩
 ·have :b=43:=by simpa[plus]using hb
  subst this;decide
 ·obtain⟨m,hm,rfl⟩:=ay.1 hx
  exact LW (dG h m hm) b hb
theorem TE{f:Fr}{xs:List Ms}(h:okF f xs):dE 58 (Nj f xs)=[ni f.vN,b_ f.fa,b_ f.num,cF xs]:=by
 unfold okF at h
 unfold Nj
 refine zO (c:=58) aj fun x hx b hb=>?_
 simp only[aF,List.not_mem_nil,or_false]at hx
 rcases hx with rfl|rfl|rfl|rfl
 ·unfold ni at hb
  split at hb
  ·have :b=97:=by simpa using hb
   subst this;decide
  ·have :b=98:=by simpa using hb
   subst this;decide
 ·exact nj b hb
 ·exact nj b hb
 ·exact EM h.2.2.2.2.2.2 b hb
theorem OA(a:Bool):decide (ni a=⟨#[97]⟩)=a:=by cases a<;>decide
theorem CF{f:Fr}{xs:List Ms}(h:okF f xs):TD (Nj f xs)=some (f,xs):=by
 have hp:=TE h
 have h2:=h
 unfold okF at h2
 obtain⟨h3,h4,h5,h6,h7,h8,h9⟩:=h2
 unfold TD
 rw[hp]
 have e1:=iQ (n:=f.fa) ⟨by omega,by omega⟩
 have e2:=iQ (n:=f.num) ⟨by omega,by omega⟩
 have e3:=rT h9
 simp only[e1,e2,e3,OA]
 rw[if_pos ⟨h,trivial⟩]
theorem Pt{f:Fr}{xs:List Ms}(h:okF f xs):(Nj f xs).size<=2000:=by
 have h2:=h
 unfold okF at h2
 obtain⟨h3,h4,h5,h6,h7,h8,h9⟩:=h2
 have a1:=cH (n:=f.fa) ⟨by omega,by omega⟩
 have a2:=cH (n:=f.num) ⟨by omega,by omega⟩
 have a3:=lg (dG h9)
 have a4:(ni f.vN).size<=1:=by unfold ni;split<;>decide
 have :=gD colon 400 [ni f.vN,b_ f.fa,b_ f.num,cF xs] Y12
 have h2:colon.size=1:=rfl
 unfold Nj
 simp at this;omega
structure Gm where
 dto:Int
 f:Fr
 l:List Ms
def gmT (g:Gm):ak:=Nj g.f g.l
instance:Inhabited Gm:=⟨⟨0,⟨0,0,false⟩,[]⟩⟩
instance:Inhabited (Ho×Dk):=⟨(bX 0,bN)⟩
structure Wo where
 hs:List (Ho×Dk)
 cR:List Gm
 lost:Int
namespace Wo
def n (W:Wo):Nat:=W.hs.length
def is (W:Wo) (k:Int):Bool:=decide (0<=k/\k<(W.hs.length:Int))
def at' (W:Wo) (k:Nat):Ho×Dk:=W.hs.getD k default
def H (W:Wo) (k:Nat):Ho:=(W.at' k).1
def D (W:Wo) (k:Nat):Dk:=(W.at' k).2
def bU (W:Wo) (k:Nat) (x:Ho×Dk):Wo:={W with hs:=W.hs.set k x}
end Wo
def zk (n:Nat):Wo:=⟨(List.range n).map fun k:Nat=>(bX (k:Int),bN),[],0⟩
def BR (W:Wo) (k:Int):Int:=if W.is k=true then 0 else 2
def Bm (W:Wo) (k n t:Int):Wo:=if W.is k=true then W.bU k.toNat ({W.H k.toNat with dz:=t},cu (W.D k.toNat) n)else W
def sg (W:Wo) (k:Nat):Wo:=W.bU k (bK (k:Int) (cu (W.D k) (-1)),cu (W.D k) (-1))
def Le (W:Wo) (k:Int):Wo:=if W.is k=true then sg W k.toNat else W
def px (W:Wo) (g:Gm):Wo:=if 100<=W.cR.length then {W with lost:=W.lost+1}else {W with cR:=W.cR++[g]}
def fm (W:Wo) (dst:Int) (f:Fr) (l:List Ms):Wo:=if okF f l then px W ⟨dst,f,l⟩else W
def Dj (W:Wo) (k dst:Int):Int:=if W.is k=true/\W.is dst=true then tX (W.H k.toNat) (W.D k.toNat) dst else 2
def l8 (W:Wo) (k dst:Int):Wo:=W.bU k.toNat (gR (W.H k.toNat) (W.D k.toNat) dst,lF (W.H k.toNat) (W.D k.toNat) dst)
def yf (W:Wo) (k dst:Int):Wo:=if W.is k=true/\W.is dst=true then
 (if Dj W k dst=0 then fm (l8 W k dst) dst ⟨k,Jl (W.H k.toNat) (W.D k.toNat) dst,false⟩ (y8 (W.H k.toNat) (W.D k.toNat) dst)else l8 W k dst)
 else W
def Hu (W:Wo) (i:Int):Int:=if 0<=i/\i<(W.cR.length:Int)then 0 else 2
def Ao (W:Wo) (i:Nat):Gm:=W.cR.getD i default
def qw (W:Wo) (i:Nat):Wo:={W with cR:=W.cR.eraseIdx i}
def vL (W:Wo) (g:Gm):Wo:=
 if g.f.vN=true then W.bU g.dto.toNat (r9 (W.H g.dto.toNat) (W.D g.dto.toNat) g.f.fa g.f.num,AT (W.H g.dto.toNat) (W.D g.dto.toNat) g.f.fa g.f.num)
 else if D7 (W.H g.dto.toNat) (W.D g.dto.toNat) g.f.fa g.f.num g.l=0 then
  fm (W.bU g.dto.toNat (lb (W.H g.dto.toNat) (W.D g.dto.toNat) g.f.fa g.f.num g.l,oe (W.H g.dto.toNat) (W.D g.dto.toNat) g.f.fa g.f.num g.l)) g.f.fa ⟨g.dto,rz (W.H g.dto.toNat) (W.D g.dto.toNat) g.f.fa g.f.num g.l,true⟩ []
 else W.bU g.dto.toNat (lb (W.H g.dto.toNat) (W.D g.dto.toNat) g.f.fa g.f.num g.l,oe (W.H g.dto.toNat) (W.D g.dto.toNat) g.f.fa g.f.num g.l)
def tW (W:Wo) (i:Int):Wo:=if Hu W i=0 then vL (qw W i.toNat) (Ao W i.toNat)else W
def Ow (W:Wo) (i:Int):Wo:=if Hu W i=0 then qw W i.toNat else W
def Nz (W:Wo) (i:Int):Wo:=if Hu W i=0 then px W (Ao W i.toNat)else W
structure lf (c K:Nat) (k:Nat) (x:Ho×Dk):Prop where
 id:x.1.id=(k:Int)
 B:cK (300+c+250*x.1.used) x.1
 len:x.2.places.length=300
 left: -(K:Int)<=x.2.left/\x.2.left<=1000000000
 size:∀t∈x.2.places,t.size<=800000
 oj:∀(i:Nat) t s,x.2.places[i]? =some t->gX (i:Nat) t=some s->fO 250 s
 aB:∀u∈x.1.aB,iL u/\u.aM.length<=c
 ways:WR x.1
 ql:x.1.aI.length<=2+x.1.used
structure ZP (n:Nat) (g:Gm):Prop where
 dto:0<=g.dto/\g.dto<(n:Int)
 fa:0<=g.f.fa/\g.f.fa<(n:Int)
 ok:okF g.f g.l
structure c6 (c K:Nat) (W:Wo):Prop where
 n1:1<=W.hs.length/\W.hs.length<=4
 hs:∀k x,W.hs[k]? =some x->lf c K k x
 cR:∀g∈W.cR,ZP W.hs.length g
 wl:W.cR.length<=100
 lost:0<=W.lost/\W.lost<=(K:Int)
theorem lf.ok{c kb k:Nat}{x:Ho×Dk}(h:lf c kb k x)(hK:kb<=1000000000000):M4 x.2:=⟨h.len,by have :=h.left;omega,h.size,h.oj⟩
theorem lf.cut{c kb k:Nat}{x:Ho×Dk}(h:lf c kb k x){n:Int}(hn:n<=1000000000):lf c kb k (x.1,cu x.2 n):=⟨h.id,h.B,h.len,by unfold cu;dsimp only;omega,h.size,h.oj,h.aB,h.ways,h.ql⟩
theorem lf.dz{c kb k:Nat}{x:Ho×Dk}(h:lf c kb k x)(n:Int):lf c kb k ({x.1 with dz:=n},x.2):=⟨h.id,h.B.ZU n,h.len,h.left,h.size,h.oj,h.aB,h.ways.of rfl,h.ql⟩
theorem lf.mono{c c' kb Ez k:Nat}{x:Ho×Dk}(h:lf c kb k x)(h1:c<=c')(h2:kb<=Ez):lf c' Ez k x:=⟨h.id,h.B.le ae,h.len,by have :=h.left;omega,h.size,h.oj,fun u hu=>⟨(h.aB u hu).1,Nat.le_trans (h.aB u hu).2 h1⟩,h.ways,h.ql⟩
theorem kH(H:Ho)(D:Dk):(dc H D).id=H.id/\(dc H D).aB=H.aB/\(dc H D).names=H.names/\(dc H D).aI=H.aI/\(dc H D).ways=H.ways/\(dc H D).batch=H.batch/\(dc H D).bW=H.bW/\(dc H D).aK=H.aK/\(dc H D).next=H.next/\(dc H D).dz=H.dz:=by
 unfold dc
 split
 ·exact⟨rfl,rfl,rfl,rfl,rfl,rfl,rfl,rfl,rfl,rfl⟩
 ·split<;>exact⟨rfl,rfl,rfl,rfl,rfl,rfl,rfl,rfl,rfl,rfl⟩
theorem ua(H:Ho)(D:Dk)(s:ak):(lM H D s).id=H.id/\(lM H D s).aB=H.aB:=by
 unfold lM
 obtain⟨a,b,-⟩:=kH H D
 split
 ·have h:=dV (dc H D) s
  exact⟨h.id.trans a,h.aB.trans b⟩
 ·exact⟨a,b⟩
theorem Ov{H:Ho}{D:Dk}(h:c7 H D=0):fU H=0/\lX D=0:=by
 unfold c7 at h
 by_cases h1:fU H=0
 ·rw[if_neg Nn]at h;exact⟨h1,h⟩
 ·rw[if_pos h1]at h;exact absurd h h1
theorem SB{D:Dk}{H:Ho}{s:ak}(hl:D.places.length=300)(dK:∀t∈D.places,t.size<=800000)(hr:∀(i:Nat) t s,D.places[i]? =some t->gX (i:Nat) t=some s->fO 250 s)(hs:fO 250 s)(hb:qx 124 s)(hu:H.used<=300):
 (gU H D s).places.length=300/\(∀t∈(gU H D s).places,t.size<=800000)/\(∀(i:Nat) t r,(gU H D s).places[i]? =some t->gX (i:Nat) t=some r->fO 250 r)/\D.left-1<=(gU H D s).left/\(gU H D s).left<=D.left:=by
 have hss:=hs.size
 have hsl:=uy (k:=(H.used:Nat)) ⟨by omega,by omega⟩ (show s.size<=700000 by omega)
 have h0:=sS (H.used:Nat) s
 unfold gU
 split
 ·exact⟨hl,dK,hr,by omega,Int.le_refl _⟩
 ·refine⟨?_,?_,?_,by rw[ke];split<;>omega,by rw[ke];split<;>omega⟩
  ·unfold ew
   split
   ·split
    ·simpa using hl
    ·exact hl
   ·simpa using hl
  ·intro t ht
   unfold ew at ht
   split at ht
   ·split at ht
    ·rcases a_ ht with h1|rfl
     ·exact dK t h1
     ·have :=x7 (eb (H.used:Nat) s) H.dz;omega
    ·exact dK t ht
   ·rcases a_ ht with h1|rfl
    ·exact dK t h1
    ·omega
  ·intro i t s' ht ho
   have key:∀v,(D.places.set H.used v)[i]? =some t->(v=t/\i=H.used)\/D.places[i]? =some t:=fun v hv=>by
    rw[List.getElem?_set]at hv
    split at hv
    ·rename_i e
     split at hv
     ·simp only[az]at hv;exact .inl ⟨hv,e.symm⟩
     ·cases hv
    ·exact .inr hv
   unfold ew at ht
   split at ht
   ·split at ht
    ·rcases key _ ht with⟨rfl,rfl⟩|h1
     ·unfold AI at ho
      rw[zR hb ae]at ho;cases ho
     ·exact hr i t s' h1 ho
    ·exact hr i t s' ht ho
   ·rcases key _ ht with⟨rfl,rfl⟩|h1
    ·rw[s9 hb]at ho
     simp only[az]at ho
     rw[<-ho];exact hs
    ·exact hr i t s' h1 ho
theorem lf.write{c kb k:Nat}{x:Ho×Dk}(h:lf c kb k x){s:ak}(hs:fO 250 s)(hb:qx 124 s):lf c (kb+1) k (lM x.1 x.2 s,gU x.1 x.2 s):=by
 obtain⟨a1,a2⟩:=ua x.1 x.2 s
 obtain⟨d1,d2,d3,d4,d5⟩:=SB (H:=x.1) h.len h.size h.oj hs hb h.B.used
 refine⟨a1.trans h.id,?_,d1,by have :=h.left;dsimp only;omega,d2,d3,fun u hu=>h.aB u (by rw[<-a2];exact hu),VG h.ways _ _,VF h.ql _ _⟩
 dsimp only
 unfold lM
 split
 ·rename_i h0
  obtain⟨h1,h2⟩:=Ov h0
  have eL:dc x.1 x.2={x.1 with used:=x.1.used+1}:=by unfold dc;rw[if_neg Nn,if_neg Rq]
  have h3:=(h.B.log (D:=x.2)).Fo hs ae
  have h4:=(dV (dc x.1 x.2) s).used
  refine h3.le ?_
  rw[h4,eL]
  dsimp only
  omega
 ·rename_i h0
  have h3:(dc x.1 x.2).used=x.1.used:=by
   unfold dc
   split
   ·rfl
   ·rename_i h1
    split
    ·rfl
    ·rename_i h2
     exact absurd (by unfold c7;rw[if_neg h1];simpa using h2) h0
  rw[h3]
  exact h.B.log
theorem lf.cx{c kb k:Nat}{x:Ho×Dk}(h:lf c kb k x)(hk:k<4)(hK:kb<=1000000000000):lf c kb k (bK (k:Int) x.2,x.2):=by
 have hD:=h.ok hK
 have h2:=s_ x.2 300 (bX (k:Int))
 refine⟨h2.1,(N_ (id:=(k:Int)) ⟨by omega,by omega⟩ hD).le iK,h.len,h.left,h.size,h.oj,fun u hu=>?_,N9 _ _,N8 _ _⟩
 have h3:u∈(bX (k:Int)).aB:=by rw[<-h2.2.2.2];exact hu
 have :u=⟨[],[]⟩:=List.eq_of_mem_replicate h3
 subst this
 exact⟨⟨(fun p hp=>by cases hp),(fun p hp=>by cases hp),by decide⟩,aV _⟩
theorem K1(k:Int):qx 124 (qW k):=d_ (d_ (eM ai) (eM ai)) (fX _ ai)
theorem D6(k:Int)(l:List Int):qx 124 (iU k l):=d_ (d_ (eM ai) (eM ai)) (wE (fun b hb=>by simp[sp]at hb;subst hb;decide) fun x hx=>by
 obtain⟨n,-,rfl⟩:=ay.1 hx
 exact fX _ ai)
theorem K0(k:Int){l:List Ms}{t:List ak}(h:∀m∈l,bT m=true)(ht:∀x∈t,dw x=true):qx 124 (sV k l t):=
 d_ (d_ (eM ai) (eM ai)) (d_ (d_ (fX _ ai) (eM ai)) (d_ (d_ (rR ai ai ai h) (eM ai)) (wE (fun b hb=>by simp[plus]at hb;subst hb;decide) fun x hx=>zf ai (ht x hx))))
theorem lf.bt{c kb k:Nat}{x:Ho×Dk}(h:lf c kb k x)(dst:Int):lf c (kb+1) k (gR x.1 x.2 dst,lF x.1 x.2 dst):=by
 unfold gR lF
 split
 ·rename_i sj
  have sH:cj x.1 dst=true:=by
   unfold dQ kR at sj
   cases hk:cj x.1 dst with
   |true=>rfl
   |false=>rw[hk]at sj;simp at sj
  obtain⟨wJ,lV,-⟩:=bM.1 sH
  refine h.write ((lp ⟨wJ,lV⟩ (by unfold cP;simp;omega) fun y hy=>?_).mono ae) (D6 _ _)
  obtain⟨m,hm,rfl⟩:=ay.1 hy
  have hm:=List.mem_of_mem_take hm
  unfold dF at hm
  obtain⟨e,he,rfl⟩:=ay.1 hm
  have :=(h.B.w (j:=dst.toNat) ae).ids e (aC.1 he).1
  exact⟨by omega,by omega⟩
 ·exact h.mono (aD _) ae
theorem lf.ca{c kb k:Nat}{x:Ho×Dk}(h:lf c kb k x)(dst m:Int):lf c (kb+1) k (r9 x.1 x.2 dst m,AT x.1 x.2 dst m):=by
 unfold r9 AT
 by_cases h0:iT x.1 dst m≠0
 ·rw[if_pos h0,if_pos h0];exact h.mono (aD _) ae
 ·rw[if_neg h0,if_neg h0]
  have sH:cj x.1 dst=true:=by
   unfold iT at h0
   cases hk:cj x.1 dst with
   |true=>rfl
   |false=>rw[hk]at h0;simp at h0
  obtain⟨wJ,lV,-⟩:=bM.1 sH
  exact h.write ((uB ⟨wJ,lV⟩).mono ae) (K1 _)
theorem lf.ar{c kb k:Nat}{x:Ho×Dk}(h:lf c kb k x)(KA m:Int){l:List Ms}(hl:l.length<=250):lf c (kb+1) k (lb x.1 x.2 KA m l,oe x.1 x.2 KA m l):=by
 unfold lb oe
 split
 ·rename_i hw
  unfold xg at hw
  simp only[decide_eq_true_eq]at hw
  have h0:=hw.1
  have sH:cj x.1 KA=true:=by
   unfold ry at h0
   cases hk:cj x.1 KA with
   |true=>rfl
   |false=>rw[hk]at h0;simp at h0
  obtain⟨wJ,lV,-⟩:=bM.1 sH
  have fG:ju l=none:=by
   unfold ry at h0
   rw[if_neg (by rw[sH];simp)]at h0
   split at h0
   ·cases h0
   ·rw[if_neg ae]at h0
    split at h0
    ·cases h0
    ·split at h0
     ·cases h0
     ·rename_i h5
      cases hb:ju l with
      |none=>rfl
      |some i=>exact absurd (.inl (by rw[hb];simp)) h5
  have i_:=dG fG
  exact h.write (uA ⟨wJ,lV⟩ fG hl (kS i_ []) (kT x.1 l [])).1 (K0 _ i_ (kS i_ []))
 ·exact h.mono (aD _) ae
theorem c6.mono{c c' kb Ez:Nat}{W:Wo}(h:c6 c kb W)(h1:c<=c')(h2:kb<=Ez):c6 c' Ez W:=⟨h.n1,fun k x hx=>(h.hs k x hx).mono h1 h2,h.cR,h.wl,by have :=h.lost;omega⟩
theorem c6.set{c kb:Nat}{W:Wo}(h:c6 c kb W){k:Nat}{x:Ho×Dk}(hx:lf c kb k x):c6 c kb (W.bU k x):=by
 refine⟨by simpa[Wo.bU]using h.n1,fun j y hy=>?_,fun g hg=>by have :=h.cR g hg;unfold Wo.bU;dsimp only;rw[List.length_set];exact this,h.wl,h.lost⟩
 unfold Wo.bU at hy
 dsimp only at hy
 rw[List.getElem?_set]at hy
 split at hy
 ·rename_i e;subst e
  split at hy
  ·simp only[az]at hy;subst hy;exact hx
  ·cases hy
 ·exact h.hs j y hy
theorem c6.put{c kb:Nat}{W:Wo}(h:c6 c kb W){g:Gm}(hg:ZP W.hs.length g):c6 c (kb+1) (px W g):=by
 have h2:=h.mono (aD c) (Nat.le_succ kb)
 unfold px
 split
 ·exact⟨h2.n1,h2.hs,h2.cR,h2.wl,by have :=h.lost;dsimp only;omega⟩
 ·refine⟨h2.n1,h2.hs,fun x hx=>?_,by simp;omega,h2.lost⟩
  rcases aN.1 hx with hx|hx
  ·exact h.cR x hx
  ·simp at hx;subst hx;exact hg
theorem c6.send{c kb:Nat}{W:Wo}(h:c6 c kb W){dst:Int}{f:Fr}{l:List Ms}(h1:0<=dst/\dst<(W.hs.length:Int))(h2:0<=f.fa/\f.fa<(W.hs.length:Int)):c6 c (kb+1) (fm W dst f l):=by
 unfold fm
 split
 ·rename_i kZ
  exact h.put ⟨h1,h2,kZ⟩
 ·exact h.mono (aD _) ae
theorem fS{W:Wo}{j:Nat}(h:j<W.hs.length):∃x,W.hs[j]? =some x/\W.H j=x.1/\W.D j=x.2:=by
 refine⟨W.hs[j],ao h,?_⟩
 unfold Wo.H Wo.D Wo.at'
 rw[aq,ao h]
 exact⟨rfl,rfl⟩
theorem pw{W:Wo}{k:Int}(h:W.is k=true):0<=k/\k<(W.hs.length:Int):=by
 unfold Wo.is at h
 simpa using h
theorem c6.XI{c kb:Nat}{W:Wo}(h:c6 c kb W)(k t:Int){n:Int}(hn:n<=1000000000):c6 c kb (Bm W k n t):=by
 unfold Bm
 split
 ·rename_i hk
  have hk:=pw hk
  obtain⟨x,hx,e1,e2⟩:=fS (W:=W) (j:=k.toNat) ae
  rw[e1,e2]
  exact h.set (((h.hs _ x hx).cut hn).dz t)
 ·exact h
theorem c6.re{c kb:Nat}{W:Wo}(h:c6 c kb W)(hK:kb<=1000000000000)(k:Int):c6 c kb (Le W k):=by
 unfold Le
 split
 ·rename_i hk
  have hk:=pw hk
  have hn:=h.n1
  obtain⟨x,hx,e1,e2⟩:=fS (W:=W) (j:=k.toNat) ae
  unfold sg
  rw[e2]
  exact h.set (((h.hs _ x hx).cut (n:= -1) ae).cx ae hK)
 ·exact h
theorem c6.se{c kb:Nat}{W:Wo}(h:c6 c kb W)(k dst:Int):c6 c (kb+2) (yf W k dst):=by
 unfold yf
 split
 ·rename_i hk
  have h1:=pw hk.1
  have h2:=pw hk.2
  obtain⟨x,hx,e1,e2⟩:=fS (W:=W) (j:=k.toNat) ae
  have uV:c6 c (kb+1) (l8 W k dst):=by
   unfold l8
   rw[e1,e2]
   exact(h.mono (aD _) (Nat.le_succ kb)).set ((h.hs _ x hx).bt dst)
  have hl:(l8 W k dst).hs.length=W.hs.length:=by unfold l8 Wo.bU;simp
  split
  ·exact uV.send (by rw[hl];exact h2) (by rw[hl];exact h1)
  ·exact uV.mono (aD _) ae
 ·exact h.mono (aD _) ae
theorem zj{W:Wo}{i:Int}(h:Hu W i=0):0<=i/\i<(W.cR.length:Int):=by
 unfold Hu at h
 split at h
 ·assumption
 ·cases h
theorem k_{W:Wo}{i:Nat}(h:i<W.cR.length):W.cR[i]? =some (Ao W i):=by
 unfold Ao
 rw[aq,ao h];rfl
theorem c6.out{c kb:Nat}{W:Wo}(h:c6 c kb W)(i:Nat):c6 c kb (qw W i):=⟨h.n1,h.hs,fun g hg=>h.cR g ((List.eraseIdx_sublist _ _).subset hg),Nat.le_trans (List.eraseIdx_sublist _ _).length_le h.wl,h.lost⟩
theorem c6.cm{c kb:Nat}{W:Wo}(h:c6 c kb W){g:Gm}(hg:ZP W.hs.length g):c6 c (kb+2) (vL W g):=by
 obtain⟨t1,t2⟩:=hg.dto
 obtain⟨x,hx,e1,e2⟩:=fS (W:=W) (j:=g.dto.toNat) ae
 have h1:=h.mono (aD c) (Nat.le_succ kb)
 unfold vL
 rw[e1,e2]
 split
 ·exact(h1.set ((h.hs _ x hx).ca _ _)).mono (aD _) ae
 ·have hl:g.l.length<=250:=by have :=hg.ok;unfold okF at this;omega
  have h2:=h1.set ((h.hs _ x hx).ar g.f.fa g.f.num hl)
  split
  ·refine h2.send ?_ ?_
   ·unfold Wo.bU;dsimp only;rw[List.length_set];exact hg.fa
   ·unfold Wo.bU;dsimp only;rw[List.length_set];exact hg.dto
  ·exact h2.mono (aD _) ae
theorem c6.de{c kb:Nat}{W:Wo}(h:c6 c kb W)(i:Int):c6 c (kb+2) (tW W i):=by
 unfold tW
 split
 ·rename_i h0
  obtain⟨h1,h2⟩:=zj h0
  exact(h.out i.toNat).cm (h.cR _ (ax (k_ (W:=W) (i:=i.toNat) ae)))
 ·exact h.mono (aD _) ae
theorem c6.lo{c kb:Nat}{W:Wo}(h:c6 c kb W)(i:Int):c6 c kb (Ow W i):=by
 unfold Ow
 split
 ·exact h.out _
 ·exact h
theorem c6.tw{c kb:Nat}{W:Wo}(h:c6 c kb W)(i:Int):c6 c (kb+1) (Nz W i):=by
 unfold Nz
 split
 ·rename_i h0
  obtain⟨h1,h2⟩:=zj h0
  exact h.put (h.cR _ (ax (k_ (W:=W) (i:=i.toNat) ae)))
 ·exact h.mono (aD _) ae
end WB
namespace Go.Proofs.YtjhogocabcdjbabGreatDoor
open Tryz
open Go Go.RowKit WB
def qM (p:Nat):List Value:=[bA p]
def Xv (g:Gm):List Value:=[.int .i64 g.dto,.string (gmT g)]
def vJ (p:Nat×Nat) (x:Ho×Dk):HP:=sep (dL p.1 p.2 x.1) (fR p.2 x.2)
structure QF where
 hv:Value
 dv:Value
 wv:Value
 ps:List (Nat×Nat)
def Ry (V:QF) (W:Wo):List Value:=[V.hv,V.dv,V.wv,.int .i64 W.lost]
abbrev Kh (v:Value) (l:List Nat):HP:=SL 29 1 qM v l
abbrev Rn (v:Value) (l:List Nat):HP:=SL 25 1 qM v l
abbrev Ja (v:Value) (l:List Gm):HP:=SL 258 2 Xv v l
abbrev oi (bw:Nat) (V:QF) (W:Wo) (L:List HP):List HP:=
 bP bw (.cells (Ry V W).toArray 164 (0,0))::Kh V.hv (V.ps.map (·.1))::Rn V.dv (V.ps.map (·.2))::Ja V.wv W.cR::cr vJ V.ps W.hs::L
abbrev Bf:=Value×Value×Option (List (Nat×Nat))
def Hr (hd:Bf) (dv:Value) (ps:List (Nat×Nat)):Prop:=dv=hd.2.1/\∀l,hd.2.2=some l->ps=l
theorem Hr.none{hd:Bf}{dv:Value}{ps qs:List (Nat×Nat)}(h:Hr hd dv ps)(hN:hd.2.2=none):Hr hd dv qs:=⟨h.1,fun l hl=>by rw[hN]at hl;cases hl⟩
def jJ (bw:Nat) (hd:Bf) (W:Wo):HP:=ex fun V:QF=>sep (LH (V.ps.length=W.hs.length/\V.hv=hd.1/\Hr hd V.dv V.ps)) (ij (oi bw V W []))
theorem dM{w0 w:World}{bw:Nat}{hd:Bf}{W:Wo}{L:List HP}(h:St w0 (jJ bw hd W::L) w):∃V:{V:QF//V.ps.length=W.hs.length/\V.hv=hd.1/\Hr hd V.dv V.ps},St w0 (oi bw V.1 W L) w:=by
 obtain⟨V,h⟩:=h.CN
 obtain⟨hV,h⟩:=h.split.sZ
 exact⟨⟨V,hV⟩,by have :=h.splits;exact this⟩
theorem dH{w0 w:World}{bw:Nat}{hd:Bf}{W:Wo}{L:List HP}(V:QF)(hV:V.ps.length=W.hs.length)(h:St w0 (oi bw V W L) w)(e8:V.hv=hd.1:=by assumption)(e9:Hr hd V.dv V.ps:=by assumption):St w0 (jJ bw hd W::L) w:=
 St.Bv (F:=fun V:QF=>sep (LH (V.ps.length=W.hs.length/\V.hv=hd.1/\Hr hd V.dv V.ps)) (ij (oi bw V W []))) V (St.join (St.yl ⟨hV,e8,e9⟩ (St.FM (L:=oi bw V W []) h)))
theorem Ld{w0 w:World}{bw:Nat}{hd:Bf}{W:Wo}{L R:List HP}(h:St w0 L w)(hp:bQ L (jJ bw hd W) R):
 ∃V:QF,V.ps.length=W.hs.length/\(∃a cap,V.hv=.slice a W.hs.length cap)/\∀i v,(Ry V W)[i]? =some v->w.cell? ⟨bw,i,none⟩=some v:=by
 obtain⟨V,h1⟩:=dM (h.pick hp)
 obtain⟨a,cap,h2,-⟩:=aY h1.drop
 refine⟨V.1,V.2.1,⟨a,cap,by rw[h2,bj,V.2.1]⟩,fun i v hv=>?_⟩
 rw[World.cell?,h1.look.2];simpa using hv
theorem ia(w0:World)(L R:List HP)(bw:Nat)(hd:Bf)(W:Wo)(k:Int)(hp:bQ L (jJ bw hd W) R):KE prog 78 #[bA bw,.int .i64 k] w0 L (fun u M=>u=.bool (W.is k)/\M=L):=by
 refine KE.mk (n:=16) func78 rfl ntmps78 aj ?_
 intro w hw
 obtain⟨V,hV,⟨ha,hc,hhv⟩,qP⟩:=Ld hw hp
 have Ng:w.cell? ⟨bw,0,none⟩=some (.slice ha W.hs.length hc):=by rw[<-hhv];exact qP 0 _ rfl
 refine A3 ?_
 by_cases h1:0<=k
 ·refine Z8 ?_
  refine vO ?_
  refine tN ?_
  refine A1 ?_
  refine Jr ?_
  refine KO.gd (off:=0) rfl runUnderlying164 rfl rfl sizeOf160 rfl ?_
  refine KO.on rfl rfl EK ?_;refine KO.sE rfl rfl isAgg160 Ng rfl ?_
  refine lL ?_
  refine KO.len rfl underlying160 rfl ?_
  refine lL ?_
  refine yz ?_
  refine sO ?_
  refine jH ?_
  refine KQ.bG rfl rfl (fun w' hs=>⟨_,_,rfl,⟨?_,rfl⟩,hw.aE hs.below,hs.below⟩)
  unfold Wo.is;simp[h1]
 ·refine Z8 ?_
  refine vO ?_
  refine Hg ?_
  refine JJ ?_
  refine x8 ?_
  refine jH ?_
  refine KQ.bG rfl rfl (fun w' hs=>⟨_,_,rfl,⟨?_,rfl⟩,hw.aE hs.below,hs.below⟩)
  unfold Wo.is;simp[h1]
theorem KC.hd{P:Program}{f:FuncId}{args:Array Value}{w0:World}{L:List HP}{p:Nat×Nat}{x y:Ho×Dk}{φ:Value->Prop}(h:KC P f args w0 (dL p.1 p.2 x.1::fR p.2 x.2::L) (fun u M=>φ u/\M=dL p.1 p.2 y.1::fR p.2 y.2::L)):KC P f args w0 (vJ p x::L) (fun u M=>φ u/\M=vJ p y::L):=
 KC.perm (fun w hw=>hw.split) (KC.pA h (by
  rintro v M ⟨h1,rfl⟩
  exact⟨_,⟨h1,rfl⟩,fun w hw=>hw.join⟩))
theorem KC.hdD{P:Program}{f:FuncId}{args:Array Value}{w0:World}{L:List HP}{p:Nat×Nat}{x:Ho×Dk}{d:Dk}{φ:Value->Prop}(h:∀L,KC P f args w0 (fR p.2 x.2::L) (fun u M=>φ u/\M=fR p.2 d::L)):KC P f args w0 (vJ p x::L) (fun u M=>φ u/\M=vJ p (x.1,d)::L):=
 KC.perm (fun w hw=>hw.split.gJ) (KC.pA (h (dL p.1 p.2 x.1::L)) (by
  rintro v M ⟨h1,rfl⟩
  exact⟨_,⟨h1,rfl⟩,fun w hw=>hw.gJ.join⟩))
theorem KC.hdH{P:Program}{f:FuncId}{args:Array Value}{w0:World}{L:List HP}{p:Nat×Nat}{x:Ho×Dk}{y:Ho}{φ:Value->Prop}(h:∀L,KC P f args w0 (dL p.1 p.2 x.1::L) (fun u M=>φ u/\M=dL p.1 p.2 y::L)):KC P f args w0 (vJ p x::L) (fun u M=>φ u/\M=vJ p (y,x.2)::L):=
 KC.perm (fun w hw=>hw.split) (KC.pA (h (fR p.2 x.2::L)) (by
  rintro v M ⟨h1,rfl⟩
  exact⟨_,⟨h1,rfl⟩,fun w hw=>hw.join⟩))
theorem zg{W:Wo}{k:Nat}{x:Ho×Dk}(h:W.hs[k]? =some x):W.H k=x.1/\W.D k=x.2:=by
 unfold Wo.H Wo.D Wo.at'
 rw[aq,h]
 exact⟨rfl,rfl⟩
theorem Ns{W:Wo}{k:Int}(h:W.is k=true):∃j:Nat,k=(j:Int)/\j<W.hs.length:=by
 unfold Wo.is at h
 simp only[decide_eq_true_eq]at h
 exact⟨k.toNat,by omega,by omega⟩
theorem VI(w0:World)(L:List HP)(bw c kb:Nat)(hd:Bf)(W:Wo)(k n t:Int)(hB:c6 c kb W):
 KC prog 73 #[bA bw,.int .i64 k,.int .i64 n,.int .i64 t] w0 (jJ bw hd W::L) (fun u M=>u=cS 70 (BR W k)/\M=jJ bw hd (Bm W k n t)::L):=by
 unfold BR Bm
 refine KC.mk (n:=32) func73 rfl ntmps73 aj ?_
 refine A3 ?_
 cases hk:W.is k with
 |false=>
  refine ji ?_
  refine KO.ce (cp:=[]) rfl rfl rfl call78 rfl (ia w0 _ _ bw hd W k bZ) ?_;rintro v' L' ⟨rfl,rfl⟩;rw[hk]
  refine qp ?_
  refine BA ?_
  refine tH ?_
  refine KQ.bG rfl rfl (fun w' aX=>⟨_,_,rfl,⟨rfl,rfl⟩,aX⟩)
 |true=>
  obtain⟨j,rfl,hj⟩:=Ns hk
  refine ji ?_
  refine KO.ce (cp:=[]) rfl rfl rfl call78 rfl (ia w0 _ _ bw hd W (j:Int) bZ) ?_;rintro v' L' ⟨rfl,rfl⟩;rw[hk]
  refine Ee ?_
  refine K.cx (fun _ h=>dM h) ?_
  rintro⟨V,hV,e8,e9⟩
  dsimp only
  obtain⟨x,hx⟩:∃e,W.hs[j]? =some e:=⟨_,ao hj⟩
  obtain⟨p,hp⟩:∃e,V.ps[j]? =some e:=⟨_,ao ae⟩
  obtain⟨eH,eD⟩:=zg hx
  have vI:=hB.hs j x hx
  have kY:(V.ps.map (·.1))[j]? =some p.1:=by rw[aG,hp];rfl
  have ku:(V.ps.map (·.2))[j]? =some p.2:=by rw[aG,hp];rfl
  obtain⟨hv,dv,wv,ps⟩:=V
  dsimp only at hp kY ku hV ⊢
  refine K.fact (fun w hw=>aY (hw.pick (A:=Kh hv (ps.map (·.1))) bo)) ?_
  rintro⟨a1,c1,rfl,rb⟩
  refine K.fact (fun w hw=>aY (hw.pick (A:=Rn dv (ps.map (·.2))) bo)) ?_
  rintro⟨a2,c2,rfl,O_⟩
  obtain⟨g1,rfl⟩:=rb nI
  obtain⟨g2,rfl⟩:=O_ nI
  refine Z8 ?_
  refine Yh ?_
  refine Z1 ?_
  refine Z98 ?_
  refine Z1 ?_
  refine KO.cl (cp:=[]) rfl rfl rfl call18 rfl (KC.nO (φ:=fun u=>u=.tuple #[]) hp hx bo (fun L=>KC.hdD (fun L=>PI w0 L p.2 x.2 n vI.len))) ?_;rintro v' L' ⟨rfl,rfl⟩
  refine Z0 ?_
  have FY:(W.hs.set j (x.1,cu x.2 n))[j]? =some (x.1,cu x.2 n):=List.getElem?_set_self hj
  refine Z8 ?_
  refine ZF ?_
  refine Z1 ?_
  refine acB ?_
  refine Z1 ?_
  refine KO.cl (cp:=[]) rfl rfl rfl call19 rfl (KC.nO (φ:=fun u=>u=.tuple #[]) hp FY bZ (fun L=>KC.hdH (fun L=>SX w0 L p.1 p.2 x.1 t))) ?_;rintro v' L' ⟨rfl,rfl⟩;rw[List.set_set]
  refine rE ?_
  refine KQ.bG rfl rfl (fun w' aX=>⟨_,_,rfl,⟨rfl,rfl⟩,?_⟩)
  rw[if_pos rfl,aA,eH,eD]
  exact dH ⟨_,_,wv,ps⟩ Y20 (aX.all Y7)
theorem UD(w0:World)(L:List HP)(bw c kb:Nat)(hd:Bf)(hN:hd.2.2=none)(W:Wo)(k:Int)(hT:qH w0)(hM:qK w0)(hB:c6 c kb W)(hK:kb<=1000000000000):
 KC prog 74 #[bA bw,.int .i64 k] w0 (jJ bw hd W::L) (fun u M=>u=cS 70 (BR W k)/\M=jJ bw hd (Le W k)::L):=by
 unfold BR Le
 have gO:=hB.n1
 refine KC.mk (n:=36) func74 rfl ntmps74 aj ?_
 refine A3 ?_
 cases hk:W.is k with
 |false=>
  refine ji ?_
  refine KO.ce (cp:=[]) rfl rfl rfl call78 rfl (ia w0 _ _ bw hd W k bZ) ?_;rintro v' L' ⟨rfl,rfl⟩;rw[hk]
  refine qp ?_
  refine BA ?_
  refine tH ?_
  refine KQ.bG rfl rfl (fun w' aX=>⟨_,_,rfl,⟨rfl,rfl⟩,aX⟩)
 |true=>
  obtain⟨j,rfl,hj⟩:=Ns hk
  refine ji ?_
  refine KO.ce (cp:=[]) rfl rfl rfl call78 rfl (ia w0 _ _ bw hd W (j:Int) bZ) ?_;rintro v' L' ⟨rfl,rfl⟩;rw[hk]
  refine Ee ?_
  refine K.cx (fun _ h=>dM h) ?_
  rintro⟨V,hV,e8,e9⟩
  dsimp only
  obtain⟨x,hx⟩:∃e,W.hs[j]? =some e:=⟨_,ao hj⟩
  obtain⟨p,hp⟩:∃e,V.ps[j]? =some e:=⟨_,ao ae⟩
  obtain⟨eH,eD⟩:=zg hx
  have vI:=hB.hs j x hx
  have hcB:=vI.cut (n:= -1) ae
  have kY:(V.ps.map (·.1))[j]? =some p.1:=by rw[aG,hp];rfl
  have ku:(V.ps.map (·.2))[j]? =some p.2:=by rw[aG,hp];rfl
  obtain⟨hv,dv,wv,ps⟩:=V
  dsimp only at hp kY ku hV ⊢
  refine K.fact (fun w hw=>aY (hw.pick (A:=Kh hv (ps.map (·.1))) bo)) ?_
  rintro⟨a1,c1,rfl,rb⟩
  refine K.fact (fun w hw=>aY (hw.pick (A:=Rn dv (ps.map (·.2))) bo)) ?_
  rintro⟨a2,c2,rfl,O_⟩
  obtain⟨g1,rfl⟩:=rb nI
  obtain⟨g2,rfl⟩:=O_ nI
  have FY:(W.hs.set j (x.1,cu x.2 (-1)))[j]? =some (x.1,cu x.2 (-1)):=List.getElem?_set_self hj
  refine Z8 ?_
  refine Yh ?_
  refine Z1 ?_
  refine Z98 ?_
  refine KO.cl (cp:=[]) rfl rfl rfl call18 rfl (KC.nO (φ:=fun u=>u=.tuple #[]) hp hx bo (fun L=>KC.hdD (fun L=>PI w0 L p.2 x.2 (-1) vI.len))) ?_;rintro v' L' ⟨rfl,rfl⟩
  refine Z0 ?_
  refine K.conv (fun w hw=>dD hp FY (hw.pick (A:=cr vJ ps (W.hs.set j (x.1,cu x.2 (-1)))) bZ)) ?_
  refine K.conv (fun w hw=>(hw.pick (A:=vJ p (x.1,cu x.2 (-1))) .head).split) ?_
  refine K.KJ [.pure,.pure,.pure,.read,.pure,.pure,.pure,.pure,.pure,.read,.pure,.pure,.read,.write,.pure,.pure,.pure,.pure,.write] [(3,13)] [[0,1,2,3,4,5,6,7,8,9,10,11,12,13,14,15,16,17,18],[0,1,2,4,5,6,7,8,9,10,11,12,13,3,14,15,16,17,18]] bH bH bH ⟨?_,?_,trivial⟩
  focus
   show KO _ _ _ _ _ _ _ _ _ _
   refine Z1 ?_
   refine ZF ?_
   refine qG ?_
   refine Z24 ?_
   refine K6 ?_
   refine Z1 ?_
   refine Z98 ?_
   refine KO.cl (cp:=[]) rfl rfl rfl call11 rfl (KC.qv bo (DN w0 _ p.2 (j:Int) (cu x.2 (-1)) hT hM ⟨by omega,by omega⟩ (hcB.ok hK))) ?_;rintro v' L' ⟨bh,rfl,rfl⟩
   refine G3 ?_
   refine acM ?_
   refine Z0 ?_
  rotate_left
  focus
   show KO _ _ _ _ _ _ _ _ _ _
   refine Z1 ?_
   refine Ul ?_
   refine qG ?_
   refine Z24 ?_
   refine K6 ?_
   refine Z1 ?_
   refine Z98 ?_
   refine KO.cl (cp:=[]) rfl rfl rfl call11 rfl (KC.qv bo (DN w0 _ p.2 (j:Int) (cu x.2 (-1)) hT hM ⟨by omega,by omega⟩ (hcB.ok hK))) ?_;rintro v' L' ⟨bh,rfl,rfl⟩
   refine KO.dB (i:=0) rfl rfl isAgg160 bo rfl rfl rfl ?_
   refine G3 ?_
   refine acM ?_
   refine Z0 ?_
  rotate_left
  all_goals (
   refine Er ?_
   refine KQ.bG rfl rfl (fun w' aX=>⟨_,_,rfl,⟨rfl,rfl⟩,?_⟩)
   rw[if_pos rfl,aA]
   unfold sg
   rw[eD]
   have e1:(ps.set j (bh,p.2)).map (·.1)=(ps.map (·.1)).set j bh:=List.map_set
   have e2:(ps.set j (bh,p.2)).map (·.2)=ps.map (·.2):=by rw[List.map_set];exact List.ig ku
   have h1:St w0 (vJ (bh,p.2) (bK (j:Int) (cu x.2 (-1)),cu x.2 (-1))::cr vJ (ps.eraseIdx j) ((W.hs.set j (x.1,cu x.2 (-1))).eraseIdx j)::Kh (.slice (some ⟨g1,0,none⟩) (ps.map (·.1)).length c1) ((ps.map (·.1)).set j bh)::Rn (.slice (some ⟨g2,0,none⟩) (ps.map (·.2)).length c2) (ps.map (·.2))::Ja wv W.cR::bP bw (.cells (Ry ⟨.slice (some ⟨g1,0,none⟩) (ps.map (·.1)).length c1,.slice (some ⟨g2,0,none⟩) (ps.map (·.2)).length c2,wv,ps⟩ W).toArray 164 (0,0))::L) w':=by
    have h2:St w0 (dL bh p.2 (bK (j:Int) (cu x.2 (-1)))::fR p.2 (cu x.2 (-1))::_) w':=aX.all (M:=dL bh p.2 (bK (j:Int) (cu x.2 (-1)))::fR p.2 (cu x.2 (-1))::cr vJ (ps.eraseIdx j) ((W.hs.set j (x.1,cu x.2 (-1))).eraseIdx j)::Kh (.slice (some ⟨g1,0,none⟩) (ps.map (·.1)).length c1) ((ps.map (·.1)).set j bh)::Rn (.slice (some ⟨g2,0,none⟩) (ps.map (·.2)).length c2) (ps.map (·.2))::Ja wv W.cR::bP bw (.cells (Ry ⟨.slice (some ⟨g1,0,none⟩) (ps.map (·.1)).length c1,.slice (some ⟨g2,0,none⟩) (ps.map (·.2)).length c2,wv,ps⟩ W).toArray 164 (0,0))::L) Y5
    exact h2.join
   have h3:=ja (f:=vJ) (ps:=ps) (xs:=W.hs.set j (x.1,cu x.2 (-1))) (i:=j) (p:=(bh,p.2)) (x:=(bK (j:Int) (cu x.2 (-1)),cu x.2 (-1))) ae (by rw[List.length_set];exact hj) h1
   rw[List.set_set]at h3
   refine dH ⟨.slice (some ⟨g1,0,none⟩) (ps.map (·.1)).length c1,.slice (some ⟨g2,0,none⟩) (ps.map (·.2)).length c2,wv,ps.set j (bh,p.2)⟩ (by dsimp only[Wo.bU];rw[List.length_set,List.length_set];exact hV) ?_ (e9:=e9.none hN)
   unfold oi
   dsimp only
   rw[e1,e2]
   exact h3.all Y7)
theorem Nq(w0:World)(L:List HP)(bw:Nat)(hd:Bf)(W:Wo)(g:Gm)(FZ:W.cR.length<=100)(Ki:0<=W.lost/\W.lost<=1000000000000):
 KC prog 167 #[bA bw,.agg (Xv g).toArray] w0 (jJ bw hd W::L) (fun u M=>u=.tuple #[]/\M=jJ bw hd (px W g)::L):=by
 unfold px
 refine KC.mk (n:=27) func167 rfl ntmps167 aj ?_
 refine qq ?_
 refine K.cx (fun _ h=>dM h) ?_
 rintro⟨V,hV,e8,e9⟩
 dsimp only
 obtain⟨hv,dv,wv,ps⟩:=V
 dsimp only at hV ⊢
 refine K.fact (fun w hw=>aY (hw.pick (A:=Ja wv W.cR) bo)) ?_
 rintro⟨a3,c3,hwv,Ti⟩
 refine dR ?_
 refine KO.box rfl rfl aQ rfl ?_;intro b3
 refine Z0 ?_
 refine kp ?_
 refine Vy ?_
 refine KO.dB (i:=2) rfl rfl isAgg162 bo rfl rfl rfl ?_;rw[hwv]
 refine El ?_
 refine vO ?_
 refine Z2 ?_
 refine K.bz rfl (fun h1=>?_) (fun h1=>?_)
 ·rw[if_pos ae]
  refine Z3 ?_
  refine mA ?_
  refine KO.gd (off:=3) rfl runUnderlying164 rfl rfl sizeOf3 rfl ?_
  refine KO.dB (i:=3) rfl rfl isAgg3 bo rfl rfl rfl ?_
  refine Jw ?_
  refine KO.gd (off:=3) rfl runUnderlying164 rfl rfl sizeOf3 rfl ?_
  refine KO.gT (i:=3) rfl rfl rfl rfl za rfl bo rfl ZI ?_
  refine Z4 ?_
  refine KQ.VY rfl (fun w' aX=>⟨_,_,rfl,⟨rfl,rfl⟩,dH ⟨_,dv,_,ps⟩ hV (aX.all Y5)⟩)
 ·rw[if_neg ae]
  refine T4 ?_
  rw[<-hwv]
  refine K.draw [.pure,.pure,.pure,.pure,.read,.read,.dm,.write,.pure,.pure,.write] [0,1,2,3,4,5,6,7,8,9,10] bH bH ?_
  refine tI ?_
  refine Vy ?_
  refine KO.dB (i:=2) rfl rfl isAgg162 bo rfl rfl rfl ?_
  refine KO.uS rfl rfl isAgg258 sizeOf258 bZ aQ rfl ?_
  refine KO.lY (z:=(Value.agg #[.int .i64 0,.string ⟨#[]⟩])) (sz:=2) (dP:=24) rfl rfl underlying162 bH aQ aQ ai ai rfl ?_;intro ru
  refine KO.app (cf:=Xv) (z:=Value.agg #[.int .i64 0,.string ⟨#[]⟩]) (sz:=2) (dP:=24) (xs:=W.cR) rfl rfl rfl bo .head underlying162 bH aQ g rfl rfl rfl ae ai rfl ?_;intro v24;refine KO.fact (fun _ hs=>aY hs) ?_;rintro⟨a24,k24,aaC,-⟩
  refine lJ ?_
  refine Vy ?_
  refine KO.gT (i:=2) rfl rfl rfl (by rw[aaC];rfl) (by exact sizeOf162) (by rw[aaC];rfl) bo rfl ZI ?_
  refine KO.nil ?_
  refine KQ.j9 rfl (fun w' aX=>⟨_,_,rfl,⟨rfl,rfl⟩,dH ⟨hv,dv,v24,ps⟩ hV (aX.all Y5)⟩)
theorem JQ(w0:World)(L:List HP)(A:HP)(bw:Nat)(hd:Bf)(W:Wo)(dst:Int)(f:Fr)(v:Value)(l:List Ms)(hT:qH w0)(hA:∀w R,St w0 (A::R) w->x9 w 5 du v l)(dK:∀m∈l,m.body.size<=maxLen/\m.queue.size<=maxLen)(FZ:W.cR.length<=100)(Ki:0<=W.lost/\W.lost<=1000000000000):
 KC prog 164 #[bA bw,.int .i64 dst,.agg (frC f v).toArray] w0 (jJ bw hd W::A::L) (fun u M=>u=.tuple #[]/\M=jJ bw hd (fm W dst f l)::A::L):=by
 unfold fm
 refine KC.mk (n:=20) func164 rfl ntmps164 aj ?_
 refine Z3 ?_
 refine KO.box rfl rfl aQ rfl ?_;intro b5
 refine yF ?_
 refine Yb ?_
 refine KO.ce (cp:=[]) rfl rfl rfl call264 rfl (abV w0 _ f v l (fun w' hw'=>hA w' _ (hw'.pick (A:=A) bo)) hT dK) ?_;rintro v' L' ⟨rfl,rfl⟩
 refine ky ?_
 refine JF ?_
 by_cases kZ:okF f l
 ·obtain⟨e1,e2⟩:=Kz kZ
  rw[e1,e2,if_pos kZ]
  refine xo ?_
  refine Z8 ?_
  refine nB ?_
  refine KO.xe (pl:=[(0,1),(1,1)]) rfl zeroValue258 runUnderlying258 Y25 aQ rfl ?_
  refine KO.cl (cp:=[]) rfl rfl rfl call167 rfl (KC.qv bo (Nq w0 _ bw hd W ⟨dst,f,l⟩ FZ Ki)) ?_;rintro v' L' ⟨rfl,rfl⟩
  refine KO.nil ?_
  refine KQ.j9 rfl (fun w' aX=>⟨_,_,rfl,⟨rfl,rfl⟩,aX.all Y5⟩)
 ·obtain⟨e1,e2⟩:=p7 kZ
  rw[e1,if_neg kZ]
  refine yA ?_
  refine Ek ?_
  refine KQ.j9 rfl (fun w' aX=>⟨_,_,rfl,⟨rfl,rfl⟩,aX.all Y5⟩)
theorem Kx:(prog.info? 258).map (fun i=>(i.zero,i.size,i.bytes))=some (some (Value.agg #[.int .i64 0,.string ⟨#[]⟩]),2,24):=by kernel_rfl
theorem Ty(x:Gm):(Xv x).all Value.oneCell'=true:=rfl
theorem Pr(w0:World)(L:List HP)(v:Value)(xs:List Gm)(k:Nat)(hk:k<xs.length)(hn:xs.length<1000000):
 KC prog 165 #[v,.int .i64 (k:Nat),.int .i64 ((k:Int)+1)] w0 (Ja v xs::L) (fun v' L'=>L'=Ja v' (xs.eraseIdx k)::L):=by
 refine KC.pre (fun w hw=>sd hw hk) ?_
 rintro⟨g,cap,rfl⟩
 refine KC.pre (fun w hw=>(gF hw).2.1) fun xX=>?_
 refine KC.mk (n:=33) func165 rfl ntmps165 aj ?_
 refine qE ?_
 refine qG ?_
 refine El ?_
 refine KO.Jh (lo:=k) (hi:=k+1) (mx:=xs.length) rfl rfl rfl rfl underlying162 sizeOf258 rfl ae rfl ae ae ae rfl (fun q13=>?_)
 refine Z0 ?_
 refine ji ?_
 refine tJ ?_
 refine K.dp rfl ga ?_
 refine xv ?_
 refine El ?_
 refine YB ?_
 refine nB ?_
 refine KO.CS rfl rfl underlying162 sizeOf258 aQ ae rfl ?_
 refine nB ?_
 refine KO.cutFrom (lo:=k+1) rfl rfl underlying162 sizeOf258 ae ae ae rfl ?_
 refine KO.move (j:=k+1) rfl rfl rfl bQ.head rfl xX underlying162 Kx (fun _=>rfl) Ty ae ae rfl ?_
 refine mS ?_
 refine Z1 ?_
 refine El ?_
 refine Z1 ?_
 refine KO.Jg (lo:=k+(xs.length-(k+1))) (hi:=xs.length) rfl rfl rfl underlying162 sizeOf258 rfl rfl ae ae rfl ?_
 refine KO.clear rfl rfl bQ.head xX ga ga underlying162 Kx (fun _=>rfl) rfl rfl ?_
 refine G4 ?_
 refine jH ?_
 refine KQ.bG rfl rfl (fun w' hs=>⟨_,_,rfl,rfl,?_⟩)
 have e:(List.take (k+(xs.length-(k+1))) (List.take k xs++List.drop (k+1) xs++List.drop (k+(xs.length-(k+1))) xs))=xs.eraseIdx k:=by
  rw[List.take_append_of_le_length ga,List.take_of_length_le ga,List.eraseIdx_eq_take_drop_succ]
 rw[e]at hs
 exact hs
theorem ZR(w0:World)(L:List HP)(bw c kb:Nat)(hd:Bf)(W:Wo)(i:Int)(hB:c6 c kb W):
 KC prog 71 #[bA bw,.int .i64 i] w0 (jJ bw hd W::L) (fun u M=>u=cS 70 (Hu W i)/\M=jJ bw hd (Ow W i)::L):=by
 have FZ:=hB.wl
 unfold Ow Hu
 refine KC.mk (n:=28) func71 rfl ntmps71 aj ?_
 refine qq ?_
 refine K.cx (fun _ h=>dM h) ?_
 rintro⟨V,hV,e8,e9⟩
 dsimp only
 obtain⟨hv,dv,wv,ps⟩:=V
 dsimp only at hV ⊢
 refine K.fact (fun w hw=>aY (hw.pick (A:=Ja wv W.cR) bo)) ?_
 rintro⟨a3,c3,rfl,Ti⟩
 refine dR ?_
 refine lK ?_
 by_cases h1:0<=i
 ·refine JG ?_
  refine A1 ?_
  refine lJ ?_
  refine KO.on rfl rfl EK ?_;refine KO.gd (off:=2) rfl runUnderlying164 rfl rfl sizeOf162 rfl ?_
  refine KO.on rfl rfl EK ?_;refine KO.dB (i:=2) rfl rfl isAgg162 bZ rfl rfl rfl ?_
  refine lL ?_
  refine El ?_
  refine lL ?_
  refine BJ ?_
  refine Z2 ?_
  refine K.bz rfl (fun h2=>?_) (fun h2=>?_)
  ·rw[if_neg ae,if_neg ai]
   refine tH ?_
   refine KQ.bG rfl rfl (fun w' aX=>⟨_,_,rfl,⟨rfl,rfl⟩,dH ⟨hv,dv,_,ps⟩ hV (aX.all nH)⟩)
  ·have h3:i<(W.cR.length:Int):=by omega
   rw[if_pos ⟨h1,h3⟩,if_pos rfl]
   obtain⟨j,rfl⟩:∃j:Nat,i=(j:Int):=⟨i.toNat,by omega⟩
   refine Z6 ?_
   refine o8 ?_
   refine Uh ?_
   refine nB ?_
   refine vP ?_
   refine KO.cl (cp:=[]) rfl rfl rfl call165 rfl (KC.qv bo (Pr w0 _ _ W.cR j ae ae)) ?_;rintro v25 L' rfl;refine KO.fact (fun _ hs=>aY hs) ?_;rintro⟨a25,UU,rfl,-⟩
   refine lJ ?_
   refine Vy ?_
   refine KO.gT (i:=2) rfl rfl rfl rfl (by exact sizeOf162) rfl bo rfl ZI ?_
   refine rE ?_
   refine KQ.bG rfl rfl (fun w' aX=>⟨_,_,rfl,⟨rfl,rfl⟩,?_⟩)
   rw[aA]
   exact dH ⟨hv,dv,.slice a25 (W.cR.eraseIdx j).length UU,ps⟩ hV (aX.all Y7)
 ·refine yI ?_
  refine Hg ?_
  refine JJ ?_
  refine Ej ?_
  rw[if_neg ae,if_neg ai]
  refine K.cV rfl (by simp <;>omega) ?_
  refine tH ?_
  refine KQ.bG rfl rfl (fun w' aX=>⟨_,_,rfl,⟨rfl,rfl⟩,dH ⟨hv,dv,_,ps⟩ hV (aX.all nH)⟩)
theorem ZQ(w0:World)(L:List HP)(bw c kb:Nat)(hd:Bf)(W:Wo)(i:Int)(hB:c6 c kb W)(hK:kb<=1000000000000):
 KC prog 72 #[bA bw,.int .i64 i] w0 (jJ bw hd W::L) (fun u M=>u=cS 70 (Hu W i)/\M=jJ bw hd (Nz W i)::L):=by
 have FZ:=hB.wl
 have Ki:=hB.lost
 unfold Nz Hu
 refine KC.mk (n:=26) func72 rfl ntmps72 aj ?_
 refine qq ?_
 refine K.cx (fun _ h=>dM h) ?_
 rintro⟨V,hV,e8,e9⟩
 dsimp only
 obtain⟨hv,dv,wv,ps⟩:=V
 dsimp only at hV ⊢
 refine K.fact (fun w hw=>aY (hw.pick (A:=Ja wv W.cR) bo)) ?_
 rintro⟨a3,c3,rfl,Ti⟩
 refine dR ?_
 refine lK ?_
 by_cases h1:0<=i
 ·refine JG ?_
  refine A1 ?_
  refine lJ ?_
  refine KO.on rfl rfl EK ?_;refine KO.gd (off:=2) rfl runUnderlying164 rfl rfl sizeOf162 rfl ?_
  refine KO.on rfl rfl EK ?_;refine KO.dB (i:=2) rfl rfl isAgg162 bZ rfl rfl rfl ?_
  refine lL ?_
  refine El ?_
  refine lL ?_
  refine BJ ?_
  refine Z2 ?_
  refine K.bz rfl (fun h2=>?_) (fun h2=>?_)
  ·rw[if_neg ae,if_neg ai]
   refine tH ?_
   refine KQ.bG rfl rfl (fun w' aX=>⟨_,_,rfl,⟨rfl,rfl⟩,dH ⟨hv,dv,_,ps⟩ hV (aX.all nH)⟩)
  ·have h3:i<(W.cR.length:Int):=by omega
   rw[if_pos ⟨h1,h3⟩,if_pos rfl]
   obtain⟨j,rfl⟩:∃j:Nat,i=(j:Int):=⟨i.toNat,by omega⟩
   obtain⟨g3,rfl⟩:=Ti ae
   have hg:W.cR[j]? =some (Ao W j):=k_ ae
   rw[aA]
   refine Z6 ?_
   refine o8 ?_
   refine Uh ?_
   refine acn ?_
   refine KO.wC (i:=j) (sz:=2) (cf:=Xv) (e:=Ao W j) rfl rfl isAgg258 sizeOf258 bo (fun _=>rfl) hg rfl ?_;refine KO.conv (fun w hw=>dH ⟨hv,dv,.slice (some ⟨g3,0,none⟩) W.cR.length c3,ps⟩ hV (hw.all (M:=oi bw ⟨hv,dv,.slice (some ⟨g3,0,none⟩) W.cR.length c3,ps⟩ W L) nH)) ?_
   refine KO.cl (cp:=[]) rfl rfl rfl call167 rfl (KC.qv bZ (Nq w0 _ bw hd W (Ao W j) FZ ⟨Ki.1,by omega⟩)) ?_;rintro v' L' ⟨rfl,rfl⟩
   refine rE ?_
   refine KQ.bG rfl rfl (fun w' aX=>⟨_,_,rfl,⟨rfl,rfl⟩,aX⟩)
 ·refine yI ?_
  refine Hg ?_
  refine JJ ?_
  refine Ej ?_
  rw[if_neg ae,if_neg ai]
  refine K.cV rfl (by simp <;>omega) ?_
  refine tH ?_
  refine KQ.bG rfl rfl (fun w' aX=>⟨_,_,rfl,⟨rfl,rfl⟩,dH ⟨hv,dv,_,ps⟩ hV (aX.all nH)⟩)
theorem KC.Py{α β γ:Type}{f:α->β->HP}{P:Program}{g:FuncId}{args:Array Value}{w0:World}{L R:List HP}{ps:List α}{xs:List β}{p:α}{x y:β}{i:Nat}{φ:γ->Value->Prop}{A:γ->HP}(hp:ps[i]? =some p)(hx:xs[i]? =some x)(pk:bQ L (cr f ps xs) R)(h:∀L,KC P g args w0 (f p x::L) (fun u M=> ∃c,φ c u/\M=A c::f p y::L)):
 KC P g args w0 L (fun u M=> ∃c,φ c u/\M=A c::cr f ps (xs.set i y)::R):=
 KC.perm (L':=f p x::cr f (ps.eraseIdx i) (xs.eraseIdx i)::R) (fun w hw=>dD hp hx (hw.pick pk)) (KC.pA (h _) (by
  rintro v M ⟨c,h1,rfl⟩
  exact⟨_,⟨c,h1,rfl⟩,fun w hw=>(y4 hp (au.1 hx).1 ((hw.pick (A:=f p y) (.tail .head)).gk .head (.tail .head))).gJ⟩))
theorem KC.agx{α β:Type}{f:α->β->HP}{P:Program}{g:FuncId}{args:Array Value}{w0:World}{L R R1:List HP}{A:HP}{ps:List α}{xs:List β}{p:α}{x y:β}{i:Nat}{φ:Value->Prop}(hp:ps[i]? =some p)(hx:xs[i]? =some x)(pk:bQ L A R1)(QV:bQ R1 (cr f ps xs) R)(h:∀L,KC P g args w0 (f p x::A::L) (fun u M=>φ u/\M=f p y::A::L)):
 KC P g args w0 L (fun u M=>φ u/\M=cr f ps (xs.set i y)::A::R):=
 KC.perm (L':=f p x::A::cr f (ps.eraseIdx i) (xs.eraseIdx i)::R) (fun w hw=>((dD hp hx ((hw.gk pk QV).gJ)).gk .head (.tail .head))) (KC.pA (h _) (by
  rintro v M ⟨h1,rfl⟩
  exact⟨_,⟨h1,rfl⟩,fun w hw=>y4 hp (au.1 hx).1 (hw.gk .head (.tail .head))⟩))
theorem Kt{c kb k:Nat}{x:Ho×Dk}(h:lf c kb k x)(hc:c<=4000):cK 79600 x.1:=h.B.le (by have :=h.B.used;omega)
theorem MK{c kb k:Nat}{x:Ho×Dk}(h:lf c kb k x)(dst:Int):∀m∈y8 x.1 x.2 dst,bT m=true:=fun m hm=>by
 unfold y8 at hm
 split at hm
 ·exact Fh (h.bt dst).ways _ m (aC.1 hm).1
 ·cases hm
theorem UC(w0:World)(L:List HP)(bw c kb:Nat)(hd:Bf)(W:Wo)(k dst:Int)(hT:qH w0)(hM:qK w0)(hB:c6 c kb W)(hK:kb<=1000000000)(hc:c<=4000):
 KC prog 69 #[bA bw,.int .i64 k,.int .i64 dst] w0 (jJ bw hd W::L) (fun u M=>u=cS 70 (Dj W k dst)/\M=jJ bw hd (yf W k dst)::L):=by
 have FZ:=hB.wl
 have Ki:=hB.lost
 unfold yf
 refine KC.mk (n:=44) func69 rfl ntmps69 aj ?_
 refine A3 ?_
 have early:¬(W.is k=true/\W.is dst=true)->Dj W k dst=2:=fun h=>by unfold Dj;rw[if_neg h]
 cases hk:W.is k with
 |false=>
  rw[early YK,if_neg aj]
  refine ji ?_
  refine KO.ce (cp:=[]) rfl rfl rfl call78 rfl (ia w0 _ _ bw hd W k bZ) ?_;rintro v' L' ⟨rfl,rfl⟩;rw[hk]
  refine qp ?_
  refine Em ?_
  refine xE ?_
  refine tH ?_
  refine KQ.bG rfl rfl (fun w' aX=>⟨_,_,rfl,⟨rfl,rfl⟩,aX⟩)
 |true=>
  cases EE:W.is dst with
  |false=>
   rw[early (by rw[EE];simp),if_neg aj]
   refine ji ?_
   refine KO.ce (cp:=[]) rfl rfl rfl call78 rfl (ia w0 _ _ bw hd W k bZ) ?_;rintro v' L' ⟨rfl,rfl⟩;rw[hk]
   refine qp ?_
   refine MS ?_
   refine Z1 ?_
   refine KO.on rfl rfl rfl ?_;refine KO.ce (cp:=[]) rfl rfl rfl call78 rfl (ia w0 _ _ bw hd W dst bZ) ?_;rintro v' L' ⟨rfl,rfl⟩;rw[EE]
   refine yD ?_
   refine rB ?_
   refine BA ?_
   refine tH ?_
   refine KQ.bG rfl rfl (fun w' aX=>⟨_,_,rfl,⟨rfl,rfl⟩,aX⟩)
  |true=>
   rw[if_pos ⟨rfl,rfl⟩]
   have eS:Dj W k dst=tX (W.H k.toNat) (W.D k.toNat) dst:=by unfold Dj;rw[if_pos ⟨hk,EE⟩]
   refine ji ?_
   refine KO.ce (cp:=[]) rfl rfl rfl call78 rfl (ia w0 _ _ bw hd W k bZ) ?_;rintro v' L' ⟨rfl,rfl⟩;rw[hk]
   refine qp ?_
   refine MS ?_
   refine Z1 ?_
   refine KO.on rfl rfl rfl ?_;refine KO.ce (cp:=[]) rfl rfl rfl call78 rfl (ia w0 _ _ bw hd W dst bZ) ?_;rintro v' L' ⟨rfl,rfl⟩;rw[EE]
   refine yD ?_
   refine Eg ?_
   obtain⟨j,rfl,hj⟩:=Ns hk
   refine K.cx (fun _ h=>dM h) ?_
   rintro⟨V,hV,e8,e9⟩
   dsimp only
   obtain⟨x,hx⟩:∃e,W.hs[j]? =some e:=⟨_,ao hj⟩
   obtain⟨p,hp⟩:∃e,V.ps[j]? =some e:=⟨_,ao ae⟩
   obtain⟨eH,eD⟩:=zg hx
   have vI:=hB.hs j x hx
   have h_:=Kt vI hc
   have kY:(V.ps.map (·.1))[j]? =some p.1:=by rw[aG,hp];rfl
   obtain⟨hv,dv,wv,ps⟩:=V
   dsimp only at hp kY hV ⊢
   refine K.fact (fun w hw=>aY (hw.pick (A:=Kh hv (ps.map (·.1))) bo)) ?_
   rintro⟨a1,c1,rfl,rb⟩
   obtain⟨g1,rfl⟩:=rb nI
   refine Z8 ?_
   refine Ul ?_
   refine KO.dB (i:=0) rfl rfl isAgg160 bZ rfl rfl rfl ?_
   refine Z1 ?_
   refine acB ?_
   refine Z1 ?_
   refine KO.cl (cp:=[]) rfl rfl rfl call35 rfl (KC.Py (φ:=fun v u=>u=.tuple #[.int .i64 (Jl x.1 x.2 dst),v,cS 70 (tX x.1 x.2 dst)]) (A:=fun v=>SL 44 5 du v (y8 x.1 x.2 dst)) (y:=(gR x.1 x.2 dst,lF x.1 x.2 dst)) hp hx bo (fun L=>(KC.perm (fun w hw=>hw.split) (KC.pA (Pn w0 L p.1 p.2 79600 x.1 x.2 dst hT hM h_ ae vI.len ⟨by have :=vI.left;omega,by have :=vI.left;omega⟩) (by rintro v M ⟨c,h1,rfl⟩;exact⟨_,⟨c,h1,rfl⟩,fun w hw=>((hw.gk (A:=dL p.1 p.2 (gR x.1 x.2 dst)) (B:=fR p.2 (lF x.1 x.2 dst)) (.tail .head) (.tail .head)).join).gJ⟩))))) ?_;rintro v' L' ⟨vl,rfl,rfl⟩;refine KO.fact (fun _ hs=>aY hs) ?_;rintro⟨av,kv,rfl,-⟩
   refine G3 ?_
   refine tK ?_
   refine nQ ?_
   refine lK ?_
   have e1:l8 W (j:Int) dst=W.bU j (gR x.1 x.2 dst,lF x.1 x.2 dst):=by unfold l8;rw[aA,eH,eD]
   rw[eS,e1,aA,eH,eD]
   refine K.conv (fun w hw=>dH (W:=W.bU j (gR x.1 x.2 dst,lF x.1 x.2 dst)) ⟨.slice (some ⟨g1,0,none⟩) (ps.map (·.1)).length c1,dv,wv,ps⟩ Y20 (hw.all (M:=bP bw (.cells (Ry ⟨.slice (some ⟨g1,0,none⟩) (ps.map (·.1)).length c1,dv,wv,ps⟩ W).toArray 164 (0,0))::Kh (.slice (some ⟨g1,0,none⟩) (ps.map (·.1)).length c1) (ps.map (·.1))::Rn dv (ps.map (·.2))::Ja wv W.cR::cr vJ ps (W.hs.set j (gR x.1 x.2 dst,lF x.1 x.2 dst))::SL 44 5 du (.slice av (y8 x.1 x.2 dst).length kv) (y8 x.1 x.2 dst)::L) Y7)) ?_
   refine Z8 ?_
   refine Us ?_
   by_cases he:tX x.1 x.2 dst=0
   ·rw[if_pos he,he]
    refine yA ?_
    refine xv ?_
    refine nB ?_
    refine nB ?_
    refine T5 ?_
    refine KO.cl (cp:=[]) rfl rfl rfl call164 rfl (KC.QV bZ bZ (JQ w0 _ (SL 44 5 du (.slice av (y8 x.1 x.2 dst).length kv) (y8 x.1 x.2 dst)) bw hd (W.bU j (gR x.1 x.2 dst,lF x.1 x.2 dst)) dst ⟨j,Jl x.1 x.2 dst,false⟩ (.slice av (y8 x.1 x.2 dst).length kv) (y8 x.1 x.2 dst) hT (fun w R h=>x9.FA (fun _=>rfl) .head h) (fun m hm=>pK (MK vI dst m hm)) FZ ⟨Ki.1,by have :=Ki.2;unfold Wo.bU;dsimp only;omega⟩)) ?_;rintro v' L' ⟨rfl,rfl⟩
    refine rE ?_
    refine KQ.bG rfl rfl (fun w' aX=>⟨_,_,rfl,⟨rfl,rfl⟩,aX.all Y5⟩)
   ·rw[if_neg he]
    refine K.cV rfl (by simp[he]) ?_
    refine G9 ?_
    refine KQ.bG rfl rfl (fun w' aX=>⟨_,_,rfl,⟨rfl,rfl⟩,aX.all Y5⟩)
theorem AW{s:ak}{u:Value}(h:kj s u):∃x e,u=.tuple #[.int .i64 x,e]/\((eW s=some x/\e=.nilIface)\/(eW s=none/\∃T y,e=.iface T y)):=by
 unfold kj at h
 cases hn:eW s with
 |some v=>rw[hn]at h;exact⟨v,_,h,.inl ⟨rfl,rfl⟩⟩
 |none=>rw[hn]at h;obtain⟨x,T,y,rfl⟩:=h;exact⟨x,_,rfl,.inr ⟨rfl,_,_,rfl⟩⟩
theorem Oo(w0:World)(L:List HP)(s:ak)(hs:s.size<=10000)(Re:qH w0)(hM0:qK w0):
 KE prog 160 #[.string s] w0 L (fun u M=> ∃sa cp,∃xs:List Ms,∃e,u=.tuple #[.slice sa xs.length cp,e]/\M=SL 44 5 du (.slice sa xs.length cp) xs::L/\((td s=some xs/\e=.nilIface)\/(td s=none/\xs=[]/\∃T y,e=.iface T y))):=by
 intro w hw
 refine(pS w0 L s ae Re hM0 w hw).mono ?_
 rintro e w' ⟨u,M,rfl,hR,kt,hb⟩
 unfold UA at hR
 cases hm:td s with
 |some xs=>
  rw[hm]at hR
  obtain⟨v,rfl,rfl⟩:=hR
  obtain⟨sa,cp,rfl,_⟩:=aY kt
  exact⟨_,_,rfl,⟨sa,cp,xs,_,rfl,rfl,.inl ⟨rfl,rfl⟩⟩,kt,hb⟩
 |none=>
  rw[hm]at hR
  obtain⟨rfl,rfl⟩:=hR
  exact⟨_,_,rfl,⟨none,0,[],_,rfl,rfl,.inr ⟨rfl,rfl,_,_,rfl⟩⟩,cM kt,hb⟩
def FrR (L:List HP) (s:ak) (u:Value) (M:List HP):Prop:=
 match TD s with
 |some (f,xs)=> ∃v,u=.tuple #[.agg (frC f v).toArray,.nilIface]/\M=SL 44 5 du v xs::L
 |none=>u=.tuple #[.agg (frC ⟨0,0,false⟩ (.slice none 0 0)).toArray,cS 70 3]/\M=L
theorem TC(w0:World)(L:List HP)(s:ak)(hs:s.size<=10000)(Re:qH w0)(hM0:qK w0):KE prog 166 #[.string s] w0 L (FrR L s):=by
 refine KE.mk (n:=77) func166 rfl ntmps166 aj ?_
 intro w hw
 have hT:=Re.ext (Ext.ct hw.below)
 have hM:=hM0.ext (Ext.ct hw.below)
 unfold FrR
 refine Z3 ?_
 refine KO.alloc rfl zeroValue256 aQ rfl ?_;intro b2
 refine lK ?_
 by_cases h4:(dE 58 s).length=4
 case neg=>
  have e0:TD s=none:=by
   unfold TD
   split
   ·rename_i h;rw[h]at h4;exact absurd rfl h4
   ·rfl
  rw[e0]
  refine Z8 ?_
  refine KO.ce (cp:=[]) rfl rfl rfl call133 rfl (l6 w _ s 58 ae hM) ?_;rintro v' L' ⟨bq,rfl,rfl⟩
  refine mS ?_
  refine P_ ?_
  refine Z2 ?_
  refine K.cV rfl ga ?_
  refine Z3 ?_
  refine T5 ?_
  refine MZ ?_
  refine sN ?_
  refine KQ.jR rfl rfl isAgg256 bZ QD rfl (fun w' hs=>⟨_,_,rfl,⟨aQ,rfl⟩,hw.aE hs.below,hs.below⟩)
 obtain⟨wa,wb,wc,wd,n4⟩:∃wa wb wc wd,dE 58 s=[wa,wb,wc,wd]:=by
  generalize dE 58 s=l at h4
  match l,h4 with
  |[a,b,c,d],_=>exact⟨a,b,c,d,rfl⟩
 have Q0:∀x∈[wa,wb,wc,wd],x.size<=10000:=fun x hx=>by have :=iq (c:=58) (s:=s) (p:=x) (by rw[n4];exact hx);omega
 refine Z8 ?_
 refine KO.ce (cp:=[]) rfl rfl rfl call133 rfl (l6 w _ s 58 ae hM) ?_;rintro v' L' ⟨bq,rfl,rfl⟩;rw[n4]
 refine mS ?_
 refine P_ ?_
 refine Hf ?_
 refine xv ?_
 refine ZC ?_
 refine KO.ce (cp:=[]) rfl rfl rfl call136 rfl (iG w _ wb (by have :=Q0 wb aj;omega) hM) ?_;rintro v' L' ⟨hR,rfl⟩;obtain⟨x,e1,rfl,hx⟩:=AW hR
 refine ky ?_
 refine YG ?_
 refine KO.ce (cp:=[]) rfl rfl rfl call136 rfl (iG w _ wc (by have :=Q0 wc aj;omega) hM) ?_;rintro v' L' ⟨hR,rfl⟩;obtain⟨y,e2,rfl,hy⟩:=AW hR
 refine ky ?_
 refine KO.eX (i:=3) rfl rfl runUnderlying115 sizeOf9 rfl aj rfl ?_
 refine KO.iw (i:=3) (sz:=1) (cf:=ln) (e:=wd) rfl rfl isAgg9 bZ (fun _=>rfl) rfl aQ aQ rfl ?_
 refine KO.ce (cp:=[]) rfl rfl rfl call160 rfl (Oo w _ wd (by have :=Q0 wd aj;omega) hT hM) ?_;rintro v' L' ⟨sa,cp,xs,e3,rfl,rfl,hz⟩
 refine ky ?_
 refine nB ?_
 refine KO.eX (i:=0) rfl rfl runUnderlying115 sizeOf9 rfl aj rfl ?_
 refine Yy ?_
 refine A5 ?_
 refine Z1 ?_
 refine T5 ?_
 refine KO.alloc rfl zeroValue256 aQ rfl ?_;intro b11
 refine KO.pD rfl rfl rfl aQ QD aQ bZ aQ ?_
 refine Z0 ?_
 have dK:∀m∈xs,m.body.size<=maxLen/\m.queue.size<=maxLen:=by
  rcases hz with⟨h,_⟩|⟨_,rfl,_⟩
  ·exact fun m hm=>pK (dG (oO h).1 m hm)
  ·intro m hm;cases hm
 refine dR ?_
 refine Yb ?_
 refine KO.ce (cp:=[]) rfl rfl rfl call264 rfl (abV w _ ⟨x,y,decide (wa=⟨#[97]⟩)⟩ _ xs (fun w' hw'=>x9.FA (fun _=>rfl) bo hw') hT dK) ?_;rintro v' L' ⟨rfl,rfl⟩
 refine qc ?_
 have bad:¬(eW wb=some x/\eW wc=some y/\td wd=some xs/\okF ⟨x,y,decide (wa=⟨#[97]⟩)⟩ xs/\Nj ⟨x,y,decide (wa=⟨#[97]⟩)⟩ xs=s)->TD s=none:=by
  intro hb
  unfold TD
  rw[n4]
  simp only[]
  split
  ·rename_i x' y' xs' h1 h2 h3
   split
   ·rename_i hh
    exfalso
    have ex:x=x':=by
     rcases hx with⟨h,_⟩|⟨h,_⟩
     ·rw[h]at h1;exact Option.some.inj h1
     ·rw[h]at h1;cases h1
    have ey:y=y':=by
     rcases hy with⟨h,_⟩|⟨h,_⟩
     ·rw[h]at h2;exact Option.some.inj h2
     ·rw[h]at h2;cases h2
    have ez:xs=xs':=by
     rcases hz with⟨h,_⟩|⟨h,_⟩
     ·rw[h]at h3;exact Option.some.inj h3
     ·rw[h]at h3;cases h3
    subst ex;subst ey;subst ez
    exact hb ⟨h1,h2,h3,hh.1,hh.2⟩
   ·rfl
  ·rfl
 rcases hx with⟨hx,rfl⟩|⟨hx,T1,y1,rfl⟩
 case inr=>
  rw[bad (fun h=>by rw[hx]at h;cases h.1)]
  refine Z8 ?_
  refine xD ?_
  refine mC ?_
  refine yx ?_
  refine mC ?_
  refine yx ?_
  refine mC ?_
  refine yx ?_
  refine tM ?_
  refine xE ?_
  refine Z3 ?_
  refine T5 ?_
  refine MZ ?_
  refine sN ?_
  refine KQ.jR rfl rfl isAgg256 bZ QD rfl (fun w' hs=>⟨_,_,rfl,⟨aQ,rfl⟩,hw.aE hs.below,hs.below⟩)
 rcases hy with⟨hy,rfl⟩|⟨hy,T1,y1,rfl⟩
 case inr=>
  rw[bad (fun h=>by rw[hy]at h;cases h.2.1)]
  refine Jp ?_
  refine xD ?_
  refine rB ?_
  refine mC ?_
  refine yx ?_
  refine mC ?_
  refine yx ?_
  refine tM ?_
  refine xE ?_
  refine Z3 ?_
  refine T5 ?_
  refine MZ ?_
  refine sN ?_
  refine KQ.jR rfl rfl isAgg256 bZ QD rfl (fun w' hs=>⟨_,_,rfl,⟨aQ,rfl⟩,hw.aE hs.below,hs.below⟩)
 rcases hz with⟨hz,rfl⟩|⟨hz,_,T1,y1,rfl⟩
 case inr=>
  rw[bad (fun h=>by rw[hz]at h;cases h.2.2.1)]
  refine Jp ?_
  refine Ef ?_
  refine xD ?_
  refine rB ?_
  refine mC ?_
  refine yx ?_
  refine tM ?_
  refine xE ?_
  refine Z3 ?_
  refine T5 ?_
  refine MZ ?_
  refine sN ?_
  refine KQ.jR rfl rfl isAgg256 bZ QD rfl (fun w' hs=>⟨_,_,rfl,⟨aQ,rfl⟩,hw.aE hs.below,hs.below⟩)
 by_cases kZ:okF ⟨x,y,decide (wa=⟨#[97]⟩)⟩ xs
 case neg=>
  rw[bad (fun h=>kZ h.2.2.2.1),(p7 kZ).1]
  refine Jp ?_
  refine Ef ?_
  refine Ef ?_
  refine A4 ?_
  refine rB ?_
  refine tM ?_
  refine xE ?_
  refine Z3 ?_
  refine T5 ?_
  refine MZ ?_
  refine sN ?_
  refine KQ.jR rfl rfl isAgg256 bZ QD rfl (fun w' hs=>⟨_,_,rfl,⟨aQ,rfl⟩,hw.aE hs.below,hs.below⟩)
 rw[(Kz kZ).1,(Kz kZ).2]
 by_cases hfs:Nj ⟨x,y,decide (wa=⟨#[97]⟩)⟩ xs=s
 case neg=>
  rw[bad (fun h=>hfs h.2.2.2.2)]
  refine Jp ?_
  refine Ef ?_
  refine Ef ?_
  refine A4 ?_
  refine BK ?_
  refine HQ ?_
  refine MV ?_
  refine K.cV rfl (by simp[hfs]) ?_
  refine Z3 ?_
  refine T5 ?_
  refine MZ ?_
  refine sN ?_
  refine KQ.jR rfl rfl isAgg256 bZ QD rfl (fun w' hs=>⟨_,_,rfl,⟨aQ,rfl⟩,hw.aE hs.below,hs.below⟩)
 have e0:TD s=some (⟨x,y,decide (wa=⟨#[97]⟩)⟩,xs):=by
  rw[<-hfs];exact CF kZ
 rw[e0]
 refine Jp ?_
 refine Ef ?_
 refine Ef ?_
 refine A4 ?_
 refine BK ?_
 refine HQ ?_
 refine MV ?_
 refine K.dp rfl (by simp[hfs]) ?_
 refine xB ?_
 refine Yb ?_
 refine KO.pD rfl rfl rfl aQ QD aQ bo aQ ?_
 refine jH ?_
 refine KQ.jR rfl rfl isAgg256 bZ QD rfl (fun w' hs=>⟨_,_,rfl,⟨_,aQ,rfl⟩,hw.stack (M:=[SL 44 5 du (.slice sa xs.length cp) xs]) (hs.all Y4),hs.below⟩)
theorem acW{w0 w:World}{L:List HP}{α:Type}{E:TypeId}{sz:Nat}{cf:α->List Value}{v:Value}{xs:List α}(h:St w0 (SL E sz cf v xs::L) w):∃a cap,v=.slice a xs.length cap/\xs.length<=cap:=by
 obtain⟨a,cap,rfl,ha⟩:=aY h
 by_cases h0:0<xs.length
 ·obtain⟨g,rfl⟩:=ha h0
  exact⟨_,_,rfl,(JN h).2⟩
 ·exact⟨_,_,rfl,by omega⟩
theorem R7{w:World}:x9 w 5 du (.slice none 0 0) []:=⟨none,0,rfl,fun i x hx=>by simp at hx⟩
theorem UF(w0:World)(L:List HP)(bw c kb:Nat)(hd:Bf)(W:Wo)(i:Int)(hT:qH w0)(hM:qK w0)(hB:c6 c kb W)(hK:kb<=1000000000)(hc:c<=4000):
 KC prog 70 #[bA bw,.int .i64 i] w0 (jJ bw hd W::L) (fun u M=>u=cS 70 (Hu W i)/\M=jJ bw hd (tW W i)::L):=by
 have FZ:=hB.wl
 have Ki:=hB.lost
 unfold tW Hu
 refine KC.mk (n:=91) func70 rfl ntmps70 aj ?_
 refine qq ?_
 refine K.cx (fun _ h=>dM h) ?_
 rintro⟨V,hV,e8,e9⟩
 dsimp only
 obtain⟨hv,dv,wv,ps⟩:=V
 dsimp only at hV ⊢
 refine K.fact (fun w hw=>aY (hw.pick (A:=Ja wv W.cR) bo)) ?_
 rintro⟨a3,c3,rfl,Ti⟩
 refine dR ?_
 refine lK ?_
 by_cases h1:0<=i
 ·refine JG ?_
  refine A1 ?_
  refine lJ ?_
  refine KO.on rfl rfl EK ?_;refine KO.gd (off:=2) rfl runUnderlying164 rfl rfl sizeOf162 rfl ?_
  refine KO.on rfl rfl EK ?_;refine KO.dB (i:=2) rfl rfl isAgg162 bZ rfl rfl rfl ?_
  refine lL ?_
  refine El ?_
  refine lL ?_
  refine BJ ?_
  refine Z2 ?_
  refine K.bz rfl (fun h2=>?_) (fun h2=>?_)
  ·rw[if_neg ae,if_neg ai]
   refine tH ?_
   refine KQ.bG rfl rfl (fun w' aX=>⟨_,_,rfl,⟨rfl,rfl⟩,dH ⟨hv,dv,_,ps⟩ hV (aX.all nH)⟩)
  ·have h3:i<(W.cR.length:Int):=by omega
   rw[if_pos ⟨h1,h3⟩,if_pos rfl]
   obtain⟨j,rfl⟩:∃j:Nat,i=(j:Int):=⟨i.toNat,by omega⟩
   obtain⟨g3,rfl⟩:=Ti ae
   rw[aA]
   obtain⟨g,hg⟩:∃g,W.cR[j]? =some g:=⟨_,k_ ae⟩
   have DR:=hB.cR g (ax hg)
   have eg:Ao W j=g:=by have :=k_ (W:=W) (i:=j) ae;rw[hg]at this;exact(Option.some.inj this).symm
   rw[eg]
   refine Z6 ?_
   refine kp ?_
   refine Uh ?_
   refine acn ?_
   refine KO.wC (i:=j) (sz:=2) (cf:=Xv) (e:=g) rfl rfl isAgg258 sizeOf258 bo (fun _=>rfl) hg rfl ?_
   refine KO.alloc rfl zeroValue258 aQ rfl ?_;intro b5
   refine KO.pD rfl rfl rfl aQ (by exact sizeOf258) aQ bZ aQ ?_
   refine Z0 ?_
   refine o8 ?_
   refine Vy ?_
   refine KO.dB (i:=2) rfl rfl isAgg162 bo rfl rfl rfl ?_
   refine nB ?_
   refine vP ?_
   refine KO.cl (cp:=[]) rfl rfl rfl call165 rfl (KC.qv bo (Pr w0 _ _ W.cR j ae ae)) ?_;rintro v25 L' rfl;refine KO.fact (fun _ hs=>aY hs) ?_;rintro⟨a25,UU,rfl,-⟩
   refine lJ ?_
   refine Vy ?_
   refine KO.gT (i:=2) rfl rfl rfl rfl (by exact sizeOf162) rfl bo rfl ZI ?_
   refine Z0 ?_
   have hwB:c6 c kb (qw W j):=hB.out j
   have abi:TD (gmT g)=some (g.f,g.l):=CF DR.ok
   have afz:(gmT g).size<=10000:=by have :=Pt DR.ok;unfold gmT;omega
   have i_:=dG (show ju g.l=none from by have :=DR.ok;unfold okF at this;exact this.2.2.2.2.2.2)
   have aa5:g.l.length<=3:=by have :=DR.ok;unfold okF at this;omega
   obtain⟨t1,t2⟩:=DR.dto
   obtain⟨gt,f,l⟩:=g
   dsimp only at t1 t2 i_ aa5 abi ⊢
   obtain⟨m,rfl⟩:∃m:Nat,gt=(m:Int):=⟨gt.toNat,by omega⟩
   obtain⟨x,hx⟩:∃e,W.hs[m]? =some e:=⟨_,ao ae⟩
   obtain⟨p,hp⟩:∃e,ps[m]? =some e:=⟨_,ao ae⟩
   obtain⟨eH,eD⟩:=zg (W:=qw W j) hx
   have vI:=hB.hs m x hx
   have h_:=Kt vI hc
   have kY:(ps.map (·.1))[m]? =some p.1:=by rw[aG,hp];rfl
   refine K.fact (fun w hw=>aY (hw.pick (A:=Kh hv (ps.map (·.1))) bo)) ?_
   rintro⟨a1,c1,rfl,rb⟩
   obtain⟨g1,rfl⟩:=rb nI
   refine dR ?_
   refine KO.gd (off:=1) rfl runUnderlying258 rfl rfl sizeOf9 rfl ?_
   refine vE ?_
   refine KO.ce (cp:=[]) rfl rfl rfl call166 rfl (TC w0 _ (gmT ⟨m,f,l⟩) afz hT hM) ?_;intro v' L' Ra;unfold FrR at Ra;rw[abi]at Ra;obtain⟨vl,rfl,rfl⟩:=Ra;refine KO.fact (fun _ hs=>acW hs) ?_;rintro⟨al,cl,rfl,qP⟩
   refine G3 ?_
   refine KO.alloc rfl zeroValue256 aQ rfl ?_;intro b6
   refine KO.pD rfl rfl rfl aQ QD aQ bZ aQ ?_
   refine mS ?_
   refine Jo ?_
   refine BL ?_
   refine dR ?_
   refine Qs ?_
   refine Qi ?_
   refine Z2 ?_
   unfold vL
   dsimp only
   rw[aA,eH,eD]
   have hlx:(qw W j).hs.length=ps.length:=hV.symm
   cases hak:f.vN with
   |true=>
    refine xo ?_
    rw[if_pos rfl]
    refine qq ?_
    refine K.draw [.pure,.pure,.pure,.read,.pure,.read,.pure,.read,.pure,.read,.pure,.read,.write] [0,1,2,3,4,5,6,7,8,9,10,11,12] bH bH ?_
    refine Z1 ?_
    refine ZF ?_
    refine Yr ?_
    refine acA ?_
    refine Qd ?_
    refine tL ?_
    refine Z83 ?_
    refine tL ?_
    refine KO.cl (cp:=[]) rfl rfl rfl call100 rfl (KC.nO (φ:=fun u=>u=cS 70 (caE x.1 x.2 f.fa f.num)) (y:=(r9 x.1 x.2 f.fa f.num,AT x.1 x.2 f.fa f.num)) hp hx bo (fun L=>KC.hd (Tx w0 L p.1 p.2 79600 x.1 x.2 f.fa f.num hT hM h_ ae vI.len ⟨by have :=vI.left;omega,by have :=vI.left;omega⟩))) ?_;rintro v' L' ⟨rfl,rfl⟩
    refine yF ?_
    refine sN ?_
    refine KQ.bG rfl rfl (fun w' aX=>⟨_,_,rfl,⟨rfl,rfl⟩,?_⟩)
    refine dH (W:=(qw W j).bU m _) ⟨.slice (some ⟨g1,0,none⟩) (ps.map (·.1)).length c1,dv,.slice a25 (W.cR.eraseIdx j).length UU,ps⟩ Y20 (aX.all (M:=bP bw (.cells (Ry ⟨.slice (some ⟨g1,0,none⟩) (ps.map (·.1)).length c1,dv,.slice a25 (W.cR.eraseIdx j).length UU,ps⟩ W).toArray 164 (0,0))::Kh (.slice (some ⟨g1,0,none⟩) (ps.map (·.1)).length c1) (ps.map (·.1))::Rn dv (ps.map (·.2))::Ja (.slice a25 (W.cR.eraseIdx j).length UU) (W.cR.eraseIdx j)::cr vJ ps (W.hs.set m (r9 x.1 x.2 f.fa f.num,AT x.1 x.2 f.fa f.num))::L) Y5)
   |false=>
    refine yA ?_
    rw[if_neg ai]
    refine Z6 ?_
    refine K.draw [.pure,.pure,.pure,.read,.pure,.read,.pure,.read,.pure,.read,.pure,.read,.pure,.read,.write,.pure,.pure,.pure,.pure,.pure] [0,1,2,3,4,5,6,7,8,9,10,11,12,13,14,15,16,17,18,19] bH bH ?_
    refine Z1 ?_
    refine ZF ?_
    refine Yr ?_
    refine acA ?_
    refine Qd ?_
    refine tL ?_
    refine Z83 ?_
    refine tL ?_
    refine Hp ?_
    refine Hh ?_
    refine KO.cl (cp:=[]) rfl rfl rfl call103 rfl (KC.agx (A:=SL 44 5 du (.slice al l.length cl) l) (φ:=fun u=>u=.tuple #[.int .i64 (rz x.1 x.2 f.fa f.num l),cS 70 (D7 x.1 x.2 f.fa f.num l)]) (y:=(lb x.1 x.2 f.fa f.num l,oe x.1 x.2 f.fa f.num l)) hp hx bo bo (fun L=>KC.hd (I8 w0 L _ p.1 p.2 79600 x.1 x.2 f.fa f.num al cl l hT hM h_ ae vI.len ⟨by have :=vI.left;omega,by have :=vI.left;omega⟩ (fun w R h=>x9.FA (fun _=>rfl) .head h) qP ae (fun m hm=>pK (i_ m hm))))) ?_;rintro v' L' ⟨rfl,rfl⟩
    refine qc ?_
    refine K.conv (fun w hw=>dH (W:=(qw W j).bU m (lb x.1 x.2 f.fa f.num l,oe x.1 x.2 f.fa f.num l)) ⟨.slice (some ⟨g1,0,none⟩) (ps.map (·.1)).length c1,dv,.slice a25 (W.cR.eraseIdx j).length UU,ps⟩ Y20 (hw.all (M:=bP bw (.cells (Ry ⟨.slice (some ⟨g1,0,none⟩) (ps.map (·.1)).length c1,dv,.slice a25 (W.cR.eraseIdx j).length UU,ps⟩ W).toArray 164 (0,0))::Kh (.slice (some ⟨g1,0,none⟩) (ps.map (·.1)).length c1) (ps.map (·.1))::Rn dv (ps.map (·.2))::Ja (.slice a25 (W.cR.eraseIdx j).length UU) (W.cR.eraseIdx j)::cr vJ ps (W.hs.set m (lb x.1 x.2 f.fa f.num l,oe x.1 x.2 f.fa f.num l))::SL 44 5 du (.slice al l.length cl) l::_::_::L) Y7)) ?_
    refine Z8 ?_
    refine JF ?_
    by_cases he:D7 x.1 x.2 f.fa f.num l=0
    ·rw[if_pos he,he]
     refine xo ?_
     refine Z8 ?_
     refine Qd ?_
     refine vy ?_
     refine Yr ?_
     refine Z1 ?_
     refine T5 ?_
     refine KO.cl (cp:=[]) rfl rfl rfl call164 rfl (KC.QV bZ bZ (JQ w0 _ (SL 44 5 du (.slice al l.length cl) l) bw hd ((qw W j).bU m (lb x.1 x.2 f.fa f.num l,oe x.1 x.2 f.fa f.num l)) f.fa ⟨m,rz x.1 x.2 f.fa f.num l,true⟩ (.slice none 0 0) [] hT (fun w R h=>R7) (fun m hm=>by cases hm) hwB.wl ⟨Ki.1,by have :=Ki.2;unfold Wo.bU qw;dsimp only;omega⟩)) ?_;rintro v' L' ⟨rfl,rfl⟩
     refine rE ?_
     refine KQ.bG rfl rfl (fun w' aX=>⟨_,_,rfl,⟨rfl,rfl⟩,aX.all Y5⟩)
    ·rw[if_neg he]
     refine K.dp rfl (by simp[he]) ?_
     refine Z6 ?_
     refine Er ?_
     refine KQ.bG rfl rfl (fun w' aX=>⟨_,_,rfl,⟨rfl,rfl⟩,aX.all Y5⟩)
 ·refine yI ?_
  refine Hg ?_
  refine JJ ?_
  refine Ej ?_
  rw[if_neg ae,if_neg ai]
  refine K.cV rfl (by simp <;>omega) ?_
  refine tH ?_
  refine KQ.bG rfl rfl (fun w' aX=>⟨_,_,rfl,⟨rfl,rfl⟩,dH ⟨hv,dv,_,ps⟩ hV (aX.all nH)⟩)
end Go.Proofs.YtjhogocabcdjbabGreatDoor
namespace WB
open Go
def Mv (g:Gm):Nat:=if g.f.vN=true then 1 else 2
def jk (W:Wo):Nat:=(W.cR.map Mv).sum
def iE:Nat->Wo->Wo
 |0,W=>W
 |f+1,W=>if W.cR=[]then W else iE f (tW W 0)
def lS (W:Wo):Wo:=iE (jk W) W
theorem Nv(W:Wo)(g:Gm):jk (px W g)<=jk W+Mv g:=by
 unfold px jk
 split
 ·exact Nat.le_add_right _ _
 ·simp
theorem TP(W:Wo)(g:Gm):jk (vL W g)+1<=jk W+Mv g:=by
 have key:∀(W1:Wo) (dst:Int) (f:Fr) (l:List Ms),f.vN=true->jk (fm W1 dst f l)<=jk W1+1:=fun W1 dst f l hf=>by
  unfold fm
  split
  ·refine Nat.le_trans (Nv _ _) ?_
   unfold Mv;rw[if_pos hf];exact aD _
  ·omega
 unfold vL
 split
 ·rename_i h
  unfold Mv;rw[if_pos h];exact aD _
 ·rename_i h
  have e:Mv g=2:=by unfold Mv;rw[if_neg h]
  rw[e]
  split
  ·exact Nat.add_le_add_right (key _ _ _ _ rfl) 1
  ·show jk W+1<=_
   omega
theorem TA(g:Gm):1<=Mv g:=by unfold Mv;split<;>decide
theorem y5{W:Wo}(h:W.cR≠[]):jk (tW W 0)+1<=jk W:=by
 obtain⟨g,r,hw⟩:=List.exists_cons_of_ne_nil h
 have e0:Hu W 0=0:=by
  unfold Hu
  rw[hw,if_pos ⟨by omega,by simp⟩]
 have e1:Ao W 0=g:=by unfold Ao;rw[hw];rfl
 have e2:jk W=Mv g+jk (qw W 0):=by unfold jk qw;rw[hw];simp
 unfold tW
 rw[if_pos e0]
 show jk (vL (qw W 0) (Ao W 0))+1<=_
 rw[e1,e2]
 have :=TP (qw W 0) g
 omega
theorem Ar:∀(f:Nat) (W:Wo),jk W<=f->(iE f W).cR=[]
 |0,W,h=>by
  cases hw:W.cR with
  |nil=>exact hw
  |cons g r=>
   have :=TA g
   unfold jk at h;rw[hw]at h;simp at h;omega
 |f+1,W,h=>by
  unfold iE
  split
  ·assumption
  ·rename_i h1
   have :=y5 h1
   exact Ar f _ ae
theorem Pv(W:Wo):(lS W).cR=[]:=Ar _ W (aD _)
theorem CG:∀(f:Nat) (W:Wo) (d:Nat),jk W<=f->iE (f+d) W=iE f W
 |0,W,d,h=>by
  have h1:W.cR=[]:=Ar 0 W h
  cases d with
  |zero=>rfl
  |succ d=>rw[Nat.zero_add];unfold iE;rw[if_pos h1]
 |f+1,W,d,h=>by
  rw[show f+1+d=f+d+1 by omega]
  unfold iE
  split
  ·rfl
  ·rename_i h1
   have :=y5 h1
   exact CG f _ d ae
theorem r5{W:Wo}(h:W.cR≠[]):lS W=lS (tW W 0):=by
 have h1:=y5 h
 unfold lS
 obtain⟨d,hd⟩:∃d,jk W=jk (tW W 0)+d+1:=⟨jk W-jk (tW W 0)-1,by omega⟩
 rw[hd]
 rw[show iE (jk (tW W 0)+d+1) W=iE (jk (tW W 0)+d) (tW W 0)from by conv=>lhs;unfold iE;rw[if_neg h]]
 exact CG _ _ d (aD _)
theorem rj{W:Wo}(h:W.cR=[]):lS W=W:=by
 unfold lS
 have :jk W=0:=by unfold jk;rw[h];rfl
 rw[this];rfl
theorem uc{c kb:Nat}{W:Wo}(h:c6 c kb W):jk W<=200:=by
 have key:∀l:List Gm,(l.map Mv).sum<=2*l.length:=by
  intro l
  induction l with
  |nil=>simp
  |cons g l ih=>have :Mv g<=2:=by unfold Mv;split<;>decide
                simp;omega
 have :=key W.cR
 have :=h.wl
 unfold jk;omega
theorem c6.Vk{c:Nat}:∀(f:Nat) (kb:Nat) (W:Wo),c6 c kb W->c6 c (kb+2*f) (iE f W)
 |0,_,_,h=>h
 |f+1,kb,W,h=>by
  unfold iE
  split
  ·exact h.mono (aD _) ae
  ·have :=c6.Vk f (kb+2) _ (h.de 0)
   exact this.mono (aD _) ae
theorem c6.XA{c kb:Nat}{W:Wo}(h:c6 c kb W):c6 c (kb+400) (lS W):=(c6.Vk _ kb W h).mono (aD _) (by have :=uc h;omega)
theorem fx(W:Wo)(k:Nat)(x:Ho×Dk):(W.bU k x).hs.length=W.hs.length:=by unfold Wo.bU;simp
theorem C_(W:Wo)(g:Gm):(px W g).hs=W.hs:=by unfold px;split<;>rfl
theorem oC(W:Wo)(dst:Int)(f:Fr)(l:List Ms):(fm W dst f l).hs=W.hs:=by
 unfold fm;split
 ·exact C_ _ _
 ·rfl
theorem ab8(W:Wo)(g:Gm):(vL W g).hs.length=W.hs.length:=by
 unfold vL
 split
 ·exact fx _ _ _
 ·split
  ·rw[oC];exact fx _ _ _
  ·exact fx _ _ _
theorem ab6(W:Wo)(i:Int):(tW W i).hs.length=W.hs.length:=by
 unfold tW;split
 ·exact ab8 _ _
 ·rfl
theorem Pw:∀(f:Nat) (W:Wo),(iE f W).hs.length=W.hs.length
 |0,_=>rfl
 |f+1,W=>by
  unfold iE;split
  ·rfl
  ·rw[Pw f,ab6]
theorem Pu(W:Wo):(lS W).hs.length=W.hs.length:=Pw _ W
theorem UL(W:Wo)(k dst:Int):(yf W k dst).hs.length=W.hs.length:=by
 unfold yf
 split
 ·split
  ·rw[oC];unfold l8;exact fx _ _ _
  ·unfold l8;exact fx _ _ _
 ·rfl
def jt (W:Wo) (k:Nat):Wo:=if(W.H k).down=true then sg (W.bU k (W.H k,cu (W.D k) (-1))) k else W.bU k (W.H k,cu (W.D k) (-1))
def mr (W:Wo) (k dst:Nat):Wo:=if Dj W k dst=0 then lS (yf W k dst)else yf W k dst
def tD (W:Wo):Wo:=lS ((List.range W.hs.length).foldl jt W)
def vn (n:Nat) (W:Wo) (k:Nat):Wo:=(List.range n).foldl (fun W dst=>mr W k dst) W
def oA (W:Wo):Wo:=(List.range W.hs.length).foldl (vn W.hs.length) (tD W)
def calm:Nat->Wo->Wo
 |0,W=>W
 |r+1,W=>calm r (oA W)
theorem KV(W:Wo)(k:Nat):(jt W k).hs.length=W.hs.length:=by
 unfold jt;split
 ·unfold sg;rw[fx,fx]
 ·rw[fx]
theorem ab_(W:Wo)(k dst:Nat):(mr W k dst).hs.length=W.hs.length:=by
 unfold mr;split
 ·rw[Pu,UL]
 ·rw[UL]
theorem wR{α:Type}{f:Wo->α->Wo}(h:∀W a,(f W a).hs.length=W.hs.length):∀(l:List α) (W:Wo),(l.foldl f W).hs.length=W.hs.length
 |[],_=>rfl
 |a::l,W=>by rw[List.foldl_cons,wR h l,h]
theorem Vq(n:Nat)(W:Wo)(k:Nat):(vn n W k).hs.length=W.hs.length:=wR (fun W a=>ab_ W k a) _ W
theorem Vo(W:Wo):(tD W).hs.length=W.hs.length:=by unfold tD;rw[Pu,wR KV]
theorem Vp(W:Wo):(oA W).hs.length=W.hs.length:=by unfold oA;rw[wR (fun W a=>Vq _ W a),Vo]
theorem c6.jt{c kb:Nat}{W:Wo}(h:c6 c kb W)(hK:kb<=1000000000000){k:Nat}(hk:k<W.hs.length):c6 c kb (jt W k):=by
 obtain⟨x,hx,e1,e2⟩:=fS hk
 have hn:=h.n1
 have h1:=h.set (((h.hs _ x hx).cut (n:= -1) ae))
 unfold WB.jt
 rw[e1,e2]
 split
 ·have FY:(W.bU k (x.1,cu x.2 (-1))).hs[k]? =some (x.1,cu x.2 (-1)):=List.getElem?_set_self hk
  obtain⟨y,hy,f1,f2⟩:=fS (W:=W.bU k (x.1,cu x.2 (-1))) (j:=k) (by rw[fx];exact hk)
  rw[FY]at hy
  simp only[az]at hy
  subst hy
  unfold sg
  rw[f2]
  exact h1.set (((h1.hs _ _ FY).cut (n:= -1) ae).cx ae hK)
 ·exact h1
theorem c6.mr{c kb:Nat}{W:Wo}(h:c6 c kb W)(k dst:Nat):c6 c (kb+402) (mr W k dst):=by
 unfold WB.mr
 split
 ·exact(h.se k dst).XA
 ·exact(h.se k dst).mono (aD _) ae
theorem GG{α:Type}{f:Wo->α->Wo}{c b:Nat}(h:∀W a kb,c6 c kb W->c6 c (kb+b) (f W a)):∀(l:List α) (W:Wo) (kb:Nat),c6 c kb W->c6 c (kb+b *l.length) (l.foldl f W)
 |[],_,_,hw=>hw
 |a::l,W,kb,hw=>by
  have :=GG h l _ _ (h W a kb hw)
  rw[List.foldl_cons]
  refine this.mono (aD _) ?_
  rw[List.length_cons,Nat.mul_succ];omega
theorem c6.vn{c kb n:Nat}{W:Wo}(h:c6 c kb W)(k:Nat)(hn:n<=4):c6 c (kb+1608) (vn n W k):=
 (GG (fun W a kb hw=>hw.mr k a) (List.range n) W kb h).mono (aD _) YM
theorem c6.AR{c kb:Nat}(hK:kb<=1000000000000):∀(l:List Nat) (W:Wo),c6 c kb W->(∀k∈l,k<W.hs.length)->c6 c kb (l.foldl WB.jt W)
 |[],_,h,_=>h
 |k::l,W,h,hl=>c6.AR hK l _ (h.jt hK (hl k aj)) fun j hj=>by rw[KV];exact hl j Uv
theorem c6.tD{c kb:Nat}{W:Wo}(h:c6 c kb W)(hK:kb<=1000000000000):c6 c (kb+400) (tD W):=(c6.AR hK _ W h fun k hk=>aO.1 hk).XA
theorem c6.oA{c kb:Nat}{W:Wo}(h:c6 c kb W)(hK:kb<=1000000000000):c6 c (kb+10000) (oA W):=by
 have hn:=h.n1
 have :=GG (fun W' a Ez hw=>hw.vn a hn.2) (List.range W.hs.length) _ _ (h.tD hK)
 refine this.mono (aD _) ?_
 rw[List.length_range];omega
end WB
namespace Go.Proofs.YtjhogocabcdjbabGreatDoor
open Tryz
open Go Go.RowKit WB
theorem lh(w0:World)(M:List HP)(bw:Nat)(V:QF)(W:Wo)(k:Nat)(p:Nat×Nat)(hV:V.ps.length=W.hs.length)(hp:V.ps[k]? =some p):
 KE prog 26 #[bA bw,.int .i64 (k:Nat)] w0 (oi bw V W M) (fun u N=>u=.tuple #[bA p.1,.nilIface]/\N=oi bw V W M):=by
 have hk:=(au.1 hp).1
 have Nb:W.is (k:Int)=true:=by unfold Wo.is;simp;omega
 obtain⟨hv,dv,wv,ps⟩:=V
 dsimp only at hV hp hk
 have kY:(ps.map (·.1))[k]? =some p.1:=by rw[aG,hp];rfl
 refine KE.mk (n:=18) func26 rfl ntmps26 aj ?_
 intro w hw
 obtain⟨a,cap,e1,ha⟩:=aY (hw.pick (A:=Kh hv (ps.map (·.1))) (.tail .head))
 obtain⟨g,rfl⟩:=ha nI
 subst e1
 have Ng:w.cell? ⟨bw,0,none⟩=some (.slice (some ⟨g,0,none⟩) (ps.map (·.1)).length cap):=by rw[World.cell?,hw.look.2];rfl
 refine tG ?_
 refine mS ?_
 refine Z1 ?_
 refine KO.ce (cp:=[]) rfl rfl rfl call78 rfl (((ia w0 _ M bw _ W (k:Int) .head).only (fun w h=>dH (hd:=(.slice (some ⟨g,0,none⟩) (ps.map (·.1)).length cap,dv,none)) ⟨_,dv,wv,ps⟩ hV h rfl ⟨rfl,fun l hl=>by cases hl⟩)).qX hw) ?_;rintro v' L' ⟨rfl,rfl⟩;rw[Nb]
 refine Ee ?_
 refine Z8 ?_
 refine Ul ?_
 refine KO.sE rfl rfl isAgg160 Ng rfl ?_
 refine Z1 ?_
 refine KO.eX (i:=k) rfl rfl runUnderlying160 sizeOf29 rfl nI rfl ?_
 refine KO.aap hw (i:=k) (sz:=1) (cf:=qM) (e:=p.1) rfl rfl isAgg29 (.tail .head) (fun _=>rfl) kY aj aQ rfl ?_
 refine rC ?_
 refine KQ.fp rfl rfl rfl (fun w' hs=>⟨_,_,rfl,⟨rfl,rfl⟩,hw.aE hs.below,hs.below⟩)
theorem EV(w0:World)(L:List HP)(bw c kb:Nat)(hd:Bf)(W:Wo)(hT:qH w0)(hM:qK w0)(hB:c6 c kb W)(hK:kb<=900000000)(hc:c<=4000):
 KC prog 77 #[bA bw] w0 (jJ bw hd W::L) (fun u M=>u=.tuple #[]/\M=jJ bw hd (lS W)::L):=by
 have FZ:=uc hB
 refine KC.mk (n:=10) func77 rfl ntmps77 aj ?_
 repeat((with_reducible refine K.block ?_))
 refine K.loop (fun q:Wo×Nat=>[(0,bA bw)]) (fun q=>jJ bw hd q.1::L) (fun q=>c6 c (kb+2*q.2) q.1/\jk q.1+q.2<=jk W/\lS q.1=lS W) (fun q=>jk q.1) (W,0) ⟨hB,by dsimp only;omega,rfl⟩ ⟨rfl,trivial⟩ (fun _ h=>h) ?_
 rintro⟨W1,m⟩ ⟨h_,hm,hf⟩
 dsimp only at h_ hm hf ⊢
 have ajH:=h_.wl
 refine qq ?_
 refine K.cx (fun _ h=>dM h) ?_
 rintro⟨V,hV,e8,e9⟩
 dsimp only
 obtain⟨hv,dv,wv,ps⟩:=V
 dsimp only at hV ⊢
 refine K.fact (fun w hw=>aY (hw.pick (A:=Ja wv W1.cR) bo)) ?_
 rintro⟨a3,c3,rfl,Ti⟩
 refine kp ?_
 refine Uh ?_
 refine El ?_
 refine vC ?_
 refine Z2 ?_
 refine K.bz rfl (fun h1=>?_) (fun h1=>?_)
 ·have gN:W1.cR≠[]:=by rintro e;rw[e]at h1;simp at h1
  have hs:=y5 gN
  repeat(first|(with_reducible refine KQ.next ?_)|(with_reducible refine K.skip ?_)|(with_reducible refine K.block ?_))
  refine K.conv (fun w hw=>dH (W:=W1) ⟨hv,dv,.slice a3 W1.cR.length c3,ps⟩ hV hw) ?_
  refine Z8 ?_
  refine KO.cl (cp:=[]) rfl rfl rfl call70 rfl (KC.qv bZ (UF w0 _ bw c (kb+2*m) hd W1 0 hT hM h_ ae hc)) ?_;rintro v' L' ⟨rfl,rfl⟩
  refine BB ?_
  refine KQ.round (tW W1 0,m+1) ⟨(h_.de 0).mono (aD _) iK,by dsimp only;omega,by rw[<-hf];exact(r5 gN).symm⟩ iK ⟨rfl,trivial⟩ (fun _ h=>h)
 ·have hn:W1.cR=[]:=by
   cases hh:W1.cR with
   |nil=>rfl
   |cons a l=>rw[hh]at h1;simp at h1
  refine Ur ?_
  refine KQ.j9 rfl (fun w' aX=>⟨_,_,rfl,⟨rfl,rfl⟩,?_⟩)
  rw[<-hf,rj hn]
  exact dH ⟨hv,dv,_,ps⟩ hV aX
theorem MH{W:Wo}{k:Nat}(i:Nat)(hi:i≠k):((jt W k).H i).down=(W.H i).down:=by
 have key:∀(W:Wo) x,((W.bU k x).H i)=W.H i:=fun W x=>by
  unfold Wo.H Wo.at' Wo.bU
  dsimp only
  rw[aq,aq,List.getElem?_set,if_neg (fun e=>hi e.symm)]
 unfold jt
 split
 ·unfold sg
  rw[key,key]
 ·rw[key]
theorem AQ:∀(l:List Nat) (W:Wo) (i:Nat),i∉l->((l.foldl jt W).H i).down=(W.H i).down
 |[],_,_,_=>rfl
 |k::l,W,i,h=>by
  rw[aF,not_or]at h
  rw[List.foldl_cons,AQ l _ i h.2,MH i h.1]
theorem C8(w0:World)(L:List HP)(bw c kb r:Nat)(hd:Bf)(W:Wo)(hN:hd.2.2=none\/(r=1/\∀k,(W.H k).down=false))(hT:qH w0)(hM:qK w0)(hB:c6 c kb W)(hK:kb+10000*r<=800000000)(hr:r<=1000)(hc:c<=4000):
 KC prog 25 #[bA bw,.int .i64 (r:Nat)] w0 (jJ bw hd W::L) (fun u M=>u=.tuple #[]/\M=jJ bw hd (calm r W)::L):=by
 refine KC.mk (n:=63) func25 rfl ntmps25 aj ?_
 repeat((with_reducible refine K.block ?_))
 refine K.loop (fun q:Wo×Nat=>[(0,bA bw),(1,.int .i64 ((r-q.2:Nat):Int))]) (fun q=>jJ bw hd q.1::L) (fun q=>c6 c (kb+10000*q.2) q.1/\q.2<=r/\calm (r-q.2) q.1=calm r W/\(q.2=0->q.1=W)) (fun q=>r-q.2) (W,0) ⟨hB,by dsimp only;omega,rfl,fun _=>rfl⟩ ⟨rfl,rfl,trivial⟩ (fun _ h=>h) ?_
 rintro⟨W1,m⟩ ⟨h_,hm,hf,Pk⟩
 dsimp only at h_ hm hf Pk ⊢
 have gO:=h_.n1
 refine jI ?_
 refine vC ?_
 refine Z2 ?_
 refine K.bz rfl (fun h1=>?_) (fun h1=>?_)
 ·have EB:m<r:=by omega
  refine HU ?_
  refine K.cx (fun _ h=>dM h) ?_
  rintro⟨V,hV,e8,e9⟩
  dsimp only
  obtain⟨hv,dv,wv,ps⟩:=V
  dsimp only at hV e8 e9 ⊢
  refine K.fact (fun w hw=>aY (hw.pick (A:=Kh hv (ps.map (·.1))) bo)) ?_
  rintro⟨a1,c1,rfl,rb⟩
  obtain⟨g1,rfl⟩:=rb nI
  have nL:(ps.map (·.1)).length=W1.hs.length:=by rw[bj,hV]
  rw[nL]at e8 ⊢
  refine Z8 ?_
  refine Ul ?_
  refine Up ?_
  refine ox ?_
  refine K.conv (fun w hw=>dH (hd:=hd) (W:=W1) ⟨.slice (some ⟨g1,0,none⟩) W1.hs.length c1,dv,wv,ps⟩ hV hw) ?_
  clear hV nL rb
  refine K.loop (fun k:Nat=>[(0,bA bw),(1,.int .i64 ((r-m:Nat):Int)),(15,.slice (some ⟨g1,0,none⟩) W1.hs.length c1),(16,.int .i64 (W1.hs.length:Nat)),(17,.int .i64 (k:Nat))]) (fun k=>jJ bw hd ((List.range k).foldl jt W1)::L) (fun k=>k<=W1.hs.length) (fun k=>W1.hs.length-k) 0 (aV _) ⟨rfl,rfl,rfl,rfl,rfl,trivial⟩ (fun _ h=>h) ?_
  intro k hk
  try dsimp only at hk ⊢
  have hBk:c6 c (kb+10000*m) ((List.range k).foldl jt W1):=c6.AR ae _ W1 h_ (fun j hj=>by have :=aO.1 hj;omega)
  have hnk:((List.range k).foldl jt W1).hs.length=W1.hs.length:=wR KV _ _
  have c8:(List.range (k+1)).foldl jt W1=jt ((List.range k).foldl jt W1) k:=by rw[List.range_succ,List.foldl_append];rfl
  generalize hWk:(List.range k).foldl jt W1=Wk at hBk hnk c8 ⊢
  refine iJ ?_
  refine K.bz rfl (fun h2=>?_) (fun h2=>?_)
  ·have np:k<Wk.hs.length:=by omega
   have hnn:=hnk
   refine HU ?_
   refine K.cx (fun _ h=>dM h) ?_
   rintro⟨V,hV,f8,f9⟩
   dsimp only
   obtain⟨rY,Zw,UB,Ex⟩:=V
   dsimp only at hV f8 f9 ⊢
   rw[<-e8]at f8
   subst f8
   obtain⟨x,hx⟩:∃e,Wk.hs[k]? =some e:=⟨_,ao np⟩
   obtain⟨p,hp⟩:∃e,Ex[k]? =some e:=⟨_,ao ae⟩
   obtain⟨eH,eD⟩:=zg hx
   have vI:=hBk.hs k x hx
   have kY:(Ex.map (·.1))[k]? =some p.1:=by rw[aG,hp];rfl
   have ku:(Ex.map (·.2))[k]? =some p.2:=by rw[aG,hp];rfl
   refine K.fact (fun w hw=>aY (hw.pick (A:=Rn Zw (Ex.map (·.2))) bo)) ?_
   rintro⟨a2,c2,rfl,O_⟩
   obtain⟨g2,rfl⟩:=O_ nI
   refine Z8 ?_
   refine acH ?_
   refine Z7 ?_
   refine mS ?_
   refine Yh ?_
   refine Z1 ?_
   refine KO.eX (i:=k) rfl rfl runUnderlying161 sizeOf25 rfl nI rfl ?_
   refine KO.iw (i:=k) (sz:=1) (cf:=qM) (e:=p.2) rfl rfl isAgg25 bo (fun _=>rfl) ku aj aQ rfl ?_
   refine KO.cl (cp:=[]) rfl rfl rfl call18 rfl (KC.nO (φ:=fun u=>u=.tuple #[]) hp hx bo (fun L=>KC.hdD (fun L=>PI w0 L p.2 x.2 (-1) vI.len))) ?_;rintro v' L' ⟨rfl,rfl⟩
   refine Z0 ?_
   have FY:(Wk.hs.set k (x.1,cu x.2 (-1)))[k]? =some (x.1,cu x.2 (-1)):=List.getElem?_set_self np
   refine Z8 ?_
   refine KO.ce (cp:=[]) rfl rfl rfl call76 rfl (KE.GL (φ:=fun u=>u=.bool x.1.down) hp FY bZ (fun L=>KE.perm (fun w hw=>hw.split) (KE.pA (Ks w0 _ _ p.1 p.2 x.1 .head) Y17))) ?_;rintro v' L' ⟨rfl,rfl⟩
   refine Z2 ?_
   have e1:Wk.bU k (Wk.H k,cu (Wk.D k) (-1))=Wk.bU k (x.1,cu x.2 (-1)):=by rw[eH,eD]
   have agh:c6 c (kb+10000*m) (Wk.bU k (x.1,cu x.2 (-1))):=hBk.set (vI.cut ae)
   refine K.conv (fun w hw=>dH (hd:=hd) (W:=Wk.bU k (x.1,cu x.2 (-1))) ⟨.slice (some ⟨g1,0,none⟩) W1.hs.length c1,.slice (some ⟨g2,0,none⟩) (Ex.map (·.2)).length c2,UB,Ex⟩ Y20 (hw.all (M:=bP bw (.cells (Ry ⟨.slice (some ⟨g1,0,none⟩) W1.hs.length c1,.slice (some ⟨g2,0,none⟩) (Ex.map (·.2)).length c2,UB,Ex⟩ Wk).toArray 164 (0,0))::Kh (.slice (some ⟨g1,0,none⟩) W1.hs.length c1) (Ex.map (·.1))::Rn (.slice (some ⟨g2,0,none⟩) (Ex.map (·.2)).length c2) (Ex.map (·.2))::Ja UB Wk.cR::cr vJ Ex (Wk.hs.set k (x.1,cu x.2 (-1)))::L) Y7)) ?_
   cases sq:x.1.down with
   |true=>
    have eC:jt Wk k=Le (Wk.bU k (x.1,cu x.2 (-1))) (k:Int):=by
     unfold jt Le
     rw[if_pos (by rw[eH];exact sq),e1,if_pos (by unfold Wo.is;rw[fx];simp;omega),aA]
    have hN0:hd.2.2=none:=by
     rcases hN with h|⟨h1,h2⟩
     ·exact h
     ·exfalso
      have h3:=AQ (List.range k) W1 k aj
      rw[hWk,eH,sq,Pk ae,h2 k]at h3
      cases h3
    refine xo ?_
    refine ji ?_
    refine KO.cl (cp:=[]) rfl rfl rfl call74 rfl (KC.qv bZ (UD w0 _ bw c (kb+10000*m) hd hN0 _ (k:Int) hT hM agh ae)) ?_;rintro v' L' ⟨rfl,rfl⟩
    refine vD ?_
    refine KQ.round (k+1) ae ae ⟨rfl,rfl,rfl,rfl,rfl,trivial⟩ (fun _ h=>?_)
    rw[c8,eC]
    exact h
   |false=>
    have eC:jt Wk k=Wk.bU k (x.1,cu x.2 (-1)):=by
     unfold jt
     rw[if_neg (by rw[eH,sq];decide),e1]
    refine yA ?_
    refine qD ?_
    refine KQ.round (k+1) ae ae ⟨rfl,rfl,rfl,rfl,rfl,trivial⟩ (fun _ h=>?_)
    rw[c8,eC]
    exact h
  ·have np:k=W1.hs.length:=by omega
   subst np
   refine Z9 ?_
   have hBf:c6 c (kb+10000*m+400) (lS Wk):=hBk.XA
   refine Z8 ?_
   refine KO.cl (cp:=[]) rfl rfl rfl call77 rfl (KC.qv bZ (EV w0 _ bw c (kb+10000*m) hd Wk hT hM hBk ae hc)) ?_;rintro v' L' ⟨rfl,rfl⟩
   refine Z0 ?_
   have eU:lS Wk=tD W1:=by unfold tD;rw[hWk]
   rw[eU]
   have hBu:c6 c (kb+10000*m+400) (tD W1):=h_.tD ae
   have hnu:=Vo W1
   have eR:oA W1=(List.range W1.hs.length).foldl (vn W1.hs.length) (tD W1):=rfl
   generalize tD W1=U at hBu hnu eR ⊢
   refine K.cx (fun _ h=>dM h) ?_
   rintro⟨V,hV,f8,f9⟩
   dsimp only
   obtain⟨rY,Zw,UB,Ex⟩:=V
   dsimp only at hV f8 f9 ⊢
   rw[<-e8]at f8
   subst f8
   refine Z8 ?_
   refine Ul ?_
   refine Up ?_
   refine ox ?_
   refine K.conv (fun w hw=>dH (hd:=hd) (W:=U) ⟨.slice (some ⟨g1,0,none⟩) W1.hs.length c1,Zw,UB,Ex⟩ hV hw) ?_
   clear hV f9
   refine K.loop (fun k:Nat=>[(0,bA bw),(1,.int .i64 ((r-m:Nat):Int)),(42,.int .i64 (W1.hs.length:Nat)),(43,.int .i64 (k:Nat))]) (fun k=>jJ bw hd ((List.range k).foldl (vn W1.hs.length) U)::L) (fun k=>k<=W1.hs.length) (fun k=>W1.hs.length-k) 0 (aV _) ⟨rfl,rfl,rfl,rfl,trivial⟩ (fun _ h=>h) ?_
   intro k hk
   try dsimp only at hk ⊢
   have abM:c6 c (kb+10000*m+400+1608*k) ((List.range k).foldl (vn W1.hs.length) U):=(GG (fun W' a Ez hw=>hw.vn a gO.2) (List.range k) _ _ hBu).mono (aD _) YM
   have afh:((List.range k).foldl (vn W1.hs.length) U).hs.length=W1.hs.length:=by rw[wR (fun W a=>Vq _ W a),hnu]
   have OO:(List.range (k+1)).foldl (vn W1.hs.length) U=vn W1.hs.length ((List.range k).foldl (vn W1.hs.length) U) k:=by rw[List.range_succ,List.foldl_append];rfl
   generalize hY:(List.range k).foldl (vn W1.hs.length) U=Y at abM afh OO ⊢
   refine iJ ?_
   refine K.bz rfl (fun h3=>?_) (fun h3=>?_)
   ·have np:k<W1.hs.length:=by omega
    refine xy ?_
    refine lK ?_
    refine K.cx (fun _ h=>dM h) ?_
    rintro⟨V,hV,f8,f9⟩
    dsimp only
    obtain⟨rY,Zw,UB,Ex⟩:=V
    dsimp only at hV f8 f9 ⊢
    rw[<-e8]at f8
    subst f8
    refine Z8 ?_
    refine Ul ?_
    refine Up ?_
    refine ox ?_
    refine K.conv (fun w hw=>dH (hd:=hd) (W:=Y) ⟨.slice (some ⟨g1,0,none⟩) W1.hs.length c1,Zw,UB,Ex⟩ hV hw) ?_
    clear hV f9
    refine K.loop (fun j:Nat=>[(0,bA bw),(1,.int .i64 ((r-m:Nat):Int)),(6,.int .i64 (k:Nat)),(42,.int .i64 (W1.hs.length:Nat)),(43,.int .i64 (k:Nat)),(50,.int .i64 (W1.hs.length:Nat)),(51,.int .i64 (j:Nat))]) (fun j=>jJ bw hd ((List.range j).foldl (fun W dst=>mr W k dst) Y)::L) (fun j=>j<=W1.hs.length) (fun j=>W1.hs.length-j) 0 (aV _) ⟨rfl,rfl,rfl,rfl,rfl,rfl,rfl,trivial⟩ (fun _ h=>h) ?_
    intro j hj
    try dsimp only at hj ⊢
    have hBj:c6 c (kb+10000*m+400+1608*k+402*j) ((List.range j).foldl (fun W dst=>mr W k dst) Y):=(GG (fun W' a Ez hw=>hw.mr k a) (List.range j) _ _ abM).mono (aD _) YM
    have IP:(List.range (j+1)).foldl (fun W dst=>mr W k dst) Y=mr ((List.range j).foldl (fun W dst=>mr W k dst) Y) k j:=by rw[List.range_succ,List.foldl_append];rfl
    generalize hZ:(List.range j).foldl (fun W dst=>mr W k dst) Y=Z at hBj IP ⊢
    refine iJ ?_
    refine K.bz rfl (fun h4=>?_) (fun h4=>?_)
    ·have ED:j<W1.hs.length:=by omega
     refine xy ?_
     refine mS ?_
     refine nB ?_
     refine KO.cl (cp:=[]) rfl rfl rfl call69 rfl (KC.qv bZ (UC w0 _ bw c (kb+10000*m+400+1608*k+402*j) hd Z (k:Int) (j:Int) hT hM hBj ae hc)) ?_;rintro v' L' ⟨rfl,rfl⟩
     refine JF ?_
     have hBs:=hBj.se (k:Int) (j:Int)
     by_cases he:Dj Z (k:Int) (j:Int)=0
     ·rw[he]
      refine xo ?_
      refine Z8 ?_
      refine KO.cl (cp:=[]) rfl rfl rfl call77 rfl (KC.qv bZ (EV w0 _ bw c _ hd _ hT hM hBs ae hc)) ?_;rintro v' L' ⟨rfl,rfl⟩
      refine vD ?_
      refine KQ.round (j+1) ae ae ⟨rfl,rfl,rfl,rfl,rfl,rfl,rfl,trivial⟩ (fun _ h=>?_)
      rw[IP]
      unfold mr
      rw[if_pos he]
      exact h
     ·refine K.dp rfl (by simp[he]) ?_
      refine qD ?_
      refine KQ.round (j+1) ae ae ⟨rfl,rfl,rfl,rfl,rfl,rfl,rfl,trivial⟩ (fun _ h=>?_)
      rw[IP]
      unfold mr
      rw[if_neg he]
      exact h
    ·have ED:j=W1.hs.length:=by omega
     subst ED
     refine Z73 ?_
     refine Rp ?_
     refine KQ.round (k+1) ae ae ⟨rfl,rfl,rfl,rfl,trivial⟩ (fun _ h=>?_)
     rw[OO]
     unfold vn
     rw[hZ]
     exact h
   ·have np:k=W1.hs.length:=by omega
    subst np
    refine Z73 ?_
    refine Z8 ?_
    refine Hd ?_
    refine xF ?_
    refine KQ.round (oA W1,m+1) ⟨(h_.oA ae).mono (aD _) iK,by dsimp only;omega,?_,fun h=>absurd h (Nat.succ_ne_zero m)⟩ iK ⟨rfl,?_,trivial⟩ (fun _ h=>?_)
    ·dsimp only
     rw[<-hf,show r-m=(r-(m+1))+1 by omega]
     rfl
    ·dsimp only
     rw[show((r-(m+1):Nat):Int)=((r-m:Nat):Int)-1 by omega]
     rfl
    ·dsimp only
     rw[eR,hY]
     exact h
 ·have EB:m=r:=by omega
  subst EB
  refine Ur ?_
  refine KQ.j9 rfl (fun w' aX=>⟨_,_,rfl,⟨rfl,rfl⟩,?_⟩)
  rw[<-hf,Nat.sub_self]
  exact aX
end Go.Proofs.YtjhogocabcdjbabGreatDoor
namespace WB
open Go Go.RowKit
variable {P:Program} {ops:Array Oper} {Q:Exit->Act->World->Prop}
def P4 (ops:Array Oper) (E:List (Nat×Nat)):Bool:=
 let sK:=FG ops.toList []
 MP ops E||(sJ ops sK&&E.any fun q=>E.any fun q'=>via sK q.2 q'.2 q'&&E.any (via sK q'.2 q.1))
theorem Jm{E:List (Nat×Nat)}(hb:fE ops=true){l:List Nat}(hv:Valid ops l)(hE:∀q∈E,∀p s,l=p++q.2::s->q.1∈p)(hm:∀q∈E,q.2∈l)(h:P4 ops E=true):False:=by
 simp only[P4,Bool.or_eq_true]at h
 rcases h with h|h
 ·exact AV hb hv hE hm h
 rw[bn]at h
 obtain⟨ha,h⟩:=h
 obtain⟨q,hq,h⟩:=List.any_eq_true.1 h
 obtain⟨q',Bt,h⟩:=List.any_eq_true.1 h
 rw[bn]at h
 obtain⟨h1,h2⟩:=h
 obtain⟨q'',ae9,h2⟩:=List.any_eq_true.1 h2
 obtain⟨p1,s1,hl⟩:=List.append_of_mem (hm q hq)
 obtain⟨a,b,rfl⟩:=List.append_of_mem (hE q hq p1 s1 hl)
 have h3:=rI hb ha hv (hE q'' ae9) h2 a (b++q.2::s1) JK
 obtain⟨c,d,rfl⟩:=List.append_of_mem h3
 have h4:=rI hb ha hv (hE q' Bt) h1 c (d++q.1::(b++q.2::s1)) JK
 have hn:=hv.1
 rw[hl]at hn
 simp only[aH,bF]at hn
 exact(List.nodup_append.1 hn).2.2 q.2 h4 q.2 aj rfl
def Fz (ops:Array Oper) (ks:List Kd):List (List (Nat×Nat))->List (List Nat)->Bool
 |[],[]=>true
 |E::r,O=>if P4 ops E then Fz ops ks r O else match O with|o::s=>LQ ops ks E o&&Fz ops ks r s|[]=>false
 |_,_=>false
theorem wu{ks:List Kd}{f:List Nat->Prop}{E:List (Nat×Nat)}:∀{W:List (List (Nat×Nat))} {O:List (List Nat)},Fz ops ks W O=true->D9 f O->E∈W->P4 ops E=true\/∃o,LQ ops ks E o=true/\f o
 |[],_,_,_,h=>by cases h
 |F::r,O,h,hf,hE=>by
  cases hB:P4 ops F with
  |true=>
   have h2:Fz ops ks r O=true:=by unfold Fz at h;rw[hB]at h;simpa using h
   rcases aF.1 hE with rfl|hE
   ·exact .inl hB
   ·exact wu h2 hf hE
  |false=>
   unfold Fz at h
   rw[hB]at h
   cases O with
   |nil=>simp at h
   |cons o s=>
    simp only[Bool.false_eq_true,if_false,bn]at h
    rcases aF.1 hE with rfl|hE
    ·exact .inr ⟨o,h.1,hf.1⟩
    ·exact wu h.2 hf.2 hE
theorem ya{id:Nat}{a:Act}{w:World}(ks:List Kd)(X:List (Nat×Nat))(O:List (List Nat))(q_:P.follows .mixedOrders=true)(hX:(fE ops&&X.all fun q=>Nat.blt q.1 ops.size&&(Nat.blt q.2 ops.size&& !(q.1==q.2)))=true)(kZ:Fz ops ks (ways X) O=true)(h:D9 (fun ord=>jd P ops Q (ord.map (item ops ks)) a w.drew) O):(Code.region id ops true).wp P Q a w:=by
 rw[bn]at hX
 obtain⟨hb,hX⟩:=hX
 refine wp_region_draw fun t=>?_
 have hv:Valid ops (Region.schedule (P.follows .mixedOrders) ops t):=jQ _ q_ _ _ fun i o ho d hd=>by
  have hi:i<ops.size:=(Array.getElem?_eq_some_iff.1 ho).1
  have h1:=aJ.1 (aJ.1 hb i (aO.2 hi)) d (by
   have :ops.toList.getD i default=o:=by
    simp[Array.getElem?_eq_getElem hi]at ho ⊢
    simp[ho]
   rw[this];exact hd)
  simpa[Nat.blt_eq]using h1
 generalize Region.schedule (P.follows .mixedOrders) ops t=l at hv ⊢
 obtain⟨E,hE,hEl,hEm⟩:=vR hv.1 X fun q hq=>by
  have :=aJ.1 hX q hq
  simp only[bn,Nat.blt_eq,Bool.not_eq_true',beq_eq_false_iff_ne]at this
  exact⟨(hv.2.1 _).2 this.1,(hv.2.1 _).2 this.2.1,this.2.2⟩
 rcases wu kZ h hE with fG|⟨ord,kZ,h⟩
 ·exact(Jm hb hv hEl hEm fG).elim
 simp only[LQ,bn]at kZ
 obtain⟨hb,ha,fw,dS,hp⟩:=kZ
 refine tg hb ha hv hEl l [] ord rfl (fun x=>?_) hp a _ h
 rw[hv.2.1 x]
 constructor
 ·intro hx;simpa[Nat.blt_eq]using aJ.1 dS x hx
 ·intro hx;exact List.contains_iff_mem.1 (aJ.1 fw x (aO.2 hx))
theorem K.XD{n:Nat}{D:List Deferred}{w0:World}{G:Env}{L:List HP}{id:Nat}(ks:List Kd)(X:List (Nat×Nat))(O:List (List Nat))(q_:P.follows .mixedOrders=true)(hX:(fE ops&&X.all fun q=>Nat.blt q.1 ops.size&&(Nat.blt q.2 ops.size&& !(q.1==q.2)))=true)(kZ:Fz ops ks (ways X) O=true)(h:D9 (fun ord=>KO P ops true Q n D w0 G L (ord.map (item ops ks))) O):K P (.region id ops true) Q n D w0 G L:=fun a _ ha hw=>
 ya ks X O q_ hX kZ (xl (fun _ hh=>hh a _ ha hw.drew) h)
end WB
namespace Go.Proofs.YtjhogocabcdjbabGreatDoor
open Tryz
open Go Go.RowKit WB
theorem KF{α β:Type}{f:α->β->HP}{w0 w:World}{L:List HP}{ps:List α}{xs:List β}{p:α}{x:β}(hl:ps.length=xs.length)(h:St w0 (f p x::cr f ps xs::L) w):St w0 (cr f (ps++[p]) (xs++[x])::L) w:=by
 have h1:=GJ h.gJ
 refine wV ?_
 rw[List.zipWith_append hl,aH]
 exact h1
theorem Nt(w0:World)(L:List HP)(n:Nat)(hT:qH w0)(hM:qK w0)(hn:1<=n/\n<=4):
 KC prog 42 #[.int .i64 (n:Nat)] w0 L (fun u M=> ∃c:Nat×Bf,c.2.2.2=none/\u=.tuple #[bA c.1,.nilIface]/\M=jJ c.1 c.2 (zk n)::L):=by
 have hs:∀k:Nat,(zk (k+1)).hs=(zk k).hs++[(bX (k:Int),bN)]:=fun k=>by unfold zk;dsimp only;rw[List.range_succ,aZ];rfl
 have hln:∀k:Nat,(zk k).hs.length=k:=fun k=>by unfold zk;simp
 refine KC.mk (n:=52) func42 rfl ntmps42 aj ?_
 refine tG ?_
 refine mS ?_
 refine yz ?_
 refine tN ?_
 refine JA ?_
 refine Z2 ?_
 refine K.dp rfl ga ?_
 refine xB ?_
 refine KO.xe (pl:=[(0,1),(1,1),(2,1),(3,1)]) rfl zeroValue164 runUnderlying164 (by intro w;simp[sizeOf3,sizeOf160,sizeOf161,sizeOf162]) aQ rfl ?_
 refine KO.box rfl rfl aQ rfl ?_;intro X0
 refine mS ?_
 refine ox ?_
 refine K.loop (fun q:Nat×QF=>[(0,.int .i64 (n:Nat)),(4,bA X0),(18,.int .i64 (n:Nat)),(19,.int .i64 (q.1:Nat))]) (fun q=>oi X0 q.2 (zk q.1) L) (fun q=>q.1<=n/\q.2.ps.length=q.1/\q.2.wv=.slice none 0 0) (fun q=>n-q.1) (0,⟨.slice none 0 0,.slice none 0 0,.slice none 0 0,[]⟩) ⟨aV _,rfl,rfl⟩ ⟨rfl,rfl,rfl,rfl,trivial⟩ (fun _ h=>?_) ?_
 ·have h1:=wV (f:=vJ) (ps:=[]) (xs:=[]) h
  have h2:=cM (E:=258) (sz:=2) (cf:=Xv) h1
  have h3:=cM (E:=25) (sz:=1) (cf:=qM) h2
  have h4:=cM (E:=29) (sz:=1) (cf:=qM) h3
  exact h4.all Y7
 rintro⟨k,hv,dv,wv,ps⟩ ⟨hk,qB,hwv⟩
 dsimp only at hk qB hwv ⊢
 subst hwv
 refine iJ ?_
 refine K.bz rfl (fun h5=>?_) (fun h5=>?_)
 ·have np:k<n:=by omega
  refine xy ?_
  refine mB ?_
  refine KO.xe (pl:=[(0,300),(300,1),(301,1)]) rfl zeroValue28 runUnderlying28 (by intro w;simp[sizeOf3,sizeOf4,sizeOf26]) aQ rfl ?_
  refine KO.box rfl rfl aQ rfl ?_;intro ru
  refine lK ?_
  refine K.conv (L':=fR ru bN::oi X0 ⟨hv,dv,.slice none 0 0,ps⟩ (zk k) L) (fun w' h=>h) ?_
  refine ji ?_
  refine KO.cl (cp:=[]) rfl rfl rfl call11 rfl (KC.qv bZ (DN w0 _ ru (k:Int) bN hT hM ae PE)) ?_;rintro v' L' ⟨bh,rfl,rfl⟩;rw[N7]
  refine Qc ?_
  refine sx ?_
  refine K.XD [.pure,.pure,.pure,.pure,.pure,.read,.pure,.dm,.write,.pure,.pure,.pure,.read,.pure,.dm,.write,.pure,.pure,.write,.pure,.pure,.write] [(8,12),(8,14),(7,14),(12,14),(7,12)] [[0,1,2,3,4,5,6,9,10,11,13,7,8,12,14,15,16,17,18,19,20,21],[0,1,2,3,4,5,6,9,10,11,13,7,8,14,12,15,16,17,18,19,20,21],[0,1,2,3,4,5,6,9,10,11,13,7,14,8,12,15,16,17,18,19,20,21],[0,1,2,3,4,5,6,9,10,11,13,14,7,8,12,15,16,17,18,19,20,21],[0,1,2,3,4,5,6,9,10,11,13,7,12,8,14,15,16,17,18,19,20,21],[0,1,2,3,4,5,6,9,10,11,12,13,7,8,14,15,16,17,18,19,20,21],[0,1,2,3,4,5,6,9,10,11,13,7,12,14,8,15,16,17,18,19,20,21],[0,1,2,3,4,5,6,9,10,11,12,13,7,14,8,15,16,17,18,19,20,21],[0,1,2,3,4,5,6,9,10,11,13,7,14,12,8,15,16,17,18,19,20,21],[0,1,2,3,4,5,6,9,10,11,12,13,14,7,8,15,16,17,18,19,20,21],[0,1,2,3,4,5,6,9,10,11,13,14,7,12,8,15,16,17,18,19,20,21],[0,1,2,3,4,5,6,9,10,11,13,14,12,7,8,15,16,17,18,19,20,21]] bH bH bH ⟨?_,?_,?_,?_,?_,?_,?_,?_,?_,?_,?_,?_,trivial⟩
  focus
   show KO _ _ _ _ _ _ _ _ _ _
   refine Ec ?_
   refine KO.lY (z:=(Value.pointer none)) (sz:=1) (dP:=8) rfl rfl underlying160 bH aQ aQ ai ai rfl ?_;intro P5
   refine KO.app (cf:=qM) (z:=Value.pointer none) (sz:=1) (dP:=8) (us:=[bA bh]) (xs:=ps.map (·.1)) rfl rfl rfl bo bZ underlying160 bH aQ bh rfl rfl rfl nI ai rfl ?_;intro vh;refine KO.fact (fun _ hs=>aY hs) ?_;rintro⟨ah,kh,rfl,-⟩
   refine K6 ?_
   refine KO.lY (z:=(Value.pointer none)) (sz:=1) (dP:=8) rfl rfl underlying161 bH aQ aQ ai ai rfl ?_;intro Nk
   refine KO.app (cf:=qM) (z:=Value.pointer none) (sz:=1) (dP:=8) (us:=[.pointer (some ⟨ru,0,none⟩)]) (xs:=ps.map (·.2)) rfl rfl rfl bo bZ underlying161 bH aQ ru rfl rfl rfl nI ai rfl ?_;intro vd;refine KO.fact (fun _ hs=>aY hs) ?_;rintro⟨ad,kd,rfl,-⟩
   refine yC ?_
  rotate_left
  focus
   show KO _ _ _ _ _ _ _ _ _ _
   refine Ec ?_
   refine KO.lY (z:=(Value.pointer none)) (sz:=1) (dP:=8) rfl rfl underlying160 bH aQ aQ ai ai rfl ?_;intro P5
   refine KO.app (cf:=qM) (z:=Value.pointer none) (sz:=1) (dP:=8) (us:=[bA bh]) (xs:=ps.map (·.1)) rfl rfl rfl bo bZ underlying160 bH aQ bh rfl rfl rfl nI ai rfl ?_;intro vh;refine KO.fact (fun _ hs=>aY hs) ?_;rintro⟨ah,kh,rfl,-⟩
   refine KO.lY (z:=(Value.pointer none)) (sz:=1) (dP:=8) rfl rfl underlying161 bH aQ aQ ai ai rfl ?_;intro Nk
   refine K6 ?_
   refine KO.app (cf:=qM) (z:=Value.pointer none) (sz:=1) (dP:=8) (us:=[.pointer (some ⟨ru,0,none⟩)]) (xs:=ps.map (·.2)) rfl rfl rfl bo bZ underlying161 bH aQ ru rfl rfl rfl nI ai rfl ?_;intro vd;refine KO.fact (fun _ hs=>aY hs) ?_;rintro⟨ad,kd,rfl,-⟩
   refine yC ?_
  rotate_left
  focus
   show KO _ _ _ _ _ _ _ _ _ _
   refine Ec ?_
   refine KO.lY (z:=(Value.pointer none)) (sz:=1) (dP:=8) rfl rfl underlying160 bH aQ aQ ai ai rfl ?_;intro P5
   refine KO.lY (z:=(Value.pointer none)) (sz:=1) (dP:=8) rfl rfl underlying161 bH aQ aQ ai ai rfl ?_;intro Nk
   refine KO.app (cf:=qM) (z:=Value.pointer none) (sz:=1) (dP:=8) (us:=[bA bh]) (xs:=ps.map (·.1)) rfl rfl rfl bo bo underlying160 bH aQ bh rfl rfl rfl nI ai rfl ?_;intro vh;refine KO.fact (fun _ hs=>aY hs) ?_;rintro⟨ah,kh,rfl,-⟩
   refine K6 ?_
   refine KO.app (cf:=qM) (z:=Value.pointer none) (sz:=1) (dP:=8) (us:=[.pointer (some ⟨ru,0,none⟩)]) (xs:=ps.map (·.2)) rfl rfl rfl bo bo underlying161 bH aQ ru rfl rfl rfl nI ai rfl ?_;intro vd;refine KO.fact (fun _ hs=>aY hs) ?_;rintro⟨ad,kd,rfl,-⟩
   refine yC ?_
  rotate_left
  focus
   show KO _ _ _ _ _ _ _ _ _ _
   refine Ec ?_
   refine KO.lY (z:=(Value.pointer none)) (sz:=1) (dP:=8) rfl rfl underlying161 bH aQ aQ ai ai rfl ?_;intro Nk
   refine KO.lY (z:=(Value.pointer none)) (sz:=1) (dP:=8) rfl rfl underlying160 bH aQ aQ ai ai rfl ?_;intro P5
   refine KO.app (cf:=qM) (z:=Value.pointer none) (sz:=1) (dP:=8) (us:=[bA bh]) (xs:=ps.map (·.1)) rfl rfl rfl bo bZ underlying160 bH aQ bh rfl rfl rfl nI ai rfl ?_;intro vh;refine KO.fact (fun _ hs=>aY hs) ?_;rintro⟨ah,kh,rfl,-⟩
   refine K6 ?_
   refine KO.app (cf:=qM) (z:=Value.pointer none) (sz:=1) (dP:=8) (us:=[.pointer (some ⟨ru,0,none⟩)]) (xs:=ps.map (·.2)) rfl rfl rfl bo bo underlying161 bH aQ ru rfl rfl rfl nI ai rfl ?_;intro vd;refine KO.fact (fun _ hs=>aY hs) ?_;rintro⟨ad,kd,rfl,-⟩
   refine yC ?_
  rotate_left
  focus
   show KO _ _ _ _ _ _ _ _ _ _
   refine Ec ?_
   refine KO.lY (z:=(Value.pointer none)) (sz:=1) (dP:=8) rfl rfl underlying160 bH aQ aQ ai ai rfl ?_;intro P5
   refine K6 ?_
   refine KO.app (cf:=qM) (z:=Value.pointer none) (sz:=1) (dP:=8) (us:=[bA bh]) (xs:=ps.map (·.1)) rfl rfl rfl bo bZ underlying160 bH aQ bh rfl rfl rfl nI ai rfl ?_;intro vh;refine KO.fact (fun _ hs=>aY hs) ?_;rintro⟨ah,kh,rfl,-⟩
   refine KO.lY (z:=(Value.pointer none)) (sz:=1) (dP:=8) rfl rfl underlying161 bH aQ aQ ai ai rfl ?_;intro Nk
   refine KO.app (cf:=qM) (z:=Value.pointer none) (sz:=1) (dP:=8) (us:=[.pointer (some ⟨ru,0,none⟩)]) (xs:=ps.map (·.2)) rfl rfl rfl bo bZ underlying161 bH aQ ru rfl rfl rfl nI ai rfl ?_;intro vd;refine KO.fact (fun _ hs=>aY hs) ?_;rintro⟨ad,kd,rfl,-⟩
   refine yC ?_
  rotate_left
  focus
   show KO _ _ _ _ _ _ _ _ _ _
   refine Uf ?_
   refine K6 ?_
   refine Z1 ?_
   refine KO.lY (z:=(Value.pointer none)) (sz:=1) (dP:=8) rfl rfl underlying160 bH aQ aQ ai ai rfl ?_;intro P5
   refine KO.app (cf:=qM) (z:=Value.pointer none) (sz:=1) (dP:=8) (us:=[bA bh]) (xs:=ps.map (·.1)) rfl rfl rfl bo bZ underlying160 bH aQ bh rfl rfl rfl nI ai rfl ?_;intro vh;refine KO.fact (fun _ hs=>aY hs) ?_;rintro⟨ah,kh,rfl,-⟩
   refine KO.lY (z:=(Value.pointer none)) (sz:=1) (dP:=8) rfl rfl underlying161 bH aQ aQ ai ai rfl ?_;intro Nk
   refine KO.app (cf:=qM) (z:=Value.pointer none) (sz:=1) (dP:=8) (us:=[.pointer (some ⟨ru,0,none⟩)]) (xs:=ps.map (·.2)) rfl rfl rfl bo bZ underlying161 bH aQ ru rfl rfl rfl nI ai rfl ?_;intro vd;refine KO.fact (fun _ hs=>aY hs) ?_;rintro⟨ad,kd,rfl,-⟩
   refine yC ?_
  rotate_left
  focus
   show KO _ _ _ _ _ _ _ _ _ _
   refine Ec ?_
   refine KO.lY (z:=(Value.pointer none)) (sz:=1) (dP:=8) rfl rfl underlying160 bH aQ aQ ai ai rfl ?_;intro P5
   refine K6 ?_
   refine KO.lY (z:=(Value.pointer none)) (sz:=1) (dP:=8) rfl rfl underlying161 bH aQ aQ ai ai rfl ?_;intro Nk
   refine KO.app (cf:=qM) (z:=Value.pointer none) (sz:=1) (dP:=8) (us:=[bA bh]) (xs:=ps.map (·.1)) rfl rfl rfl bo bo underlying160 bH aQ bh rfl rfl rfl nI ai rfl ?_;intro vh;refine KO.fact (fun _ hs=>aY hs) ?_;rintro⟨ah,kh,rfl,-⟩
   refine KO.app (cf:=qM) (z:=Value.pointer none) (sz:=1) (dP:=8) (us:=[.pointer (some ⟨ru,0,none⟩)]) (xs:=ps.map (·.2)) rfl rfl rfl bo bo underlying161 bH aQ ru rfl rfl rfl nI ai rfl ?_;intro vd;refine KO.fact (fun _ hs=>aY hs) ?_;rintro⟨ad,kd,rfl,-⟩
   refine yC ?_
  rotate_left
  focus
   show KO _ _ _ _ _ _ _ _ _ _
   refine Uf ?_
   refine K6 ?_
   refine Z1 ?_
   refine KO.lY (z:=(Value.pointer none)) (sz:=1) (dP:=8) rfl rfl underlying160 bH aQ aQ ai ai rfl ?_;intro P5
   refine KO.lY (z:=(Value.pointer none)) (sz:=1) (dP:=8) rfl rfl underlying161 bH aQ aQ ai ai rfl ?_;intro Nk
   refine KO.app (cf:=qM) (z:=Value.pointer none) (sz:=1) (dP:=8) (us:=[bA bh]) (xs:=ps.map (·.1)) rfl rfl rfl bo bo underlying160 bH aQ bh rfl rfl rfl nI ai rfl ?_;intro vh;refine KO.fact (fun _ hs=>aY hs) ?_;rintro⟨ah,kh,rfl,-⟩
   refine KO.app (cf:=qM) (z:=Value.pointer none) (sz:=1) (dP:=8) (us:=[.pointer (some ⟨ru,0,none⟩)]) (xs:=ps.map (·.2)) rfl rfl rfl bo bo underlying161 bH aQ ru rfl rfl rfl nI ai rfl ?_;intro vd;refine KO.fact (fun _ hs=>aY hs) ?_;rintro⟨ad,kd,rfl,-⟩
   refine yC ?_
  rotate_left
  focus
   show KO _ _ _ _ _ _ _ _ _ _
   refine Ec ?_
   refine KO.lY (z:=(Value.pointer none)) (sz:=1) (dP:=8) rfl rfl underlying160 bH aQ aQ ai ai rfl ?_;intro P5
   refine KO.lY (z:=(Value.pointer none)) (sz:=1) (dP:=8) rfl rfl underlying161 bH aQ aQ ai ai rfl ?_;intro Nk
   refine K6 ?_
   refine KO.app (cf:=qM) (z:=Value.pointer none) (sz:=1) (dP:=8) (us:=[bA bh]) (xs:=ps.map (·.1)) rfl rfl rfl bo bo underlying160 bH aQ bh rfl rfl rfl nI ai rfl ?_;intro vh;refine KO.fact (fun _ hs=>aY hs) ?_;rintro⟨ah,kh,rfl,-⟩
   refine KO.app (cf:=qM) (z:=Value.pointer none) (sz:=1) (dP:=8) (us:=[.pointer (some ⟨ru,0,none⟩)]) (xs:=ps.map (·.2)) rfl rfl rfl bo bo underlying161 bH aQ ru rfl rfl rfl nI ai rfl ?_;intro vd;refine KO.fact (fun _ hs=>aY hs) ?_;rintro⟨ad,kd,rfl,-⟩
   refine yC ?_
  rotate_left
  focus
   show KO _ _ _ _ _ _ _ _ _ _
   refine Uf ?_
   refine K6 ?_
   refine Z1 ?_
   refine KO.lY (z:=(Value.pointer none)) (sz:=1) (dP:=8) rfl rfl underlying161 bH aQ aQ ai ai rfl ?_;intro Nk
   refine KO.lY (z:=(Value.pointer none)) (sz:=1) (dP:=8) rfl rfl underlying160 bH aQ aQ ai ai rfl ?_;intro P5
   refine KO.app (cf:=qM) (z:=Value.pointer none) (sz:=1) (dP:=8) (us:=[bA bh]) (xs:=ps.map (·.1)) rfl rfl rfl bo bZ underlying160 bH aQ bh rfl rfl rfl nI ai rfl ?_;intro vh;refine KO.fact (fun _ hs=>aY hs) ?_;rintro⟨ah,kh,rfl,-⟩
   refine KO.app (cf:=qM) (z:=Value.pointer none) (sz:=1) (dP:=8) (us:=[.pointer (some ⟨ru,0,none⟩)]) (xs:=ps.map (·.2)) rfl rfl rfl bo bo underlying161 bH aQ ru rfl rfl rfl nI ai rfl ?_;intro vd;refine KO.fact (fun _ hs=>aY hs) ?_;rintro⟨ad,kd,rfl,-⟩
   refine yC ?_
  rotate_left
  focus
   show KO _ _ _ _ _ _ _ _ _ _
   refine Ec ?_
   refine KO.lY (z:=(Value.pointer none)) (sz:=1) (dP:=8) rfl rfl underlying161 bH aQ aQ ai ai rfl ?_;intro Nk
   refine KO.lY (z:=(Value.pointer none)) (sz:=1) (dP:=8) rfl rfl underlying160 bH aQ aQ ai ai rfl ?_;intro P5
   refine K6 ?_
   refine KO.app (cf:=qM) (z:=Value.pointer none) (sz:=1) (dP:=8) (us:=[bA bh]) (xs:=ps.map (·.1)) rfl rfl rfl bo bZ underlying160 bH aQ bh rfl rfl rfl nI ai rfl ?_;intro vh;refine KO.fact (fun _ hs=>aY hs) ?_;rintro⟨ah,kh,rfl,-⟩
   refine KO.app (cf:=qM) (z:=Value.pointer none) (sz:=1) (dP:=8) (us:=[.pointer (some ⟨ru,0,none⟩)]) (xs:=ps.map (·.2)) rfl rfl rfl bo bo underlying161 bH aQ ru rfl rfl rfl nI ai rfl ?_;intro vd;refine KO.fact (fun _ hs=>aY hs) ?_;rintro⟨ad,kd,rfl,-⟩
   refine yC ?_
  rotate_left
  focus
   show KO _ _ _ _ _ _ _ _ _ _
   refine Ec ?_
   refine KO.lY (z:=(Value.pointer none)) (sz:=1) (dP:=8) rfl rfl underlying161 bH aQ aQ ai ai rfl ?_;intro Nk
   refine K6 ?_
   refine KO.lY (z:=(Value.pointer none)) (sz:=1) (dP:=8) rfl rfl underlying160 bH aQ aQ ai ai rfl ?_;intro P5
   refine KO.app (cf:=qM) (z:=Value.pointer none) (sz:=1) (dP:=8) (us:=[bA bh]) (xs:=ps.map (·.1)) rfl rfl rfl bo bZ underlying160 bH aQ bh rfl rfl rfl nI ai rfl ?_;intro vh;refine KO.fact (fun _ hs=>aY hs) ?_;rintro⟨ah,kh,rfl,-⟩
   refine KO.app (cf:=qM) (z:=Value.pointer none) (sz:=1) (dP:=8) (us:=[.pointer (some ⟨ru,0,none⟩)]) (xs:=ps.map (·.2)) rfl rfl rfl bo bo underlying161 bH aQ ru rfl rfl rfl nI ai rfl ?_;intro vd;refine KO.fact (fun _ hs=>aY hs) ?_;rintro⟨ad,kd,rfl,-⟩
   refine yC ?_
  rotate_left
  all_goals (
   refine Rp ?_
   refine KQ.round (k+1,⟨.slice ah (ps.map (·.1)++[bh]).length kh,.slice ad (ps.map (·.2)++[ru]).length kd,.slice none 0 0,ps++[(bh,ru)]⟩) ⟨by dsimp only;omega,by dsimp only;rw[aP,qB];rfl,rfl⟩ iK ⟨rfl,rfl,rfl,rfl,trivial⟩ (fun _ h=>?_)
   have e1:(ps++[(bh,ru)]).map (·.1)=ps.map (·.1)++[bh]:=by simp
   have e2:(ps++[(bh,ru)]).map (·.2)=ps.map (·.2)++[ru]:=by simp
   have h0:=h.UR (A:=dL bh ru (bX (k:Int))) (B:=fR ru bN) (C:=cr vJ ps (zk k).hs) bo bo bo
   have h2:=KF (f:=vJ) (p:=(bh,ru)) (x:=(bX (k:Int),bN)) (by rw[qB,hln]) h0.join
   rw[<-hs]at h2
   unfold oi
   dsimp only
   rw[e1,e2]
   exact h2.all Y7)
 ·have np:k=n:=by omega
  subst np
  refine xr ?_
  refine rC ?_
  refine KQ.fp rfl rfl rfl (fun w' aX=>⟨_,_,rfl,⟨(X0,(hv,dv,none)),rfl,rfl,rfl⟩,?_⟩)
  exact dH (hd:=(hv,dv,none)) ⟨hv,dv,_,ps⟩ (by rw[hln];exact qB) aX rfl ⟨rfl,fun l hl=>by cases hl⟩
end Go.Proofs.YtjhogocabcdjbabGreatDoor
namespace WB
open Go
def nG (H:Ho) (m:Ms):Nat:=if m.cq≠H.id then m.cq.toNat else 4+(H.qI m.queue).getD 0
theorem fF{H H':Ho}(h:cb H'=cb H)(hi:H'.id=H.id)(m:Ms):nG H' m=nG H m:=by unfold nG;rw[cG h,hi]
theorem B7{n:Nat}{H:Ho}(hB:cK n H){m:Ms}(hr:bT m=true)(hq:m.cq=H.id->∃i,H.qI m.queue=some i):∃H1,fM H m=some H1/\(hv H1).Perm (⟨nG H m,m,-1,-1⟩::hv H)/\cb H1=cb H/\H1.names=H.names/\H1.next=max H.next (m.id/4+1)/\nT H H1:=by
 by_cases hm:m.cq=H.id
 ·obtain⟨i,hi⟩:=hq hm
  obtain⟨H1,a,b,c,d,-,e,f⟩:=NZ hB hm hi
  have hj:nG H m=4+i:=by unfold nG;rw[if_neg (by rw[hm];simp),hi];rfl
  rw[hj]
  exact⟨H1,a,b,c,d,e,f⟩
 ·obtain⟨m1,m2,m3,m4,-,-,m7,m8⟩:=bV hr
  let H0:Ho:={H with next:=max H.next (m.id/4+1)}
  have hj:m.cq.toNat<4:=by omega
  refine⟨H0.gK m.cq.toNat (db (H0.dy m.cq.toNat) m (-1)),?_,?_,rfl,rfl,rfl,⟨rfl,rfl,rfl,rfl,rfl,rfl,rfl,rfl⟩⟩
  ·unfold fM
   dsimp only
   rw[if_pos hm];rfl
  ·unfold hv
   rw[km (H:=H0) (by rw[show H0.ways=H.ways from rfl,hB.ways];exact hj)]
   have Hx:nG H m=m.cq.toNat:=by unfold nG;rw[if_pos hm]
   rw[Hx]
   have :=uh (l:=H0.all) m (-1) (iH (H:=H0) hB.ways hj)
   exact this
theorem rO{n:Nat}:∀(l:List Ms) {H:Ho},cK n H->(∀m∈l,bT m=true/\(m.cq=H.id->∃i,H.qI m.queue=some i))->
 ∃H1,ef H l=(H1,true)/\(hv H1).Perm (l.map (fun m=>(⟨nG H m,m,-1,-1⟩:En))++hv H)/\cb H1=cb H/\H1.names=H.names/\nT H H1/\H.next<=H1.next/\(∀m∈l,m.id/4<H1.next)/\(∀k:Int,H.next<=k->(∀m∈l,m.id/4<k)->H1.next<=k)/\cK (n+l.length) H1
 |[],H,hB,_=>⟨H,rfl,.refl _,rfl,rfl,.refl _,Int.le_refl _,(fun m hm=>by cases hm),(fun k h _=>h),hB⟩
 |m::l,H,hB,h=>by
  obtain⟨hr,hm⟩:=h m aj
  obtain⟨H1,e1,p1,k1,n1,x1,s1⟩:=B7 hB hr hm
  have h_:=hB.Sc hr e1
  obtain⟨H2,e2,p2,k2,n2,s2,x2,y2,z2,tV⟩:=rO (n:=n+1) l h_ fun m' tt=>by
   obtain⟨a,b⟩:=h m' (by simp[tt])
   exact⟨a,fun hh=>by rw[cG k1];exact b (by rw[hh,s1.id])⟩
  refine⟨H2,?_,?_,k2.trans k1,n2.trans n1,s1.trans s2,by omega,fun m' tt=>?_,fun k hk hl=>z2 k (by rw[x1];have :=hl m aj;omega) fun m' tt=>hl m' (by simp[tt]),tV.le ga⟩
  ·rw[ef,e1];exact e2
  ·refine p2.trans ?_
   rw[aL]
   have :(l.map fun m'=>(⟨nG H1 m',m',-1,-1⟩:En))=l.map fun m'=>⟨nG H m',m',-1,-1⟩:=by
    apply List.map_congr_left
    intro m' _
    rw[fF k1 s1.id]
   rw[this]
   refine((List.Perm.refl _).append p1).trans ?_
   rw[bF]
   exact List.perm_middle
  ·rcases aF.1 tt with rfl|tt
   ·omega
   ·exact y2 m' tt
theorem CP{n:Nat}{H:Ho}{x:pg}(hB:cK n H)(hx:iL x)(hn:((hv H).map eO).Nodup)(hp:∀p∈x.aM,p.1.cq=H.id->∃i,H.qI p.1.queue=some i)(hpn:(x.aM.map fun p=>p.1.id).Nodup)(hpf:∀p∈x.aM,∀e∈hv H,eO e≠p.1.id)(U7:(x.bu.map (·.1)).Nodup)(hg:∀g∈x.bu,∃i,H.qI g.2=some i/\∃e∈hv H,e.j=4+i/\eO e=g.1):
 ∃H1,eZ H (qu x)=(H1,true)/\(hv H1).Perm ((x.aM.map (fun p=>(⟨nG H p.1,p.1,-1,-1⟩:En))++hv H).filter fun e=> !decide (eO e∈x.bu.map (·.1)))/\cb H1=cb H/\H1.names=H.names/\nT H H1/\H.next<=H1.next/\(∀p∈x.aM,p.1.id/4<H1.next)/\(∀k:Int,H.next<=k->(∀p∈x.aM,p.1.id/4<k)->H1.next<=k)/\cK (n+x.aM.length) H1:=by
 obtain⟨H1,e1,p1,k1,n1,s1,x1,y1,z1,h_⟩:=rO (x.aM.map (·.1)) hB fun m hm=>by
  obtain⟨p,Cq,rfl⟩:=ay.1 hm
  exact⟨hx.aM p Cq,hp p Cq⟩
 rw[List.map_map]at p1
 have y2:∀p∈x.aM,p.1.id/4<H1.next:=fun p hp=>y1 _ (List.mem_map_of_mem (f:=(·.1)) hp)
 have z2:∀k:Int,H.next<=k->(∀p∈x.aM,p.1.id/4<k)->H1.next<=k:=fun k hk h=>z1 k hk fun m hm=>by
  obtain⟨p,Cq,rfl⟩:=ay.1 hm
  exact h p Cq
 rw[bj]at h_
 have EA:((hv H1).map eO).Nodup:=by
  refine(p1.map eO).nodup_iff.2 ?_
  rw[aZ,List.map_map,List.nodup_append]
  refine⟨?_,hn,fun a ha b hb=>?_⟩
  ·exact hpn
  ·obtain⟨p,Cq,rfl⟩:=ay.1 ha
   obtain⟨e,he,rfl⟩:=ay.1 hb
   exact fun e2=>hpf p Cq e he e2.symm
 have EE:eZ H (qu x)=if dn (x.bu.map iR) plus=⟨#[]⟩then(H1,true)else iz H1 (dE 43 (dn (x.bu.map iR) plus)):=by
  unfold eZ
  have S5:=hx.read
  rw[hx.cut]at S5 ⊢
  dsimp only at S5 ⊢
  rw[if_neg aj,S5]
  dsimp only
  rw[e1]
  rfl
 by_cases h0:x.bu=[]
 ·refine⟨H1,?_,?_,k1,n1,s1,x1,y2,z2,h_⟩
  ·rw[EE,h0];rfl
  ·rw[h0]
   refine p1.trans ?_
   rw[aT.2 (fun a _=>by simp)]
   exact .refl _
 ·obtain⟨t1,t2⟩:=Mw (fun g hg=>(hx.bu g hg).2.2) h0
  rw[if_neg t1,t2]at EE
  obtain⟨H2,e2,p2,k2,n2,w2,x2,s2,tV⟩:=GD x.bu h_ EA U7 fun g hg'=>by
   obtain⟨i,hi,e,he,hj,hid⟩:=hg g hg'
   exact⟨hx.bu g hg',i,by rw[cG k1];exact hi,e,p1.mem_iff.2 (List.mem_append_right _ he),hj,hid⟩
  exact⟨H2,EE.trans e2,p2.trans (p1.filter _),k2.trans k1,n2.trans n1,s1.trans s2,by omega,fun p hp=>by rw[x2];exact y2 p hp,fun k a b=>by rw[x2];exact z2 k a b,tV⟩
theorem E_{α:Type}{l:List α}{j:Nat}{q:α}(h:l[j]? =some q):l.set j q=l:=by
 apply List.ext_getElem?
 intro i
 rw[List.getElem?_set]
 split
 ·rename_i e
  rw[if_pos (au.1 h).1,<-e,h]
 ·rfl
theorem NH{l:List Qu}{j:Nat}{q:Qu}{a:Int}(h:l[j]? =some q)(hn:((vw l).map eO).Nodup)(hj:∀e∈vw l,eO e=a->e.j=j):(vw (l.set j (eA q a))).Perm ((vw l).filter fun e=> !decide (eO e=a)):=by
 cases hk:om q a with
 |none=>
  have e1:eA q a=q:=by unfold eA;rw[hk]
  rw[e1,E_ h,aT.2]
  intro e he
  have h2:eO e≠a:=fun e2=>by
   obtain⟨q',h3,x,hx,hex⟩:=fH.1 he
   rw[hj e he e2,h]at h3
   simp only[az]at h3
   subst h3
   unfold om at hk
   rw[List.findIdx?_eq_none_iff]at hk
   have :=hk x hx
   unfold DJ at this
   have h4:x.m.id=a:=by rw[<-e2,hex];rfl
   simp[h4]at this
  simpa using h2
 |some k=>
  obtain⟨uX,Kk,-⟩:=List.findIdx?_eq_some_iff_getElem.1 hk
  have Kj:q.l[k]? =some q.l[k]:=ao uX
  have W3:(q.l[k]).m.id=a:=by unfold DJ at Kk;simpa using Kk
  have e1:eA q a=⟨q.l.eraseIdx k,q.next⟩:=by unfold eA;rw[hk]
  rw[e1]
  have :=CL hn (EY h Kj q.next)
  rw[show eO (gE j q.l[k])=a from W3]at this
  exact this
theorem BU{j:Nat}:∀(b:List Int) {l:List Qu} {q:Qu},l[j]? =some q->((vw l).map eO).Nodup->(∀e∈vw l,eO e∈b->e.j=j)->(vw (l.set j (cN q b))).Perm ((vw l).filter fun e=> !decide (eO e∈b))
 |[],l,q,h,hn,hj=>by
  rw[show cN q []=q from rfl,E_ h,aT.2 (fun _ _=>by simp)]
 |a::b,l,q,h,hn,hj=>by
  have dS:=(au.1 h).1
  have p1:=NH (a:=a) h hn fun e he e2=>hj e he (by simp[e2])
  have h1:(l.set j (eA q a))[j]? =some (eA q a):=by rw[List.getElem?_set_self dS]
  have EA:((vw (l.set j (eA q a))).map eO).Nodup:=(p1.map eO).nodup_iff.2 (hn.sublist (List.filter_sublist.map _))
  have p2:=BU b h1 EA fun e he e2=>hj e (aC.1 (p1.mem_iff.1 he)).1 (by simp[e2])
  rw[List.set_set]at p2
  refine p2.trans ((p1.filter _).trans (List.Perm.of_eq ?_))
  rw[bp]
  refine List.filter_congr fun x _=>?_
  by_cases h1:eO x=a<;>by_cases h2:eO x∈b<;>simp[h1,h2]
theorem mP{n:Nat}:∀(l:List (Ms×ak)) {H:Ho},cK n H->(∀x∈l,((0<=x.1.pri/\x.1.pri<=9)/\0<=x.1.id/\x.1.id<=1099511627776)/\∃i,H.qI x.2=some i)->
 ∃H1,dO H l=(H1,true)/\(hv H1).Perm (l.map (fun x=>(⟨4+(H.qI x.2).getD 0,x.1,-1,-1⟩:En))++hv H)/\cb H1=cb H/\H1.names=H.names/\H1.next=H.next/\nT H H1/\cK (n+l.length) H1
 |[],H,hB,_=>⟨H,rfl,.refl _,rfl,rfl,rfl,.refl _,hB⟩
 |(m,t)::l,H,hB,h=>by
  obtain⟨hm,i,hi⟩:=h (m,t) aj
  have qn:=(ik hi).1
  have h_:=(hB.le (Nat.le_succ n)).fB ((hB.qa qn).sY hm.1 hm.2 (-1)) i
  have p1:(hv (H.fB i (db (H.ec i) m (-1)))).Perm (⟨4+i,m,-1,-1⟩::hv H):=by
   unfold hv
   rw[ko hB.ways]
   exact uh m (-1) (K2 hB qn)
  have k1:cb (H.fB i (db (H.ec i) m (-1)))=cb H:=by unfold cb;exact jN i _
  obtain⟨H2,e2,p2,k2,n2,x2,s2,tV⟩:=mP (n:=n+1) l h_ fun x hx=>by
   obtain⟨a,j,b⟩:=h x yK
   exact⟨a,j,by rw[cG k1];exact b⟩
  refine⟨H2,?_,?_,k2.trans k1,n2,x2,nT.trans (B:=H.fB i (db (H.ec i) m (-1))) ⟨rfl,rfl,rfl,rfl,rfl,rfl,rfl,rfl⟩ s2,tV.le ga⟩
  ·rw[dO,hi];exact e2
  ·refine p2.trans ?_
   have :(l.map fun x=>(⟨4+((H.fB i (db (H.ec i) m (-1))).qI x.2).getD 0,x.1,-1,-1⟩:En))=l.map fun x=>⟨4+(H.qI x.2).getD 0,x.1,-1,-1⟩:=by
    apply List.map_congr_left
    intro x _
    rw[cG k1]
   rw[this,aL]
   dsimp only
   rw[hi,Option.getD_some,bF]
   refine((List.Perm.refl _).append p1).trans ?_
   exact List.perm_middle
theorem Cm{l:List Int}(h0:l≠[])(h:∀x∈l,oR x):qi (dn (l.map b_) sp)=some l:=by
 unfold qi
 rw[show(sp:ak)=cv 32 from rfl,wj ZL (fun p hp=>by
  obtain⟨n,-,rfl⟩:=ay.1 hp
  exact fX _ ai)]
 clear h0
 induction l with
 |nil=>rfl
 |cons a l ih=>
  rw[aL,List.mapM_cons,iQ (h a aj),ih fun x hx=>h x yK]
  rfl
theorem n_{H:Ho}{k a:Int}{r:List Int}(hr:cj H k=true)(hi:∀x∈a::r,oR x):
 ck H (iU k (a::r))=({H with batch:=H.batch.set k.toNat (a::r),bW:=H.bW.set k.toNat (bD H k.toNat+1)},true):=by
 have h4:=bM.1 hr
 have e:qi (dn ((k::a::r).map b_) sp)=some (k::a::r):=Cm aj fun x hx=>by
  rcases aF.1 hx with rfl|hx
  ·exact⟨by omega,by omega⟩
  ·exact hi x hx
 unfold ck iU
 rw[nU ai]
 dsimp only
 rw[if_neg ai,if_neg ai,if_neg ai,if_pos rfl]
 unfold iy
 rw[e]
 dsimp only
 rw[if_pos hr]
theorem me{H:Ho}{k:Int}(hr:cj H k=true):
 ck H (qW k)=({H.gK k.toNat (cN (H.dy k.toNat) (bm H k.toNat))with batch:=H.batch.set k.toNat []},true):=by
 have h4:=bM.1 hr
 have e:qi (b_ k)=some [k]:=by
  have :=Cm (l:=[k]) aj (fun x hx=>by simp at hx;subst hx;exact⟨by omega,by omega⟩)
  rwa [aL,List.map_nil,kJ]at this
 unfold ck qW
 rw[nU ai]
 dsimp only
 rw[if_neg ai,if_neg ai,if_neg ai,if_neg ai,if_pos rfl]
 unfold ft
 rw[e]
 dsimp only
 rw[if_pos hr]
theorem LK{l:List Ms}{t:List ak}(ht:∀x∈t,dw x=true)(dS:t.length=l.length):l.zip (dE 43 (dn t plus))=l.zip t:=by
 by_cases h0:t=[]
 ·subst h0
  have :l=[]:=by simpa using dS.symm
  subst this;rfl
 ·rw[B8 h0 ht]
theorem oa{H:Ho}{k:Int}{l:List Ms}{t:List ak}{H1:Ho}(hr:cj H k=true)(h:ju l=none)(ht:∀x∈t,dw x=true)(dS:t.length=l.length)(h1:dO H (l.zip t)=(H1,true)):
 ck H (sV k l t)=({H1 with aK:=H.aK.set k.toNat (bY H k.toNat+1)},true):=by
 have h4:=bM.1 hr
 have hp:=zF (k:=k) (dG h) ht
 have hc:di 58 (sV k l t)=(cv 114,b_ k++cv 47++(cF l++cv 47++dn t plus),true):=by unfold sV;exact nU ai _
 unfold ck
 rw[hc]at hp ⊢
 dsimp only at hp ⊢
 rw[if_neg ai,if_neg ai,if_neg ai,if_neg ai,if_neg ai,if_pos rfl]
 unfold iD
 rw[hp]
 dsimp only
 rw[iQ ⟨by omega,by omega⟩,rT h]
 dsimp only
 rw[if_pos hr,LK ht dS,h1]
 dsimp only
 rw[if_pos rfl]
structure Cr where
 bg:List (Nat×Ms)
 bt:Nat->List Int
 sn:Nat->Int
 av:Nat->Int
 nx:Int
def eQ (C:Nat->Cr) (k:Nat) (c:Cr):Nat->Cr:=fun i=>if i=k then c else C i
theorem cY(C:Nat->Cr)(k:Nat)(c:Cr):eQ C k c k=c:=if_pos rfl
theorem da{C:Nat->Cr}{k i:Nat}{c:Cr}(h:i≠k):eQ C k c i=C i:=if_neg h
def pd (y:Nat×Ms):Int:=y.2.id
def vM (n:Nat) (C:Nat->Cr) (k d:Nat):Bool:=decide ((C k).bt d≠[]/\d<n/\(C k).sn d<=(C d).av k)
def gH (n:Nat) (C:Nat->Cr) (k:Nat) (y:Nat×Ms):Bool:=decide (4<=y.1)||(decide (y.1≠k)&& !(vM n C k y.1&&decide (pd y∈(C k).bt y.1)))
def view (n:Nat) (C:Nat->Cr) (k:Nat):List Ms:=((C k).bg.filter (gH n C k)).map (·.2)
def yo (n:Nat) (C:Nat->Cr):List Ms:=(List.range n).flatMap (view n C)
def rq (c:Cr) (d:Nat) (y:Nat×Ms):Bool:=decide (y.1=d)&&decide (pd y∈c.bt d)
def sw (c:Cr) (d:Nat):List Ms:=(c.bg.filter (rq c d)).map (·.2)
structure Ht (n:Nat) (C:Nat->Cr) (g:Gm):Prop where
 ok:∃a b:Nat,g.f.fa=(a:Int)/\g.dto=(b:Int)/\a<n/\b<n/\a≠b/\
  (g.f.vN=true->g.f.num<=(C a).av b)/\
  (g.f.vN=false->g.f.num<=(C a).sn b/\(g.f.num=(C a).sn b->(C b).av a<g.f.num->(C a).bt b≠[]/\g.l.Perm (sw (C a) b)))
structure GC (n:Nat) (C:Nat->Cr) (cR:List Gm) (T:List Ms):Prop where
 Kc:(yo n C).Perm T
 tn:(T.map (·.id)).Nodup
 V8:∀m∈T,∃o:Nat,o<n/\m.id%4=(o:Int)/\m.id/4<(C o).nx
 oy:∀k,k<n->((C k).bg.map pd).Nodup
 bin:∀k,k<n->∀d,∀i∈(C k).bt d,d<4/\∃y∈(C k).bg,y.1=d/\pd y=i
 pr:∀k d,k<n->d<n->k≠d->(C d).av k<=(C k).sn d/\(C k).sn d<=(C d).av k+1/\((C k).bt d=[]->(C d).av k=(C k).sn d)
 fr:∀g∈cR,Ht n C g
theorem wS{α:Type}{n k:Nat}(hk:k<n)(f:Nat->List α):∃R,∀f':Nat->List α,(∀i,i≠k->f' i=f i)->((List.range n).flatMap f').Perm (f' k++R):=by
 have hp:(List.range n).Perm (k::(List.range n).erase k):=List.perm_cons_erase (aO.2 hk)
 have hn:=hp.nodup_iff.1 List.nodup_range
 rw[bI]at hn
 refine⟨((List.range n).erase k).flatMap f,fun f' h=>?_⟩
 refine(hp.flatMap_right f').trans (List.Perm.of_eq ?_)
 rw[aR]
 congr 1
 exact DV fun i hi=>h i fun e=>hn.1 (e▸hi)
where DV {α:Type} {f g:Nat->List α}:∀{l:List Nat},(∀x∈l,f x=g x)->l.flatMap f=l.flatMap g
 |[],_=>rfl
 |a::l,h=>by rw[aR,aR,h a aj,DV fun x hx=>h x yK]
theorem CJ{α:Type}{n k d:Nat}(hk:k<n)(hd:d<n)(O8:k≠d)(f:Nat->List α):∃R,∀f':Nat->List α,(∀i,i≠k->i≠d->f' i=f i)->((List.range n).flatMap f').Perm (f' k++(f' d++R)):=by
 have hp:(List.range n).Perm (k::(List.range n).erase k):=List.perm_cons_erase (aO.2 hk)
 have hn:=hp.nodup_iff.1 List.nodup_range
 rw[bI]at hn
 have Tk:d∈(List.range n).erase k:=by
  rcases aF.1 (hp.mem_iff.1 (aO.2 hd))with e|e
  ·exact absurd e.symm O8
  ·exact e
 have ku:=List.perm_cons_erase Tk
 have Cw:=ku.nodup_iff.1 hn.2
 rw[bI]at Cw
 refine⟨(((List.range n).erase k).erase d).flatMap f,fun f' h=>?_⟩
 refine((hp.trans (ku.cons k)).flatMap_right f').trans (List.Perm.of_eq ?_)
 rw[aR,aR]
 congr 2
 exact wS.DV fun i hi=>h i (fun e=>hn.1 (e▸ku.mem_iff.2 (List.mem_cons_of_mem _ hi))) fun e=>Cw.1 (e▸hi)
theorem pR{α β:Type}{f:α->β}{l:List α}(h:(l.map f).Nodup){x y:α}(hx:x∈l)(hy:y∈l)(e:f x=f y):x=y:=by
 induction l with
 |nil=>cases hx
 |cons a l ih=>
  rw[aL,bI]at h
  rcases aF.1 hx with h1|h1<;>rcases aF.1 hy with h2|h2
  ·rw[h1,h2]
  ·exact absurd (by rw[<-h1,e];exact List.mem_map_of_mem (f:=f) h2) h.1
  ·exact absurd (by rw[<-h2,<-e];exact List.mem_map_of_mem (f:=f) h1) h.1
  ·exact ih h.2 h1 h2
theorem GC.sub{n:Nat}{C:Nat->Cr}{cR ud:List Gm}{T:List Ms}(h:GC n C cR T)(hw:∀g∈ud,g∈cR\/Ht n C g):GC n C ud T:=
 ⟨h.Kc,h.tn,h.V8,h.oy,h.bin,h.pr,fun g hg=>(hw g hg).elim (h.fr g) id⟩
theorem GC.perm{n:Nat}{C:Nat->Cr}{cR:List Gm}{T T':List Ms}(h:GC n C cR T)(hT:T.Perm T'):GC n C cR T':=
 ⟨h.Kc.trans hT,(hT.map _).nodup_iff.1 h.tn,fun m hm=>h.V8 m (hT.mem_iff.2 hm),h.oy,h.bin,h.pr,h.fr⟩
section
variable {n k d:Nat} {C:Nat->Cr} {cR:List Gm} {T:List Ms} {c:Cr}
theorem py{C':Nat->Cr}{i:Nat}(h1:(C' i).bg=(C i).bg)(h2:∀y,gH n C' i y=gH n C i y):view n C' i=view n C i:=by
 unfold view
 rw[h1]
 congr 1
 exact List.filter_congr fun y _=>h2 y
theorem GC.kO(h:GC n C cR T)(hk:k<n){P:List (Nat×Ms)}{G:List Int}(xZ:c.bg.Perm ((P++(C k).bg).filter fun y=> !decide (pd y∈G)))(sI:c.bt=(C k).bt)(Cn:c.sn=(C k).sn)(x4:c.av=(C k).av)(tT:(C k).nx<=c.nx)(hP:∀y∈P,(4<=y.1\/y.1≠k)/\pd y%4=(k:Int)/\pd y/4<c.nx)(hPn:(P.map pd).Nodup)(hPf:∀y∈P,pd y∉T.map (·.id))(hPb:∀y∈P,pd y∉(C k).bg.map pd)(hG:∀i∈G,∃y∈(C k).bg,4<=y.1/\pd y=i):
 GC n (eQ C k c) cR ((P.map (·.2)++T).filter fun m=> !decide (m.id∈G)):=by
 have e1:∀a,(eQ C k c a).bt=(C a).bt:=fun a=>by by_cases e:a=k;(rw[e,cY,sI]);(rw[da e])
 have e2:∀a,(eQ C k c a).sn=(C a).sn:=fun a=>by by_cases e:a=k;(rw[e,cY,Cn]);(rw[da e])
 have e3:∀a,(eQ C k c a).av=(C a).av:=fun a=>by by_cases e:a=k;(rw[e,cY,x4]);(rw[da e])
 have uZ:∀a b,vM n (eQ C k c) a b=vM n C a b:=fun a b=>by unfold vM;rw[e1,e2,e3]
 have Ah:∀a y,gH n (eQ C k c) a y=gH n C a y:=fun a y=>by unfold gH;rw[uZ,e1]
 have hPt:∀y∈P,∀b,pd y∉(C k).bt b:=fun y hy b hb=>by
  obtain⟨-,z,hz,-,e⟩:=h.bin k hk b _ hb
  exact hPb y hy (e▸bO hz)
 have hPv:∀y∈P,gH n C k y=true:=fun y hy=>by
  unfold gH
  rcases(hP y hy).1 with h1|h1
  ·simp[h1]
  ·simp[h1,hPt y hy]
 obtain⟨R,hR⟩:=wS hk (view n C)
 have hV:=hR (view n C) fun _ _=>rfl
 have Rb:=hR (view n (eQ C k c)) fun i hi=>py (by rw[da hi]) (Ah i)
 have nN:(((view n C k++R)).map (·.id)).Nodup:=(((hV.symm.trans h.Kc).map (·.id)).nodup_iff).2 h.tn
 have hvk:(view n (eQ C k c) k).Perm ((P.map (·.2)++view n C k).filter fun m=> !decide (m.id∈G)):=by
  unfold view
  rw[cY]
  refine((xZ.filter _).map _).trans (List.Perm.of_eq ?_)
  rw[show(gH n (eQ C k c) k)=gH n C k from funext (Ah k)]
  have :(P.map (·.2)++(((C k).bg.filter (gH n C k)).map (·.2)))=((P++(C k).bg).filter (gH n C k)).map (·.2):=by
   rw[bB,aZ,aT.2 hPv]
  rw[this,List.filter_map,bp,bp]
  congr 1
  apply List.filter_congr
  intro y _
  rw[Bool.and_comm];rfl
 have hRG:R.filter (fun m=> !decide (m.id∈G))=R:=by
  rw[aT]
  intro m hm
  have :m.id∉G:=fun hg=>by
   obtain⟨y,hy,h4,e⟩:=hG _ hg
   have hyV:y.2∈view n C k:=by
    unfold view
    exact bO (aC.2 ⟨hy,by unfold gH;simp[h4]⟩)
   rw[aZ,List.nodup_append]at nN
   exact nN.2.2 _ (List.mem_map_of_mem (f:=(·.id)) hyV) _ (List.mem_map_of_mem (f:=(·.id)) hm) e
  simpa using this
 have O5:(yo n (eQ C k c)).Perm ((P.map (·.2)++T).filter fun m=> !decide (m.id∈G)):=by
  refine Rb.trans ((hvk.append_right R).trans ?_)
  have h5:((P.map (·.2)++T).filter fun m=> !decide (m.id∈G)).Perm ((P.map (·.2)++(view n C k++R)).filter fun m=> !decide (m.id∈G)):=
   List.Perm.filter _ ((List.Perm.refl _).append (h.Kc.symm.trans hV))
  refine List.Perm.trans (List.Perm.of_eq ?_) h5.symm
  rw[<-aH,List.filter_append (l₁:=List.map (fun x=>x.snd) P++view n C k),hRG]
 refine⟨O5,?_,fun m hm=>?_,fun a ha=>?_,fun a ha b i hi=>?_,fun a b ha hb vK=>?_,fun g hg=>?_⟩
 ·refine List.Nodup.sublist (List.filter_sublist.map _) ?_
  rw[aZ,List.map_map,List.nodup_append]
  refine⟨hPn,h.tn,fun x hx y hy=>?_⟩
  obtain⟨z,hz,rfl⟩:=ay.1 hx
  exact fun e=>hPf z hz (by rw[show pd z=y from e];exact hy)
 ·rcases aN.1 (aC.1 hm).1 with h1|h1
  ·obtain⟨y,hy,rfl⟩:=ay.1 h1
   exact⟨k,hk,(hP y hy).2.1,by rw[cY];exact(hP y hy).2.2⟩
  ·obtain⟨o,ho,a,b⟩:=h.V8 m h1
   refine⟨o,ho,a,?_⟩
   by_cases e:o=k
   ·subst e;rw[cY];omega
   ·rw[da e];exact b
 ·by_cases e:a=k
  ·subst e
   rw[cY]
   refine(xZ.map pd).nodup_iff.2 (List.Nodup.sublist (List.filter_sublist.map _) ?_)
   rw[aZ,List.nodup_append]
   refine⟨hPn,h.oy a ha,fun x hx y hy=>?_⟩
   obtain⟨z,hz,rfl⟩:=ay.1 hx
   exact fun e=>hPb z hz (e▸hy)
  ·rw[da e];exact h.oy a ha
 ·rw[e1]at hi
  obtain⟨Vc,y,hy,e4,e5⟩:=h.bin a ha b i hi
  refine⟨Vc,y,?_,e4,e5⟩
  by_cases e:a=k
  ·subst e
   rw[cY,xZ.mem_iff,aC]
   refine⟨List.mem_append_right _ hy,?_⟩
   have :pd y∉G:=fun hg=>by
    obtain⟨z,hz,h4,e6⟩:=hG _ hg
    have :=pR (h.oy a ha) hz hy e6
    subst this;omega
   simpa using this
  ·rw[da e];exact hy
 ·rw[e1,e2,e3];exact h.pr a b ha hb vK
 ·obtain⟨a,b,f1,f2,f3,f4,f5,f6,f7⟩:=(h.fr g hg).ok
  refine⟨a,b,f1,f2,f3,f4,f5,fun hh=>by rw[e3];exact f6 hh,fun hh=>?_⟩
  obtain⟨f8,f9⟩:=f7 hh
  refine⟨by rw[e2];exact f8,fun g1 g2=>?_⟩
  rw[e2]at g1
  rw[e3]at g2
  obtain⟨f10,f11⟩:=f9 g1 g2
  refine⟨by rw[e1];exact f10,f11.trans ?_⟩
  by_cases e:a=k
  ·subst e
   rw[cY]
   unfold sw
   refine List.Perm.map _ (List.Perm.trans (List.Perm.of_eq ?_) (xZ.filter _).symm)
   rw[bp,bB]
   have a1:P.filter (fun y=>rq c b y&& !decide (pd y∈G))=[]:=by
    rw[List.filter_eq_nil_iff]
    intro y hy
    unfold rq
    rw[sI]
    simp[hPt y hy b]
   rw[a1,List.nil_append]
   apply List.filter_congr
   intro y hy
   unfold rq
   rw[sI]
   by_cases hm:y.1=b/\pd y∈(C a).bt b
   ·have :pd y∉G:=fun hg=>by
     obtain⟨z,hz,h4,e6⟩:=hG _ hg
     have :=pR (h.oy a hk) hz hy e6
     subst this
     have :=(h.bin a hk b _ hm.2).1
     omega
    simp[hm.1,hm.2,this]
   ·by_cases h1:y.1=b
    ·have h2:pd y∉(C a).bt b:=fun h2=>hm ⟨h1,h2⟩
     simp[h1,h2]
    ·simp[h1]
  ·rw[da e]
theorem GC.made(h:GC n C cR T)(hk:k<n)(hd:d<n)(O8:k≠d)(Gv:d<4){l:List Int}(hl:l≠[])(h0:(C k).bt d=[])(hli:∀i∈l,∃y∈(C k).bg,y.1=d/\pd y=i)(xZ:c.bg=(C k).bg)(sI:∀b,c.bt b=if b=d then l else(C k).bt b)(Cn:∀b,c.sn b=if b=d then(C k).sn d+1 else(C k).sn b)(x4:c.av=(C k).av)(tT:c.nx=(C k).nx):
 GC n (eQ C k c) cR T:=by
 have e3:∀a,(eQ C k c a).av=(C a).av:=fun a=>by by_cases e:a=k;(rw[e,cY,x4]);(rw[da e])
 have e4:∀a,(eQ C k c a).bg=(C a).bg:=fun a=>by by_cases e:a=k;(rw[e,cY,xZ]);(rw[da e])
 have e1:∀a b,(a=k/\b=d)\/((eQ C k c a).bt b=(C a).bt b/\(eQ C k c a).sn b=(C a).sn b/\¬(a=k/\b=d)):=fun a b=>by
  by_cases e:a=k
  ·by_cases e':b=d
   ·exact .inl ⟨e,e'⟩
   ·rw[e,cY,sI,Cn,if_neg e',if_neg e'];exact .inr ⟨rfl,rfl,fun x=>e' x.2⟩
  ·rw[da e];exact .inr ⟨rfl,rfl,fun x=>e x.1⟩
 have ek:(eQ C k c k).bt d=l/\(eQ C k c k).sn d=(C k).sn d+1:=by rw[cY,sI,Cn,if_pos rfl,if_pos rfl];exact⟨rfl,rfl⟩
 have Co:=h.pr k d hk hd O8
 have uZ:∀a b,vM n (eQ C k c) a b=vM n C a b:=fun a b=>by
  rcases e1 a b with⟨rfl,rfl⟩|⟨x,y,-⟩
  ·unfold vM;rw[ek.1,ek.2,e3,h0]
   have :¬((C a).sn b+1<=(C b).av a):=by have :=Co.1;omega
   simp[this]
  ·unfold vM;rw[x,y,e3]
 have HD:vM n C k d=false:=by unfold vM;rw[h0];simp
 have Ah:∀a y,gH n (eQ C k c) a y=gH n C a y:=fun a y=>by
  unfold gH
  rw[uZ]
  rcases e1 a y.1 with⟨rfl,h2⟩|⟨x,-,-⟩
  ·rw[h2,HD];simp
  ·rw[x]
 refine⟨?_,h.tn,fun m hm=>?_,fun a ha=>by rw[e4];exact h.oy a ha,fun a ha b i hi=>?_,fun a b ha hb vK=>?_,fun g hg=>?_⟩
 ·have :yo n (eQ C k c)=yo n C:=by
   unfold yo
   congr 1
   funext i
   exact py (e4 i) (Ah i)
  rw[this];exact h.Kc
 ·obtain⟨o,ho,a,b⟩:=h.V8 m hm
  refine⟨o,ho,a,?_⟩
  by_cases e:o=k
  ·subst e;rw[cY,tT];exact b
  ·rw[da e];exact b
 ·rw[e4]
  rcases e1 a b with⟨rfl,rfl⟩|⟨x,-,-⟩
  ·rw[ek.1]at hi;exact⟨Gv,hli i hi⟩
  ·rw[x]at hi;exact h.bin a ha b i hi
 ·rw[e3]
  rcases e1 a b with⟨rfl,rfl⟩|⟨x,y,-⟩
  ·rw[ek.1,ek.2]
   have :=Co.2.2 h0
   exact⟨by omega,by omega,fun h2=>absurd h2 hl⟩
  ·rw[x,y];exact h.pr a b ha hb vK
 ·obtain⟨a,b,f1,f2,f3,f4,f5,f6,f7⟩:=(h.fr g hg).ok
  refine⟨a,b,f1,f2,f3,f4,f5,fun hh=>by rw[e3];exact f6 hh,fun hh=>?_⟩
  obtain⟨f8,f9⟩:=f7 hh
  rcases e1 a b with⟨rfl,rfl⟩|⟨x,y,-⟩
  ·rw[ek.2]
   exact⟨by omega,fun h2=>by omega⟩
  ·rw[x,y,e3]
   refine⟨f8,fun g1 g2=>⟨(f9 g1 g2).1,(f9 g1 g2).2.trans (List.Perm.of_eq ?_)⟩⟩
   unfold sw
   rw[e4]
   congr 2
   funext z
   unfold rq
   rw[x]
theorem GC.yw(h:GC n C cR T)(hk:k<n)(hd:d<n)(O8:k≠d)(gO:n<=4){P:List (Nat×Ms)}(hP:∀y∈P,4<=y.1)(sr:(C k).bt d≠[])(hs:(C k).sn d=(C d).av k+1)(hl:(P.map (·.2)).Perm (sw (C k) d))(xZ:c.bg.Perm (P++(C d).bg))(afg:(c.bg.map pd).Nodup)(sI:c.bt=(C d).bt)(Cn:c.sn=(C d).sn)(x4:∀b,c.av b=if b=k then(C d).av k+1 else(C d).av b)(tT:c.nx=(C d).nx):
 GC n (eQ C d c) cR T:=by
 have e1:∀a,(eQ C d c a).bt=(C a).bt:=fun a=>by by_cases e:a=d;(rw[e,cY,sI]);(rw[da e])
 have e2:∀a,(eQ C d c a).sn=(C a).sn:=fun a=>by by_cases e:a=d;(rw[e,cY,Cn]);(rw[da e])
 have e3:∀a b,(a=d/\b=k)\/((eQ C d c a).av b=(C a).av b/\¬(a=d/\b=k)):=fun a b=>by
  by_cases e:a=d
  ·by_cases e':b=k
   ·exact .inl ⟨e,e'⟩
   ·rw[e,cY,x4,if_neg e'];exact .inr ⟨rfl,fun x=>e' x.2⟩
  ·rw[da e];exact .inr ⟨rfl,fun x=>e x.1⟩
 have ek:(eQ C d c d).av k=(C d).av k+1:=by rw[cY,x4,if_pos rfl]
 have uZ:∀a b,¬(b=d/\a=k)->vM n (eQ C d c) a b=vM n C a b:=fun a b vK=>by
  rcases e3 b a with h1|⟨x,-⟩
  ·exact absurd h1 vK
  ·unfold vM;rw[e1,e2,x]
 have EF:vM n (eQ C d c) k d=true:=by unfold vM;rw[e1,e2,ek];simp[sr,hd,hs]
 have HD:vM n C k d=false:=by unfold vM;rw[hs];simp;intros;omega
 have Ah:∀a y,¬(a=k/\y.1=d)->gH n (eQ C d c) a y=gH n C a y:=fun a y Vd=>by
  unfold gH
  rw[uZ a y.1 (fun x=>Vd ⟨x.2,x.1⟩),e1]
 have Gv:d<4:=by omega
 obtain⟨R,hR⟩:=CJ hk hd O8 (view n C)
 have hV:=hR (view n C) fun _ _ _=>rfl
 have Rb:=hR (view n (eQ C d c)) fun i hi Zm=>py (by rw[da Zm]) fun y=>Ah i y fun x=>hi x.1
 have hvk:(view n C k).Perm (sw (C k) d++view n (eQ C d c) k):=by
  unfold view sw
  rw[da O8,<-aZ]
  refine List.Perm.map _ ?_
  have h1:(C k).bg.filter (gH n (eQ C d c) k)=((C k).bg.filter (gH n C k)).filter fun y=> !rq (C k) d y:=by
   rw[bp]
   apply List.filter_congr
   intro y _
   by_cases e:y.1=d
   ·unfold gH rq
    rw[e,EF,HD,e1]
    have :¬4<=d:=by omega
    have :d≠k:=fun e=>O8 e.symm
    by_cases hm:pd y∈(C k).bt d<;>simp[*]
   ·rw[Ah k y fun x=>e x.2]
    unfold rq
    simp[e]
  have h2:(C k).bg.filter (rq (C k) d)=((C k).bg.filter (gH n C k)).filter (rq (C k) d):=by
   rw[bp]
   apply List.filter_congr
   intro y _
   by_cases e:y.1=d
   ·unfold gH rq
    rw[e,HD]
    have :d≠k:=fun e=>O8 e.symm
    simp[this]
   ·unfold rq
    simp[e]
  rw[h1,h2]
  exact(List.filter_append_perm _ _).symm
 have hvd:(view n (eQ C d c) d).Perm (P.map (·.2)++view n C d):=by
  unfold view
  rw[cY]
  refine((xZ.filter _).map _).trans (List.Perm.of_eq ?_)
  rw[bB,aZ]
  congr 1
  ·rw[aT.2]
   intro y hy
   unfold gH
   simp[hP y hy]
  ·congr 1
   exact List.filter_congr fun y _=>Ah d y fun x=>O8 x.1.symm
 have O5:(yo n (eQ C d c)).Perm (yo n C):=by
  refine Rb.trans (List.Perm.trans ?_ hV.symm)
  refine((List.Perm.refl _).append ((hvd.trans (hl.append_right _)).append_right R)).trans ?_
  refine List.Perm.trans ?_ (hvk.append_right _).symm
  have h5:∀A B E F:List Ms,(A++((B++E)++F)).Perm ((B++A)++(E++F)):=fun A B E F=>by
   rw[aH,<-aH]
   exact List.perm_append_comm.append_right _
  exact h5 _ _ _ _
 have Xk:∀a b,b<n->(sw (C a) b).Perm (sw (eQ C d c a) b):=fun a b hb=>by
  by_cases e:a=d
  ·subst e
   rw[cY]
   unfold sw
   refine List.Perm.map _ (List.Perm.trans (List.Perm.of_eq ?_) (xZ.filter _).symm)
   rw[bB]
   have a1:P.filter (rq c b)=[]:=by
    rw[List.filter_eq_nil_iff]
    intro y hy
    have :=hP y hy
    unfold rq
    have :y.1≠b:=by omega
    simp[this]
   rw[a1,List.nil_append]
   apply List.filter_congr
   intro y _
   unfold rq
   rw[sI]
  ·rw[da e]
 refine⟨O5.trans h.Kc,h.tn,fun m hm=>?_,fun a ha=>?_,fun a ha b i hi=>?_,fun a b ha hb vK=>?_,fun g hg=>?_⟩
 ·obtain⟨o,ho,a,b⟩:=h.V8 m hm
  refine⟨o,ho,a,?_⟩
  by_cases e:o=d
  ·subst e;rw[cY,tT];exact b
  ·rw[da e];exact b
 ·by_cases e:a=d
  ·subst e;rw[cY];exact afg
  ·rw[da e];exact h.oy a ha
 ·rw[e1]at hi
  obtain⟨Vc,y,hy,e4,e5⟩:=h.bin a ha b i hi
  refine⟨Vc,y,?_,e4,e5⟩
  by_cases e:a=d
  ·subst e;rw[cY,xZ.mem_iff];exact List.mem_append_right _ hy
  ·rw[da e];exact hy
 ·rw[e1,e2]
  have :=h.pr a b ha hb vK
  rcases e3 b a with⟨rfl,rfl⟩|⟨x,-⟩
  ·rw[ek];exact⟨by omega,by omega,fun h2=>absurd h2 sr⟩
  ·rw[x];exact this
 ·obtain⟨a,b,f1,f2,f3,f4,f5,f6,f7⟩:=(h.fr g hg).ok
  refine⟨a,b,f1,f2,f3,f4,f5,fun hh=>?_,fun hh=>?_⟩
  ·rcases e3 a b with⟨rfl,rfl⟩|⟨x,-⟩
   ·have :=f6 hh;omega
   ·rw[x];exact f6 hh
  ·obtain⟨f8,f9⟩:=f7 hh
   rw[e2]
   refine⟨f8,fun g1 g2=>?_⟩
   rcases e3 b a with⟨rfl,rfl⟩|⟨x,-⟩
   ·rw[ek]at g2;omega
   ·rw[x]at g2
    rw[e1]
    exact⟨(f9 g1 g2).1,(f9 g1 g2).2.trans (Xk a b f4)⟩
theorem GC.known(h:GC n C cR T)(hk:k<n)(hd:d<n)(O8:k≠d)(gO:n<=4)(sr:(C k).bt d≠[])(hs:(C k).sn d<=(C d).av k)(xZ:c.bg.Perm ((C k).bg.filter fun y=> !decide (pd y∈(C k).bt d)))(sI:∀b,c.bt b=if b=d then[]else(C k).bt b)(Cn:c.sn=(C k).sn)(x4:c.av=(C k).av)(tT:c.nx=(C k).nx):
 GC n (eQ C k c) cR T:=by
 have e2:∀a,(eQ C k c a).sn=(C a).sn:=fun a=>by by_cases e:a=k;(rw[e,cY,Cn]);(rw[da e])
 have e3:∀a,(eQ C k c a).av=(C a).av:=fun a=>by by_cases e:a=k;(rw[e,cY,x4]);(rw[da e])
 have e1:∀a b,(a=k/\b=d)\/((eQ C k c a).bt b=(C a).bt b/\¬(a=k/\b=d)):=fun a b=>by
  by_cases e:a=k
  ·by_cases e':b=d
   ·exact .inl ⟨e,e'⟩
   ·rw[e,cY,sI,if_neg e'];exact .inr ⟨rfl,fun x=>e' x.2⟩
  ·rw[da e];exact .inr ⟨rfl,fun x=>e x.1⟩
 have ek:(eQ C k c k).bt d=[]:=by rw[cY,sI,if_pos rfl]
 have Gv:d<4:=by omega
 have hdk:d≠k:=fun e=>O8 e.symm
 have uZ:∀a b,¬(a=k/\b=d)->vM n (eQ C k c) a b=vM n C a b:=fun a b vK=>by
  rcases e1 a b with h1|⟨x,-⟩
  ·exact absurd h1 vK
  ·unfold vM;rw[x,e2,e3]
 have EF:vM n C k d=true:=by unfold vM;simp[sr,hd,hs]
 have HD:vM n (eQ C k c) k d=false:=by unfold vM;rw[ek];simp
 have Ah:∀a y,¬(a=k/\y.1=d)->gH n (eQ C k c) a y=gH n C a y:=fun a y Vd=>by
  unfold gH
  rw[uZ a y.1 Vd]
  rcases e1 a y.1 with h1|⟨x,-⟩
  ·exact absurd h1 Vd
  ·rw[x]
 have qm:∀y∈(C k).bg,pd y∈(C k).bt d->y.1=d:=fun y hy hm=>by
  obtain⟨-,z,hz,e4,e5⟩:=h.bin k hk d _ hm
  rw[<-pR (h.oy k hk) hz hy e5];exact e4
 obtain⟨R,hR⟩:=wS hk (view n C)
 have hV:=hR (view n C) fun _ _=>rfl
 have Rb:=hR (view n (eQ C k c)) fun i hi=>py (by rw[da hi]) fun y=>Ah i y fun x=>hi x.1
 have hvk:(view n (eQ C k c) k).Perm (view n C k):=by
  unfold view
  rw[cY]
  refine((xZ.filter _).map _).trans (List.Perm.of_eq ?_)
  rw[bp]
  congr 1
  apply List.filter_congr
  intro y hy
  by_cases e:y.1=d
  ·unfold gH
   rw[e,EF,HD]
   have :¬4<=d:=by omega
   by_cases hm:pd y∈(C k).bt d<;>simp[*]
  ·rw[Ah k y fun x=>e x.2]
   have :pd y∉(C k).bt d:=fun hm=>e (qm y hy hm)
   simp[this]
 have Xk:∀a b,¬(a=k/\b=d)->(sw (C a) b).Perm (sw (eQ C k c a) b):=fun a b vK=>by
  by_cases e:a=k
  ·subst e
   rw[cY]
   unfold sw
   refine List.Perm.map _ (List.Perm.trans (List.Perm.of_eq ?_) (xZ.filter _).symm)
   rw[bp]
   apply List.filter_congr
   intro y hy
   unfold rq
   have hbd:b≠d:=fun e=>vK ⟨rfl,e⟩
   rw[sI,if_neg hbd]
   by_cases e:y.1=b
   ·have :pd y∉(C a).bt d:=fun hm=>hbd (e.symm.trans (qm y hy hm))
    simp[this]
   ·simp[e]
  ·rw[da e]
 refine⟨Rb.trans ((hvk.append_right R).trans (hV.symm.trans h.Kc)),h.tn,fun m hm=>?_,fun a ha=>?_,fun a ha b i hi=>?_,fun a b ha hb vK=>?_,fun g hg=>?_⟩
 ·obtain⟨o,ho,a,b⟩:=h.V8 m hm
  refine⟨o,ho,a,?_⟩
  by_cases e:o=k
  ·subst e;rw[cY,tT];exact b
  ·rw[da e];exact b
 ·by_cases e:a=k
  ·subst e;rw[cY];exact(xZ.map pd).nodup_iff.2 ((h.oy a ha).sublist (List.filter_sublist.map _))
  ·rw[da e];exact h.oy a ha
 ·rcases e1 a b with⟨rfl,rfl⟩|⟨x,vK⟩
  ·rw[ek]at hi;cases hi
  ·rw[x]at hi
   obtain⟨Vc,y,hy,e4,e5⟩:=h.bin a ha b i hi
   refine⟨Vc,y,?_,e4,e5⟩
   by_cases e:a=k
   ·subst e
    rw[cY,xZ.mem_iff,aC]
    refine⟨hy,?_⟩
    have :pd y∉(C a).bt d:=fun hm=>vK ⟨rfl,e4.symm.trans (qm y hy hm)⟩
    simpa using this
   ·rw[da e];exact hy
 ·rw[e2,e3]
  have :=h.pr a b ha hb vK
  rcases e1 a b with⟨rfl,rfl⟩|⟨x,-⟩
  ·exact⟨this.1,this.2.1,fun _=>by omega⟩
  ·rw[x];exact this
 ·obtain⟨a,b,f1,f2,f3,f4,f5,f6,f7⟩:=(h.fr g hg).ok
  refine⟨a,b,f1,f2,f3,f4,f5,fun hh=>by rw[e3];exact f6 hh,fun hh=>?_⟩
  obtain⟨f8,f9⟩:=f7 hh
  rw[e2,e3]
  refine⟨f8,fun g1 g2=>?_⟩
  rcases e1 a b with⟨rfl,rfl⟩|⟨x,vK⟩
  ·omega
  ·rw[x]
   exact⟨(f9 g1 g2).1,(f9 g1 g2).2.trans (Xk a b vK)⟩
end
def ny (H:Ho):Cr:=⟨(hv H).map pV,bm H,bD H,bY H,H.next⟩
structure UJ (H:Ho) (u:Nat) (x:pg):Prop where
 aM:∀p∈x.aM,(p.1.cq=H.id->∃i,H.qI p.1.queue=some i)/\p.1.id%4=H.id/\∃e∈hv H,e.j=nG H p.1/\e.m=p.1/\e.put=(u:Int)
 pn:(x.aM.map fun p=>p.1.id).Nodup
 bu:∀g∈x.bu,∃i,H.qI g.2=some i/\∃e∈hv H,e.j=4+i/\eO e=g.1/\e.put<0/\e.iS=(u:Int)
 gn:(x.bu.map (·.1)).Nodup
structure HI (k:Nat) (H:Ho) (D:Dk) (H0:Ho):Prop where
 hid:H.id=(k:Int)
 R9:∃R,iZ D R/\nE (bX k) R H0/\H.used=R.length
 names:H0.names=H.names
 keys:cb H0=cb H
 bt:H0.batch=H.batch
 sn:H0.bW=H.bW
 av:H0.aK=H.aK
 dead:∃i,H.qI cL=some i
 nu:∀e∈hv H0,e.put= -1/\e.iS= -1
 ye:(hk H).Perm ((hv H0).map pV)
 oy:((hv H).map eO).Nodup
 wy:∀e∈hv H,e.j<4->e.m.id%4=(k:Int)
 lt:∀e∈hv H,e.m.id%4=(k:Int)->e.m.id/4<H.next
 Ot:∀e∈hv H0,e.m.id%4=(k:Int)->e.m.id/4<H0.next
 nx:H0.next<=H.next
 unit:∀(u:Nat) x,H.aB[u]? =some x->UJ H u x
 bin:∀d,∀i∈bm H d,∃y∈hk H,y.1=d/\pd y=i
section
variable {c kb k n:Nat} {H H0:Ho} {D:Dk}
theorem HI.upd(h:HI k H D H0){H':Ho}(e1:H'.id=H.id)(e2:H'.used=H.used)(e3:H'.names=H.names)(e4:cb H'=cb H)(e5:H'.batch=H.batch)(e6:H'.bW=H.bW)(e7:H'.aK=H.aK)(ye:(hk H').Perm (hk H))(oy:((hv H').map eO).Nodup)(wy:∀e∈hv H',e.j<4->e.m.id%4=(k:Int))(lt:∀e∈hv H',e.m.id%4=(k:Int)->e.m.id/4<H'.next)(nx:H.next<=H'.next)(unit:∀(u:Nat) x,H'.aB[u]? =some x->UJ H' u x):HI k H' D H0:=by
 obtain⟨R,r1,r2,r3⟩:=h.R9
 obtain⟨i,hi⟩:=h.dead
 refine⟨by rw[e1,h.hid],⟨R,r1,r2,by rw[e2,r3]⟩,by rw[e3,h.names],by rw[e4,h.keys],by rw[e5,h.bt],by rw[e6,h.sn],by rw[e7,h.av],⟨i,by rw[cG e4];exact hi⟩,h.nu,ye.trans h.ye,oy,wy,lt,h.Ot,by have :=h.nx;omega,unit,fun d i hi=>?_⟩
 have :bm H' d=bm H d:=by unfold bm;rw[e5]
 rw[this]at hi
 obtain⟨y,hy,a,b⟩:=h.bin d i hi
 exact⟨y,ye.mem_iff.2 hy,a,b⟩
theorem UJ.same{H':Ho}{u:Nat}{x:pg}(h:UJ H u x)(e1:H'.id=H.id)(e2:H'.aI=H.aI)(e3:H'.ways=H.ways):UJ H' u x:=by
 have e4:hv H'=hv H:=by unfold hv Ho.all;rw[e2,e3]
 have e5:cb H'=cb H:=by unfold cb;rw[e2]
 refine⟨fun p hp=>?_,h.pn,fun g hg=>?_,h.gn⟩
 ·obtain⟨a,b,e,he,r⟩:=h.aM p hp
  exact⟨fun hh=>by rw[cG e5];exact a (by rw[hh,e1]),by rw[e1];exact b,e,by rw[e4];exact he,by rw[fF e5 e1];exact r⟩
 ·obtain⟨i,a,e,he,r⟩:=h.bu g hg
  exact⟨i,by rw[cG e5];exact a,e,by rw[e4];exact he,r⟩
theorem HI.dz(h:HI k H D H0)(t:Int):HI k {H with dz:=t} D H0:=
 h.upd rfl rfl rfl rfl rfl rfl rfl (.refl _) h.oy h.wy h.lt (Int.le_refl _) fun u x hx=>(h.unit u x hx).same rfl rfl rfl
theorem HI.XE(h:HI k H D H0):HI k {H with down:=true} D H0:=
 h.upd rfl rfl rfl rfl rfl rfl rfl (.refl _) h.oy h.wy h.lt (Int.le_refl _) fun u x hx=>(h.unit u x hx).same rfl rfl rfl
theorem HI.ab5(h:HI k H D H0){D':Dk}(hd:∀R,H.used=R.length->iZ D R->iZ D' R):HI k H D' H0:=by
 obtain⟨R,r1,r2,r3⟩:=h.R9
 exact⟨h.hid,⟨R,hd R r3 r1,r2,r3⟩,h.names,h.keys,h.bt,h.sn,h.av,h.dead,h.nu,h.ye,h.oy,h.wy,h.lt,h.Ot,h.nx,h.unit,h.bin⟩
theorem HI.cut(h:HI k H D H0)(t:Int):HI k H (cu D t) H0:=h.ab5 fun R _ hd=>hd.cut t
theorem HI.opened(h:HI k H D H0):bK (k:Int) D=H0:=by
 obtain⟨R,r1,r2,r3⟩:=h.R9
 exact s8 r1 r2
theorem HI.wJ(h:HI k H D H0):hk H0=(hv H0).map pV:=by
 unfold hk
 rw[aT.2]
 intro e he
 have :=(h.nu e he).1
 unfold iW;simp[this]
theorem HI.OM(h:HI k H D H0):H0.id=(k:Int):=by
 obtain⟨R,r1,r2,r3⟩:=h.R9
 rw[r2.same.1];rfl
theorem HI.H9(h:HI k H D H0):H0.aB=List.replicate 5 ⟨[],[]⟩:=by
 obtain⟨R,r1,r2,r3⟩:=h.R9
 rw[r2.same.2.2.2];rfl
theorem HI.OL(h:HI k H D H0):((hv H0).map eO).Nodup:=by
 have h1:((hv H0).map eO).Perm ((hk H).map (·.2.id)):=by
  refine List.Perm.trans (List.Perm.of_eq ?_) (h.ye.map (·.2.id)).symm
  rw[List.map_map];rfl
 rw[h1.nodup_iff,W7]
 exact h.oy.sublist (List.filter_sublist.map _)
theorem HI.in0(h:HI k H D H0){e:En}(he:e∈hv H0):∃e'∈hv H,e'.j=e.j/\e'.m=e.m/\e'.put<0:=by
 have h1:pV e∈hk H:=h.ye.mem_iff.2 (bO he)
 unfold hk at h1
 obtain⟨e',h2,h3⟩:=ay.1 h1
 obtain⟨h4,h5⟩:=aC.1 h2
 unfold pV at h3
 simp only[Prod.mk.injEq]at h3
 exact⟨e',h4,h3.1,h3.2,by unfold iW at h5;simpa using h5⟩
theorem HI.to0(h:HI k H D H0){e:En}(he:e∈hv H)(hp:e.put<0):∃e'∈hv H0,e'.j=e.j/\e'.m=e.m:=by
 have h1:pV e∈(hv H0).map pV:=h.ye.mem_iff.1 (by
  unfold hk
  exact bO (aC.2 ⟨he,by unfold iW;simpa using hp⟩))
 obtain⟨e',h2,h3⟩:=ay.1 h1
 unfold pV at h3
 simp only[Prod.mk.injEq]at h3
 exact⟨e',h2,h3.1,h3.2⟩
theorem UJ.nil(H:Ho)(u:Nat):UJ H u ⟨[],[]⟩:=⟨(fun p hp=>by cases hp),List.nodup_nil,(fun p hp=>by cases hp),List.nodup_nil⟩
theorem HI.Ij(h:HI k H D H0):HI k H0 D H0:=by
 obtain⟨R,r1,r2,r3⟩:=h.R9
 obtain⟨i,hi⟩:=h.dead
 refine⟨h.OM,⟨R,r1,r2,by rw[r2.used];simp[bX]⟩,rfl,rfl,rfl,rfl,rfl,⟨i,by rw[cG h.keys];exact hi⟩,h.nu,by rw[h.wJ],h.OL,fun e he hj=>?_,h.Ot,h.Ot,Int.le_refl _,fun u x hx=>?_,fun d i hi=>?_⟩
 ·obtain⟨e',h1,h2,h3,-⟩:=h.in0 he
  rw[<-h3];exact h.wy e' h1 (by rw[h2];exact hj)
 ·rw[h.H9]at hx
  have :=List.eq_of_mem_replicate (ax hx)
  subst this
  exact UJ.nil _ _
 ·have :bm H0 d=bm H d:=by unfold bm;rw[h.bt]
  rw[this]at hi
  obtain⟨y,hy,a,b⟩:=h.bin d i hi
  exact⟨y,by rw[h.wJ];exact h.ye.mem_iff.1 hy,a,b⟩
theorem HI.fail(h:HI k H D H0){s:ak}(hs:s.size<=700000)(hb:qx 124 s)(he:c7 H D≠0):HI k (dc H D) (gU H D s) H0:=by
 unfold c7 at he
 unfold dc gU
 by_cases h1:fU H≠0
 ·rw[if_pos h1,if_pos h1];exact h
 ·rw[if_neg h1]at he
  rw[if_neg h1,if_neg h1,if_pos he]
  have hr:=(yQ (H:=H) Nn).2
  have ho:lE D=true:=by
   cases hd:lE D with
   |true=>rfl
   |false=>exact absurd (wZ.2 (by rw[hd];simp)) he
  refine h.XE.ab5 fun R hu hd=>?_
  have hu:H.used=R.length:=hu
  rw[hu]
  exact hd.bad hs hb ho (by rw[<-hu];exact hr)
theorem dA(h2:c7 H D=0)(s:ak):dc H D={H with used:=H.used+1}/\gU H D s=ew D H.used (eb H.used s) H.dz/\H.used<300/\¬lE D=true:=by
 obtain⟨h3,h4⟩:=Ov h2
 refine⟨?_,?_,(yQ h3).2,wZ.1 h4⟩
 ·unfold dc;rw[if_neg (by simpa using h3),if_neg (by simpa using h4)]
 ·unfold gU;rw[if_neg (by simpa using h3)]
theorem HI.Dx(h:HI k H D H0)(h2:c7 H D=0){s:ak}(hs:s.size<=700000)(hb:qx 124 s)(jg:fO 250 s){H' H3:Ho}(hp:ck H0 s=(H3,true))(e1:H'.id=H.id)(e2:H'.used=H.used+1)(e3:H3.names=H'.names)(e4:cb H3=cb H')(e5:H3.batch=H'.batch)(e6:H3.bW=H'.bW)(e7:H3.aK=H'.aK)(e8:cb H'=cb H)(nu:∀e∈hv H3,e.put= -1/\e.iS= -1)(ye:(hk H').Perm ((hv H3).map pV))(oy:((hv H').map eO).Nodup)(wy:∀e∈hv H',e.j<4->e.m.id%4=(k:Int))(lt:∀e∈hv H',e.m.id%4=(k:Int)->e.m.id/4<H'.next)(Ot:∀e∈hv H3,e.m.id%4=(k:Int)->e.m.id/4<H3.next)(nx:H3.next<=H'.next)(unit:∀(u:Nat) x,H'.aB[u]? =some x->UJ H' u x)(bin:∀d,∀i∈bm H' d,∃y∈hk H',y.1=d/\pd y=i):HI k H' (gU H D s) {H3 with used:=H0.used+1}:=by
 obtain⟨R,r1,r2,r3⟩:=h.R9
 obtain⟨i,hi⟩:=h.dead
 obtain⟨-,eD,hu,ho⟩:=dA h2 s
 refine⟨by rw[e1,h.hid],⟨R++[s],?_,r2.snoc hp,by rw[e2,r3];simp⟩,e3,e4,e5,e6,e7,⟨i,by rw[cG e8];exact hi⟩,nu,ye,oy,wy,lt,Ot,nx,unit,bin⟩
 rw[eD,r3]
 exact r1.Xw hs hb jg ho (by rw[<-r3];exact hu)
theorem N1{s:ak}(h:(jU H s).2.2=0)(hk:¬(jU H s).2.1<0):(jU H s).2.1≠H.id:=by
 unfold jU at h hk ⊢
 split
 ·rename_i h1;rw[if_pos h1]at h;exact absurd h h1
 ·rename_i h1
  rw[if_neg h1]at h hk
  split
  ·rename_i h2
   rw[if_pos h2]at h hk
   split
   ·rename_i h3;rw[if_pos h3]at h;cases h
   ·rename_i h3;rw[if_neg h3]at hk;exact absurd (by dsimp only;decide) hk
  ·rename_i h2
   exact fun e=>h2 (.inr e)
theorem Im{u:Int}{s:ak}{pri:Int}{body:ak}(he:jn H u s pri body=0):(jU H s).2.2=0/\kz (H.dY (mY H s)) (fk H s pri body)=0/\bT (fk H s pri body)=true/\H.down=false:=by
 have h0:=he
 unfold jn at h0
 split at h0
 ·cases h0
 ·split at h0
  ·cases h0
  ·split at h0
   ·exact absurd h0 xG
   ·rename_i h1
    split at h0
    ·cases h0
    ·rename_i h2
     refine⟨by simpa using h1,h0,?_,by simpa using h2⟩
     unfold kz at h0
     cases hr:bT (fk H s pri body)with
     |true=>rfl
     |false=>rw[if_pos hr]at h0;cases h0
theorem HI.put(h:HI k H D H0)(hB:cK n H){u:Nat}(hu:u<5){s:ak}{pri:Int}{body:ak}(he:jn H u s pri body=0):
 HI k (fl H u s pri body) D H0/\(fk H s pri body).id=H.next *4+k:=by
 obtain⟨ku,Br,EB,-⟩:=Im he
 obtain⟨hj,h2,h3⟩:=zL hB ku
 have DP:(fk H s pri body).id=H.next *4+k:=by rw[<-h.hid];rfl
 have hjm:nG H (fk H s pri body)=mY H s/\((fk H s pri body).cq=H.id->∃i,H.qI (fk H s pri body).queue=some i):=by
  unfold nG
  by_cases hn:(jU H s).2.1<0
  ·obtain⟨-,i,yY,hji⟩:=h2 hn
   have e1:(fk H s pri body).cq=H.id:=by unfold fk;dsimp only;rw[if_pos hn]
   have e2:(fk H s pri body).queue=(jU H s).1:=rfl
   rw[if_neg (by rw[e1];simp),e2,yY]
   exact⟨by rw[hji];rfl,fun _=>⟨i,rfl⟩⟩
  ·obtain⟨a,b⟩:=h3 hn
   have e1:(fk H s pri body).cq=(jU H s).2.1:=by unfold fk;dsimp only;rw[if_neg hn]
   rw[if_pos (by rw[e1];exact N1 ku hn),e1,b]
   exact⟨by simp,fun hh=>absurd (b.trans hh) (N1 ku hn)⟩
 refine⟨?_,DP⟩
 have kN:=gu hB hu
 generalize hx:H.eP u=x at kN
 have e1:fl H u s pri body=cQ {H.fj (mY H s) (db (H.dY (mY H s)) (fk H s pri body) u)with next:=H.next+1} u ⟨x.aM++[(fk H s pri body,(jU H s).2.1)],x.bu⟩:=by
  unfold fl
  rw[if_pos he]
  unfold pM
  rw[if_pos Br,aA,hx]
 rw[e1]
 generalize fk H s pri body=m at Br EB DP hjm
 have fw:H.all[mY H s]? =some (H.dY (mY H s)):=vu hj
 generalize p6:cQ {H.fj (mY H s) (db (H.dY (mY H s)) m u)with next:=H.next+1} u ⟨x.aM++[(m,(jU H s).2.1)],x.bu⟩=H'
 have rY:(hv H').Perm (⟨mY H s,m,(u:Int),-1⟩::hv H):=by
  have h3:H'.all=(H.fj (mY H s) (db (H.dY (mY H s)) m u)).all:=by rw[<-p6];rfl
  unfold hv
  rw[h3,AZ hB.ways]
  have :=uh m u fw
  rw[show max (u:Int) (-1)=u by omega]at this
  exact this
 have p4:cb H'=cb H:=by rw[<-p6];exact uw _ _
 have mf:H'.id=H.id:=by rw[<-p6];exact Dh _ _
 have tT:H'.next=H.next+1:=by rw[<-p6];rfl
 have gY:H'.aB=H.aB.set u ⟨x.aM++[(m,(jU H s).2.1)],x.bu⟩:=by rw[<-p6];unfold cQ;dsimp only;rw[gy]
 have Kl:(hk H').Perm (hk H):=by
  unfold hk
  refine((rY.filter _).map _).trans (List.Perm.of_eq ?_)
  rw[bE,if_neg (by unfold iW;simp)]
 have lC:∀e∈hv H,e∈hv H':=fun e he=>rY.mem_iff.2 (List.mem_cons_of_mem _ he)
 have aa0:∀e∈hv H,eO e≠m.id:=fun e he e2=>by
  unfold eO at e2
  have :=h.lt e he (by rw[e2,DP];have :=h.hid;have :=hB.id;omega)
  rw[e2,DP]at this
  have :=h.hid;have :=hB.id
  omega
 have lV:(k:Int)<4:=by have :=h.hid;have :=hB.id;omega
 refine h.upd mf (by rw[<-p6];exact oH _ _) (by rw[<-p6];exact sR _ _) p4 (by rw[<-p6];exact pI _ _) (by rw[<-p6];exact oI _ _) (by rw[<-p6];exact l7 _ _) Kl ?_ (fun e fQ Hx=>?_) (fun e fQ Hx=>?_) ae fun v y hy=>?_
 ·refine(rY.map eO).nodup_iff.2 ?_
  rw[aL,bI]
  refine⟨fun Cx=>?_,h.oy⟩
  obtain⟨e,fQ,Nf⟩:=ay.1 Cx
  exact aa0 e fQ Nf
 ·rcases aF.1 (rY.mem_iff.1 fQ)with rfl|Nf
  ·dsimp only;rw[DP];omega
  ·exact h.wy e Nf Hx
 ·rw[tT]
  rcases aF.1 (rY.mem_iff.1 fQ)with rfl|Nf
  ·dsimp only;rw[DP];omega
  ·have :=h.lt e Nf Hx;omega
 ·rw[gY]at hy
  rcases lj YL hy with⟨rfl,rfl⟩|⟨gN,hy⟩
  ·have ui:=h.unit v x kN
   refine⟨fun p hp=>?_,?_,fun g hg=>?_,ui.gn⟩
   ·rcases aN.1 hp with hp|hp
    ·obtain⟨a,b,e,fQ,e3⟩:=ui.aM p hp
     exact⟨fun hh=>by rw[cG p4];exact a ZJ,by rw[mf];exact b,e,lC e fQ,by rw[fF p4 mf];exact e3⟩
    ·simp at hp;subst hp
     refine⟨fun hh=>by rw[cG p4];exact hjm.2 (by rw[<-mf];exact hh),by rw[mf,h.hid];dsimp only;rw[DP];omega,_,rY.mem_iff.2 List.mem_cons_self,by rw[fF p4 mf];exact hjm.1.symm,rfl,rfl⟩
   ·dsimp only
    rw[aZ,List.nodup_append]
    refine⟨ui.pn,by simp,fun a ha b hb=>?_⟩
    obtain⟨p,hp,rfl⟩:=ay.1 ha
    obtain⟨-,-,e,fQ,-,e3,-⟩:=ui.aM p hp
    simp at hb
    subst hb
    have :=aa0 e fQ
    unfold eO at this
    rw[e3]at this;exact this
   ·obtain⟨i',d,e,fQ,e3⟩:=ui.bu g hg
    exact⟨i',by rw[cG p4];exact d,e,lC e fQ,e3⟩
  ·have ui:=h.unit v y hy
   refine⟨fun p hp=>?_,ui.pn,fun g hg=>?_,ui.gn⟩
   ·obtain⟨a,b,e,fQ,e3⟩:=ui.aM p hp
    exact⟨fun hh=>by rw[cG p4];exact a ZJ,by rw[mf];exact b,e,lC e fQ,by rw[fF p4 mf];exact e3⟩
   ·obtain⟨i',d,e,fQ,e3⟩:=ui.bu g hg
    exact⟨i',by rw[cG p4];exact d,e,lC e fQ,e3⟩
theorem HI.get(h:HI k H D H0)(hB:cK n H){u:Nat}(hu:u<5){s:ak}(he:lR H u s=0):
 HI k (jZ H u s) D H0/\∃i,(i,getM H u s)∈hk H/\4<=i:=by
 obtain⟨i,yY,Br⟩:∃i,H.qI s=some i/\nV (H.ec i)=0:=by
  have h0:=he
  unfold lR at h0
  split at h0
  ·cases h0
  ·cases hq:H.qI s with
   |none=>rw[hq]at h0;cases h0
   |some i=>
    rw[hq]at h0
    dsimp only at h0
    split at h0
    ·cases h0
    ·split at h0
     ·cases h0
     ·exact⟨i,rfl,h0⟩
 have qn:=(ik yY).1
 obtain⟨q,W_⟩:∃q,zI (H.ec i)=some q:=by
  unfold nV at Br
  split at Br
  ·cases Br
  ·rename_i q k9;exact⟨q,k9⟩
 obtain⟨uX,Tc,-⟩:=List.findIdx?_eq_some_iff_getElem.1 W_
 have Kj:(H.ec i).l[q]? =some (H.ec i).l[q]:=ao uX
 generalize hy:(H.ec i).l[q]=y at Kj Tc
 have hit:IF (H.ec i).l q=y:=pW Kj
 have DR:mX (H.ec i)=y.m:=by unfold mX;rw[W_];dsimp only;rw[hit]
 have hgq:oM (H.ec i) u=⟨(H.ec i).l.set q {y with iS:=(u:Int)},(H.ec i).next⟩:=by unfold oM;rw[W_];dsimp only;rw[if_neg ae,hit]
 have hM:getM H u s=y.m:=by unfold getM;rw[if_pos he,yY];exact DR
 unfold f_ at Tc
 simp only[bn,decide_eq_true_eq]at Tc
 obtain⟨Rr,p1,p2⟩:=Lf {y with iS:=(u:Int)} (K2 hB qn) Kj (H.ec i).next
 have kN:=gu hB hu
 generalize hx:H.eP u=x at kN
 have e1:jZ H u s=cQ (H.fB i (oM (H.ec i) u)) u ⟨x.aM,x.bu++[(y.m.id,s)]⟩:=by
  unfold jZ
  rw[if_pos he,aA,hx,yY]
  simp only[Option.getD_some]
  rw[DR]
 rw[e1,hM]
 generalize p6:cQ (H.fB i (oM (H.ec i) u)) u ⟨x.aM,x.bu++[(y.m.id,s)]⟩=H'
 have rY:(hv H').Perm (gE (4+i) {y with iS:=(u:Int)}::Rr):=by
  have h3:H'.all=(H.fB i (oM (H.ec i) u)).all:=by rw[<-p6];rfl
  unfold hv
  rw[h3,ko hB.ways,hgq]
  exact p2
 have hvH:(hv H).Perm (gE (4+i) y::Rr):=p1
 have p4:cb H'=cb H:=by rw[<-p6];exact jN _ _
 have mf:H'.id=H.id:=by rw[<-p6];rfl
 have tT:H'.next=H.next:=by rw[<-p6];rfl
 have gY:H'.aB=H.aB.set u ⟨x.aM,x.bu++[(y.m.id,s)]⟩:=by rw[<-p6];rfl
 have Kl:(hk H').Perm (hk H):=by
  unfold hk
  refine((rY.filter _).map _).trans (List.Perm.trans (List.Perm.of_eq ?_) ((hvH.filter _).map _).symm)
  rw[bE,bE]
  have :iW (gE (4+i) y)=true:=by unfold iW gE;simpa using Tc.1
  rw[if_pos this,if_pos (show iW (gE (4+i) {y with iS:=(u:Int)})=true from this)]
  rfl
 have nN:((hv H').map eO).Perm ((hv H).map eO):=(rY.map eO).trans (hvH.map eO).symm
 have lC:∀e∈hv H,e∈hv H'\/e=gE (4+i) y:=fun e he=>by
  rcases aF.1 (hvH.mem_iff.1 he)with rfl|h1
  ·exact .inr rfl
  ·exact .inl (rY.mem_iff.2 (List.mem_cons_of_mem _ h1))
 have hyv:gE (4+i) y∈hv H:=hvH.mem_iff.2 List.mem_cons_self
 have aeM:gE (4+i) {y with iS:=(u:Int)}∈hv H':=rY.mem_iff.2 List.mem_cons_self
 have Gx:∀e∈hv H',∃e'∈hv H,e'.j=e.j/\e'.m=e.m:=fun e he=>by
  rcases aF.1 (rY.mem_iff.1 he)with rfl|h1
  ·exact⟨_,hyv,rfl,rfl⟩
  ·exact⟨e,hvH.mem_iff.2 (List.mem_cons_of_mem _ h1),rfl,rfl⟩
 have IS:∀v p (j':Nat) (e:En),e∈hv H->e.j=j'->e.m=p->e.put=((v:Nat):Int)->∃e∈hv H',e.j=j'/\e.m=p/\e.put=((v:Nat):Int):=fun v p i' e he a b d=>by
  rcases lC e he with h1|rfl
  ·exact⟨e,h1,a,b,d⟩
  ·have :y.put=(v:Int):=d
   omega
 have mg:∀(v:Nat) k' (i':Nat) (e:En),e∈hv H->e.j=4+i'->eO e=k'->e.put<0->e.iS=((v:Nat):Int)->∃e∈hv H',e.j=4+i'/\eO e=k'/\e.put<0/\e.iS=((v:Nat):Int):=fun v k' i' e he a b d f=>by
  rcases lC e he with h1|rfl
  ·exact⟨e,h1,a,b,d,f⟩
  ·have :y.iS=(v:Int):=f
   omega
 refine⟨h.upd mf QC QC p4 QC QC QC Kl (nN.nodup_iff.2 h.oy) (fun e fQ Hx=>?_) (fun e fQ Hx=>?_) ae fun v z hz=>?_,4+i,?_,by omega⟩
 ·obtain⟨e',a,b,d⟩:=Gx e fQ
  rw[<-d];exact h.wy e' a (by rw[b];exact Hx)
 ·obtain⟨e',a,b,d⟩:=Gx e fQ
  rw[<-d]at Hx ⊢;rw[tT];exact h.lt e' a Hx
 ·rw[gY]at hz
  rcases lj YL hz with⟨rfl,rfl⟩|⟨gN,hz⟩
  ·have ui:=h.unit v x kN
   refine⟨fun p hp=>?_,ui.pn,fun g hg=>?_,?_⟩
   ·obtain⟨a,b,e,fQ,e3,e4,e5⟩:=ui.aM p hp
    exact⟨fun hh=>by rw[cG p4];exact a ZJ,by rw[mf];exact b,by rw[fF p4 mf];exact IS v _ _ e fQ e3 e4 e5⟩
   ·rcases aN.1 hg with hg|hg
    ·obtain⟨i',d,e,fQ,e3,e4,e5,e6⟩:=ui.bu g hg
     exact⟨i',by rw[cG p4];exact d,mg v _ i' e fQ e3 e4 e5 e6⟩
    ·simp at hg;subst hg
     exact⟨i,by rw[cG p4];exact yY,_,aeM,rfl,rfl,Tc.1,rfl⟩
   ·dsimp only
    rw[aZ,List.nodup_append]
    refine⟨ui.gn,by simp,fun a ha b hb=>?_⟩
    obtain⟨g,hg,rfl⟩:=ay.1 ha
    obtain⟨i',-,e,fQ,-,e4,-,e6⟩:=ui.bu g hg
    simp at hb
    subst hb
    intro e7
    have :e=gE (4+i) y:=gQ h.oy fQ hyv (by rw[e4,e7];rfl)
    rw[this]at e6
    have :y.iS=(v:Int):=e6
    omega
  ·have ui:=h.unit v z hz
   refine⟨fun p hp=>?_,ui.pn,fun g hg=>?_,ui.gn⟩
   ·obtain⟨a,b,e,fQ,e3,e4,e5⟩:=ui.aM p hp
    exact⟨fun hh=>by rw[cG p4];exact a ZJ,by rw[mf];exact b,by rw[fF p4 mf];exact IS v _ _ e fQ e3 e4 e5⟩
   ·obtain⟨i',d,e,fQ,e3,e4,e5,e6⟩:=ui.bu g hg
    exact⟨i',by rw[cG p4];exact d,mg v _ i' e fQ e3 e4 e5 e6⟩
 ·unfold hk
  exact ay.2 ⟨gE (4+i) y,aC.2 ⟨hyv,by unfold iW gE;simpa using Tc.1⟩,rfl⟩
theorem HI.back(h:HI k H D H0)(hB:cK n H){u:Nat}(hu:u<5)(he:Bz H u=0):HI k (ou H u) D H0:=by
 have e1:ou H u=cQ (cE H u) u cC:=by unfold ou;rw[if_pos he,aA]
 rw[e1]
 have rY:hv (cQ (cE H u) u cC)=((hv H).filter fun e=> !decide (e.put=(u:Int))).map (fN u):=u6 H ae
 have p4:cb (cQ (cE H u) u cC)=cb H:=by unfold cb cQ cE;simp
 generalize p6:cQ (cE H u) u cC=H' at rY p4
 have mf:H'.id=H.id:=by rw[<-p6];rfl
 have tT:H'.next=H.next:=by rw[<-p6];rfl
 have gY:H'.aB=H.aB.set u cC:=by rw[<-p6];rfl
 have lC:∀e∈hv H,e.put≠(u:Int)->fN u e∈hv H':=fun e he hp=>by
  rw[rY];exact bO (aC.2 ⟨he,by simpa using hp⟩)
 have Gx:∀e∈hv H',∃e'∈hv H,e'.j=e.j/\e'.m=e.m:=fun e he=>by
  rw[rY]at he
  obtain⟨e',h1,rfl⟩:=ay.1 he
  exact⟨e',(aC.1 h1).1,rfl,rfl⟩
 have Kl:hk H'=hk H:=by
  unfold hk
  rw[rY,List.filter_map,List.map_map,bp]
  rw[show(pV∘fN u)=pV from rfl]
  congr 1
  apply List.filter_congr
  intro e _
  unfold iW fN
  dsimp only[Function.comp]
  by_cases e1:e.put=(u:Int)
  ·have :¬e.put<0:=by omega
   simp[e1]
  ·simp[e1]
 refine h.upd mf QC QC p4 QC QC QC (by rw[Kl]) ?_ (fun e fQ Hx=>?_) (fun e fQ Hx=>?_) ae fun v y hy=>?_
 ·rw[rY,List.map_map,show(eO∘fN u)=eO from rfl]
  exact h.oy.sublist (List.filter_sublist.map _)
 ·obtain⟨e',a,b,d⟩:=Gx e fQ
  rw[<-d];exact h.wy e' a (by rw[b];exact Hx)
 ·obtain⟨e',a,b,d⟩:=Gx e fQ
  rw[<-d]at Hx ⊢;rw[tT];exact h.lt e' a Hx
 ·rw[gY]at hy
  rcases lj YL hy with⟨rfl,rfl⟩|⟨gN,hy⟩
  ·exact UJ.nil _ _
  ·have ui:=h.unit v y hy
   have WA:((v:Nat):Int)≠(u:Int):=fun e=>gN ae
   refine⟨fun p hp=>?_,ui.pn,fun g hg=>?_,ui.gn⟩
   ·obtain⟨a,b,e,fQ,e3,e4,e5⟩:=ui.aM p hp
    refine⟨fun hh=>by rw[cG p4];exact a ZJ,by rw[mf];exact b,_,lC e fQ (by rw[e5];exact WA),by rw[fF p4 mf];exact e3,e4,?_⟩
    unfold fN;dsimp only;rw[if_neg (by rw[e5];exact WA)];exact e5
   ·obtain⟨i',d,e,fQ,e3,e4,e5,e6⟩:=ui.bu g hg
    have OW:e.put≠(u:Int):=by omega
    refine⟨i',by rw[cG p4];exact d,_,lC e fQ OW,e3,e4,?_,?_⟩
    ·unfold fN;dsimp only;rw[if_neg OW];exact e5
    ·unfold fN;dsimp only;rw[if_neg (by rw[e6];exact WA)];exact e6
end
section
variable {c kb k n:Nat} {H H0:Ho} {D:Dk}
theorem HI.B0(h:HI k H D H0)(hb:lf c kb k (H,D))(hk:k<4)(hK:kb<=1000000000000):cK (300+c+250*H0.used) H0/\WR H0:=by
 have h1:=hb.cx hk hK
 rw[h.opened]at h1
 exact⟨h1.B,h1.ways⟩
theorem dx{α:Type}{l:List α}{d:Nat}(hd:d<l.length)(x z:α)(b:Nat):(l.set d x).getD b z=if b=d then x else l.getD b z:=by
 rw[aq,aq,List.getElem?_set]
 by_cases e:b=d
 ·rw[if_pos e,if_pos e.symm,if_pos hd];rfl
 ·rw[if_neg e,if_neg fun e2=>e e2.symm]
theorem bc4(hB:cK n H){d:Nat}(hd:4<=d):bm H d=[]:=by
 unfold bm
 rw[aq,br (by rw[hB.batch];exact hd)];rfl
theorem r8{u:Int}(he:vj H D u=0):kP H u=0/\c7 H D=0:=by
 unfold vj at he
 by_cases h1:kP H u≠0
 ·rw[if_pos h1]at he;exact absurd he h1
 ·rw[if_neg h1]at he
  exact⟨by simpa using h1,he⟩
theorem kQ(u:Int):(la H D u).aB=if vj H D u=0 then H.aB.set u.toNat cC else H.aB:=by
 by_cases he:vj H D u=0
 ·rw[if_pos he]
  obtain⟨h1,h2⟩:=r8 he
  unfold la
  rw[if_neg Nn,if_neg Rq]
  rw[(nq _ _).aB]
  unfold cQ cE
  dsimp only
  rw[zY]
 ·rw[if_neg he]
  unfold vj at he
  unfold la
  by_cases h1:kP H u≠0
  ·rw[if_pos h1]
  ·rw[if_neg h1]at he ⊢
   rw[if_pos he,zY]
theorem sU{x:pg}(Aj:iL x):(oK x).size<=700000:=by
 have dK:=Aj.size
 rw[yS]
 have e1:(cv 117).size=1:=rfl
 have e2:(cv 58).size=1:=rfl
 simp only[aU];omega
theorem HI.mo(h:HI k H D H0)(hb:lf c kb k (H,D)){u:Nat}(hu:u<5)(he:vj H D u≠0):HI k (la H D u) (od H D u) H0:=by
 unfold vj at he
 unfold la od
 by_cases h1:kP H u≠0
 ·rw[if_pos h1,if_pos h1];exact h
 ·rw[if_neg h1]at he
  rw[if_neg h1,if_neg h1,if_pos he,aA]
  have Aj:=(hb.aB _ (ax (gu hb.B hu))).1
  exact h.fail (sU Aj) (y_ Aj) he
theorem HI.kO(h:HI k H D H0)(hb:lf c kb k (H,D))(hk:k<4)(hK:kb<=1000000000000)(hc:c<=250){u:Nat}(hu:u<5)(he:vj H D u=0):
 ∃H3,HI k (la H D u) (od H D u) H3/\(ny H3).bg.Perm (((H.eP u).aM.map (fun p=>(nG H p.1,p.1))++(ny H0).bg).filter fun y=> !decide (pd y∈(H.eP u).bu.map (·.1)))/\H3.batch=H0.batch/\H3.bW=H0.bW/\H3.aK=H0.aK/\H0.next<=H3.next/\∀p∈(H.eP u).aM,p.1.id/4<H3.next:=by
 obtain⟨h1,h2⟩:=r8 he
 have hB:=hb.B
 have kN:=gu hB hu
 unfold la od
 rw[if_neg (show ¬kP H (u:Int)≠0 by simpa using h1),if_neg (show ¬kP H (u:Int)≠0 by simpa using h1),if_neg (show ¬c7 H D≠0 by simpa using h2),aA]
 dsimp only at kN hB
 generalize hx:H.eP u=x at kN
 obtain⟨Aj,U2⟩:=hb.aB x (ax kN)
 have S2:=sU Aj
 obtain⟨eL,-,-,-⟩:=dA h2 (oK x)
 rw[eL]
 have ui:=h.unit u x kN
 have h_:cK (300+c+250*H.used) (cQ (cE {H with used:=H.used+1} u) u cC):=by
  have :=hB.log (D:=D)
  rw[eL]at this
  exact(this.cE _).cQ _ _
 have Me:hv (cQ (cE {H with used:=H.used+1} u) u cC)=((hv H).filter fun e=> !decide (e.put=(u:Int))).map (fN u):=u6 {H with used:=H.used+1} ae
 have p4:cb (cQ (cE {H with used:=H.used+1} u) u cC)=cb H:=by unfold cb cQ cE;simp
 generalize Mt:cQ (cE {H with used:=H.used+1} u) u cC=H1 at h_ Me p4
 have ob:H1.names=H.names:=by rw[<-Mt];rfl
 have mf:H1.id=H.id:=by rw[<-Mt];rfl
 have si:H1.used=H.used+1:=by rw[<-Mt];rfl
 have tT:H1.next=H.next:=by rw[<-Mt];rfl
 have gY:H1.aB=H.aB.set u cC:=by rw[<-Mt];rfl
 have sI:H1.batch=H.batch:=by rw[<-Mt];rfl
 have Cn:H1.bW=H.bW:=by rw[<-Mt];rfl
 have x4:H1.aK=H.aK:=by rw[<-Mt];rfl
 have lC:∀e∈hv H,e.put≠(u:Int)->fN u e∈hv H1:=fun e he hp=>by
  rw[Me];exact bO (aC.2 ⟨he,by simpa using hp⟩)
 have Pa:∀e∈hv H1,∃e'∈hv H,e'.put≠(u:Int)/\e=fN u e':=fun e he=>by
  rw[Me]at he
  obtain⟨e',h5,rfl⟩:=ay.1 he
  obtain⟨h6,h7⟩:=aC.1 h5
  exact⟨e',h6,by simpa using h7,rfl⟩
 have EA:((hv H1).map eO).Nodup:=by
  rw[Me,List.map_map,show(eO∘fN u)=eO from rfl]
  exact h.oy.sublist (List.filter_sublist.map _)
 obtain⟨H2,e2,p2,k2,n2,s2,x2,y2,z2,tV⟩:=CP h_ Aj EA
  (fun p hp hh=>by
   obtain⟨i,hi⟩:=(ui.aM p hp).1 ZJ
   exact⟨i,by rw[cG p4];exact hi⟩) ui.pn
  (fun p hp e he e3=>by
   obtain⟨e',h5,h6,rfl⟩:=Pa e he
   obtain⟨-,-,e4,h7,-,h8,h9⟩:=ui.aM p hp
   have :e'=e4:=gQ h.oy h5 h7 (by rw[show eO e'=p.1.id from e3];unfold eO;rw[h8])
   rw[this]at h6;exact h6 h9) ui.gn
  (fun g hg=>by
   obtain⟨i,d,e,h5,h6,h7,h8,-⟩:=ui.bu g hg
   exact⟨i,by rw[cG p4];exact d,_,lC e h5 ae,h6,h7⟩)
 have qQ:=(h.B0 hb hk hK).1
 have abe:H0.id=H.id:=by rw[h.OM,h.hid]
 obtain⟨H3,e3,p3,k3,n3,s3,x3,y3,z3,Vi⟩:=CP qQ Aj h.OL
  (fun p hp hh=>by
   obtain⟨i,hi⟩:=(ui.aM p hp).1 (by rw[hh,abe])
   exact⟨i,by rw[cG h.keys];exact hi⟩) ui.pn
  (fun p hp e he e3=>by
   obtain⟨e',h5,-,h6,h7⟩:=h.in0 he
   obtain⟨-,-,e4,h8,-,h9,HH⟩:=ui.aM p hp
   have :e'=e4:=gQ h.oy h5 h8 (by unfold eO at *;rw[h6,h9];exact e3)
   rw[this,HH]at h7;omega) ui.gn
  (fun g hg=>by
   obtain⟨i,d,e,h5,h6,h7,h8,-⟩:=ui.bu g hg
   obtain⟨e',h9,HH,I9⟩:=h.to0 h5 h8
   exact⟨i,by rw[cG h.keys];exact d,e',h9,by rw[HH];exact h6,by unfold eO at *;rw[I9];exact h7⟩)
 rw[e2]
 dsimp only
 have lV:(k:Int)<4:=by omega
 have hj1:∀m,nG H1 m=nG H m:=fF p4 mf
 have hj0:∀m,nG H0 m=nG H m:=fF h.keys abe
 have hN1:(x.aM.map fun p=>(⟨nG H1 p.1,p.1,-1,-1⟩:En))=x.aM.map fun p=>⟨nG H p.1,p.1,-1,-1⟩:=by
  apply List.map_congr_left;intro p _;rw[hj1]
 have hN0:(x.aM.map fun p=>(⟨nG H0 p.1,p.1,-1,-1⟩:En))=x.aM.map fun p=>⟨nG H p.1,p.1,-1,-1⟩:=by
  apply List.map_congr_left;intro p _;rw[hj0]
 rw[hN1]at p2
 rw[hN0]at p3
 have hNj:(x.aM.map fun p=>(nG H p.1,p.1))=(x.aM.map fun p=>(⟨nG H p.1,p.1,-1,-1⟩:En)).map pV:=by rw[List.map_map];rfl
 rw[hNj]
 generalize hN:(x.aM.map fun p=>(⟨nG H p.1,p.1,-1,-1⟩:En))=N at p2 p3
 have Mr:∀e∈N,e.put= -1/\e.iS= -1/\∃p∈x.aM,e.m=p.1:=fun e he=>by
  rw[<-hN]at he
  obtain⟨p,hp,rfl⟩:=ay.1 he
  exact⟨rfl,rfl,p,hp,rfl⟩
 have hNi:N.map eO=x.aM.map fun p=>p.1.id:=by rw[<-hN,List.map_map];rfl
 have k9:((hv H1).filter iW).map pV=WB.hk H:=by
  unfold WB.hk
  rw[Me,List.filter_map,List.map_map,bp]
  rw[show(pV∘fN u)=pV from rfl]
  congr 1
  apply List.filter_congr
  intro e _
  unfold iW fN
  dsimp only[Function.comp]
  by_cases e1:e.put=(u:Int)
  ·have :¬e.put<0:=by omega
   simp[e1]
  ·simp[e1]
 have Xj:((hv H3).map pV).Perm ((N.map pV++(hv H0).map pV).filter fun y=> !decide (pd y∈x.bu.map (·.1))):=by
  refine(p3.map pV).trans (List.Perm.of_eq ?_)
  rw[<-aZ,List.filter_map];rfl
 have F4:(WB.hk H2).Perm ((hv H3).map pV):=by
  have a1:(WB.hk H2).Perm ((((N++hv H1).filter iW).map pV).filter fun y=> !decide (pd y∈x.bu.map (·.1))):=by
   unfold WB.hk
   refine((p2.filter iW).map pV).trans (List.Perm.of_eq ?_)
   rw[List.filter_map,bp,bp]
   congr 1
   apply List.filter_congr
   intro e _
   rw[Bool.and_comm];rfl
  refine a1.trans (List.Perm.trans (List.Perm.filter _ ?_) Xj.symm)
  rw[bB,aZ,k9]
  rw[aT.2 (fun e he=>by unfold iW;simp[(Mr e he).1])]
  exact(List.Perm.refl _).append h.ye
 have aaZ:((hv H2).map eO).Nodup:=by
  refine(p2.map eO).nodup_iff.2 (List.Nodup.sublist (List.filter_sublist.map _) ?_)
  rw[aZ,List.nodup_append,hNi]
  refine⟨ui.pn,EA,fun a ha b hb=>?_⟩
  obtain⟨p,hp,rfl⟩:=ay.1 ha
  obtain⟨e,he,rfl⟩:=ay.1 hb
  obtain⟨e',h5,h6,rfl⟩:=Pa e he
  obtain⟨-,-,e4,h7,-,h8,h9⟩:=ui.aM p hp
  intro e5
  have :e'=e4:=gQ h.oy h5 h7 (by unfold eO at *;rw[h8];exact e5.symm)
  rw[this]at h6;exact h6 h9
 have Cx:∀e∈hv H2,(∃p∈x.aM,e.m=p.1)\/∃e'∈hv H,e.j=e'.j/\e.m=e'.m:=fun e he=>by
  rw[p2.mem_iff,aC]at he
  rcases aN.1 he.1 with h5|h5
  ·exact .inl (Mr e h5).2.2
  ·obtain⟨e',h6,-,rfl⟩:=Pa e h5
   exact .inr ⟨e',h6,rfl,rfl⟩
 have F3:∀e∈hv H,e.put≠(u:Int)->eO e∉x.bu.map (·.1)->fN u e∈hv H2:=fun e he h5 h6=>by
  rw[p2.mem_iff,aC]
  exact⟨List.mem_append_right _ (lC e he h5),by rw[show eO (fN u e)=eO e from rfl];simpa using h6⟩
 have Xb:∀e∈hv H,eO e∈x.bu.map (·.1)->e.put<0/\e.iS=(u:Int)/\4<=e.j:=fun e he h5=>by
  obtain⟨g,hg,h6⟩:=ay.1 h5
  obtain⟨i,-,e4,h7,I9,h8,h9,HH⟩:=ui.bu g hg
  have :e=e4:=gQ h.oy he h7 (by rw[h8];exact h6.symm)
  rw[this];exact⟨h9,HH,by omega⟩
 have Zh:∀s,H2.qI s=H.qI s:=fun s=>by rw[cG k2,cG p4]
 have hjj:∀m,nG H2 m=nG H m:=fun m=>by rw[fF k2 s2.id,hj1]
 have hle:H.next<=H2.next:=by rw[<-tT];exact x2
 refine⟨{H3 with used:=H0.used+1},?_,Xj,s3.batch,s3.bW,s3.aK,x3,y3⟩
 refine h.Dx h2 S2 (y_ Aj) (Aj.VZ ae) (by rw[xW];exact e3) (by rw[s2.id,mf]) (by rw[s2.used,si]) (by rw[n2,ob];exact n3.trans h.names) (by rw[k2,p4];exact k3.trans h.keys) (by rw[s2.batch,sI];exact s3.batch.trans h.bt) (by rw[s2.bW,Cn];exact s3.bW.trans h.sn) (by rw[s2.aK,x4];exact s3.aK.trans h.av) (k2.trans p4)
  (fun e he=>?_) F4 aaZ (fun e he hj=>?_) (fun e he hj=>?_) (fun e he hj=>?_) (z3 _ (by have :=h.nx;omega) y2) (fun v y hy=>?_) (fun d i hi=>?_)
 ·rw[p3.mem_iff,aC]at he
  rcases aN.1 he.1 with h5|h5
  ·exact⟨(Mr e h5).1,(Mr e h5).2.1⟩
  ·exact h.nu e h5
 ·rcases Cx e he with⟨p,hp,h5⟩|⟨e',h6,h5,h7⟩
  ·rw[h5,(ui.aM p hp).2.1,h.hid]
  ·rw[h7];exact h.wy e' h6 (by rw[<-h5];exact hj)
 ·rcases Cx e he with⟨p,hp,h5⟩|⟨e',h6,h5,h7⟩
  ·rw[h5];exact y2 p hp
  ·rw[h7]at hj ⊢
   have :=h.lt e' h6 hj;omega
 ·rw[p3.mem_iff,aC]at he
  rcases aN.1 he.1 with h5|h5
  ·obtain⟨-,-,p,hp,h6⟩:=Mr e h5
   rw[h6];exact y3 p hp
  ·have :=h.Ot e h5 hj;omega
 ·rw[s2.aB,gY]at hy
  rcases lj YL hy with⟨rfl,rfl⟩|⟨gN,hy⟩
  ·exact UJ.nil _ _
  ·have vi:=h.unit v y hy
   have WA:((v:Nat):Int)≠(u:Int):=fun e=>gN ae
   refine⟨fun p hp=>?_,vi.pn,fun g hg=>?_,vi.gn⟩
   ·obtain⟨a,b,e,fQ,e3,e4,e5⟩:=vi.aM p hp
    have OW:e.put≠(u:Int):=by rw[e5];exact WA
    refine⟨fun hh=>by rw[Zh];exact a (by rw[hh,s2.id,mf]),by rw[s2.id,mf];exact b,_,F3 e fQ OW (fun hh=>?_),by rw[hjj];exact e3,e4,?_⟩
    ·have :=(Xb e fQ hh).1;omega
    ·unfold fN;dsimp only;rw[if_neg OW];exact e5
   ·obtain⟨i',d,e,fQ,e3,e4,e5,e6⟩:=vi.bu g hg
    have OW:e.put≠(u:Int):=by omega
    refine⟨i',by rw[Zh];exact d,_,F3 e fQ OW (fun hh=>?_),e3,e4,?_,?_⟩
    ·have :=(Xb e fQ hh).2.1
     exact WA (by rw[<-e6,this])
    ·unfold fN;dsimp only;rw[if_neg OW];exact e5
    ·unfold fN;dsimp only;rw[if_neg (by rw[e6];exact WA)];exact e6
 ·have hbb:bm H2 d=bm H d:=by unfold bm;rw[s2.batch,sI]
  rw[hbb]at hi
  obtain⟨y,hy,a,b⟩:=h.bin d i hi
  refine⟨y,F4.mem_iff.2 (Xj.mem_iff.2 (aC.2 ⟨List.mem_append_right _ (h.ye.mem_iff.1 hy),?_⟩)),a,b⟩
  have Gv:d<4:=by
   rcases Nat.lt_or_ge d 4 with h5|h5
   ·exact h5
   ·rw[bc4 hB h5]at hi;cases hi
  obtain⟨e,he,rfl⟩:=ay.1 hy
  have :eO e∉x.bu.map (·.1):=fun hh=>by
   have :=(Xb e (aC.1 he).1 hh).2.2
   have :e.j=d:=a
   omega
  show(!decide (eO e∈x.bu.map (·.1)))=true
  rw[decide_eq_false this];rfl
end
section
variable {c kb k n:Nat} {H H0:Ho} {D:Dk}
theorem Lz{H H':Ho}(h:H'.id=H.id)(a:Int):cj H' a=cj H a:=by unfold cj;rw[h]
theorem fh{a:Int}(h:dQ H a=true):cj H a=true/\H.down=false/\bm H a.toNat=[]/\dF (H.dy a.toNat)≠[]:=by
 unfold dQ at h
 rw[decide_eq_true_eq]at h
 obtain⟨h1,h2⟩:=h
 unfold kR at h1
 split at h1
 ·cases h1
 ·rename_i h3
  split at h1
  ·cases h1
  ·rename_i h4
   split at h1
   ·cases h1
   ·rename_i h5
    exact⟨by simpa using h3,by simpa using h4,h2,fun h6=>h5 ⟨h2,h6⟩⟩
theorem ND(hB:cK n H){j:Nat}(hj:j<4){m:Ms}(hm:m∈dF (H.dy j)):(j,m)∈hk H:=by
 unfold dF at hm
 obtain⟨e,he,rfl⟩:=ay.1 hm
 obtain⟨h1,h2⟩:=aC.1 he
 unfold f_ at h2
 simp only[bn,decide_eq_true_eq]at h2
 unfold hk
 refine ay.2 ⟨gE j e,aC.2 ⟨fH.2 ⟨H.dy j,iH hB.ways hj,e,h1,rfl⟩,?_⟩,rfl⟩
 unfold iW gE
 simpa using h2.1
theorem HI.made(h:HI k H D H0)(hb:lf c kb k (H,D)){a:Int}(hn:dQ H a=true)(he:c7 H D=0):
 ∃H3,HI k (gR H D a) (lF H D a) H3/\hv H3=hv H0/\H3.batch=H0.batch.set a.toNat (cP H a.toNat)/\H3.bW=H0.bW.set a.toNat (bD H0 a.toNat+1)/\H3.aK=H0.aK/\H3.next=H0.next/\cP H a.toNat≠[]/\(∀i∈cP H a.toNat,∃y∈(ny H0).bg,y.1=a.toNat/\pd y=i)/\bm (gR H D a) a.toNat=cP H a.toNat/\bD (gR H D a) a.toNat=bD H a.toNat+1/\(gR H D a).dy a.toNat=H.dy a.toNat:=by
 obtain⟨h1,-,h3,h4⟩:=fh hn
 have hr:=bM.1 h1
 have hB:=hb.B
 dsimp only at hB
 have hj:a.toNat<4:=by omega
 have gN:cP H a.toNat≠[]:=by
  unfold cP
  intro h5
  rw[List.map_eq_nil_iff,List.take_eq_nil_iff]at h5
  rcases h5 with h5|h5
  ·cases h5
  ·exact h4 h5
 have qm:∀i∈cP H a.toNat,∃m,(a.toNat,m)∈hk H/\m.id=i:=fun i hi=>by
  unfold cP at hi
  obtain⟨m,hm,rfl⟩:=ay.1 hi
  exact⟨m,ND hB hj (List.mem_of_mem_take hm),rfl⟩
 have hint:∀i∈cP H a.toNat,oR i:=fun i hi=>by
  unfold cP at hi
  obtain⟨m,hm,rfl⟩:=ay.1 hi
  have h5:=List.mem_of_mem_take hm
  unfold dF at h5
  obtain⟨e,he,rfl⟩:=ay.1 h5
  have :=(hB.w hj).ids e (aC.1 he).1
  exact⟨by omega,by omega⟩
 have hlen:(cP H a.toNat).length<=3:=by unfold cP;simp;omega
 have hbl:H.batch.length=4:=hB.batch
 have hsl:H.bW.length=4:=hB.bW
 obtain⟨eL,-,-,-⟩:=dA he (iU a (cP H a.toNat))
 have dK:(iU a (cP H a.toNat)).size<=700000:=by
  have :=(lp (k:=a) ⟨hr.1,hr.2.1⟩ hlen hint).size;omega
 have jg:fO 250 (iU a (cP H a.toNat)):=(lp (k:=a) ⟨hr.1,hr.2.1⟩ hlen hint).mono ae
 have e0:H0.id=H.id:=by rw[h.OM,h.hid]
 unfold gR lF
 rw[if_pos hn,if_pos hn]
 unfold lM
 rw[if_pos he,eL]
 obtain⟨i,r,Q9⟩:=List.exists_cons_of_ne_nil gN
 have p1:ck {H with used:=H.used+1} (iU a (cP H a.toNat))=({H with used:=H.used+1,batch:=H.batch.set a.toNat (cP H a.toNat),bW:=H.bW.set a.toNat (bD H a.toNat+1)},true):=by
  rw[Q9]
  exact n_ (H:={H with used:=H.used+1}) h1 Y43
 have p0:ck H0 (iU a (cP H a.toNat))=({H0 with batch:=H0.batch.set a.toNat (cP H a.toNat),bW:=H0.bW.set a.toNat (bD H0 a.toNat+1)},true):=by
  rw[Q9]
  exact n_ (H:=H0) ZN Y43
 rw[p1]
 dsimp only
 have Cn:bD H0 a.toNat=bD H a.toNat:=by unfold bD;rw[h.sn]
 refine⟨{H0 with batch:=H0.batch.set a.toNat (cP H a.toNat),bW:=H0.bW.set a.toNat (bD H0 a.toNat+1),used:=H0.used+1},?_,rfl,rfl,rfl,rfl,rfl,gN,fun i hi=>?_,?_,?_,rfl⟩
 ·refine h.Dx he dK (D6 _ _) jg p0 rfl rfl h.names h.keys (by dsimp only;rw[h.bt]) (by dsimp only;rw[Cn,h.sn]) h.av rfl h.nu h.ye h.oy h.wy h.lt h.Ot h.nx (fun u x hx=>(h.unit u x hx).same rfl rfl rfl) fun d i hi=>?_
  have e5:bm ({H with used:=H.used+1,batch:=H.batch.set a.toNat (cP H a.toNat),bW:=H.bW.set a.toNat (bD H a.toNat+1)}:Ho) d=if d=a.toNat then cP H a.toNat else bm H d:=by
   unfold bm;exact dx ae _ _ _
  rw[e5]at hi
  split at hi
  ·rename_i e6
   obtain⟨m,hm,e7⟩:=qm i hi
   exact⟨(a.toNat,m),hm,e6.symm,e7⟩
  ·exact h.bin d i hi
 ·obtain⟨m,hm,e7⟩:=qm i hi
  exact⟨(a.toNat,m),h.ye.mem_iff.1 hm,rfl,e7⟩
 ·unfold bm;rw[show({H with used:=H.used+1,batch:=H.batch.set a.toNat (cP H a.toNat),bW:=H.bW.set a.toNat (bD H a.toNat+1)}:Ho).batch=H.batch.set a.toNat (cP H a.toNat)from rfl,dx ae,if_pos rfl]
 ·show(H.bW.set a.toNat (bD H a.toNat+1)).getD a.toNat 0=bD H a.toNat+1
  rw[dx ae,if_pos rfl]
theorem HI.FJ(h:HI k H D H0)(hb:lf c kb k (H,D)){a:Int}(hn:dQ H a=false\/c7 H D≠0):HI k (gR H D a) (lF H D a) H0:=by
 unfold gR lF
 by_cases h1:dQ H a=true
 ·rw[if_pos h1,if_pos h1]
  rcases hn with hn|hn
  ·rw[hn]at h1;cases h1
  ·have hr:=bM.1 (fh h1).1
   have hB:=hb.B
   dsimp only at hB
   have hj:a.toNat<4:=by omega
   unfold lM
   rw[if_neg hn]
   refine h.fail ?_ (D6 _ _) hn
   have :=(lp (k:=a) (l:=cP H a.toNat) ⟨hr.1,hr.2.1⟩ (by unfold cP;simp;omega) (fun i hi=>by
    unfold cP at hi
    obtain⟨m,hm,rfl⟩:=ay.1 hi
    have h5:=List.mem_of_mem_take hm
    unfold dF at h5
    obtain⟨e,he,rfl⟩:=ay.1 h5
    have :=(hB.w hj).ids e (aC.1 he).1
    exact⟨by omega,by omega⟩)).size
   omega
 ·rw[if_neg h1,if_neg h1];exact h
theorem nz{a num:Int}(h:iT H a num=0):cj H a=true/\H.down=false/\bm H a.toNat≠[]/\num=bD H a.toNat:=by
 unfold iT at h
 split at h
 ·cases h
 ·rename_i h1
  split at h
  ·cases h
  ·rename_i h2
   split at h
   ·cases h
   ·rename_i h3
    refine⟨by simpa using h1,by simpa using h2,fun h4=>h3 (.inl h4),Decidable.byContradiction fun h4=>h3 (.inr h4)⟩
theorem zo{j:Nat}(hB:cK n H)(hj:j<4)(hn:((hv H).map eO).Nodup){b:List Int}(hb:∀e∈hv H,eO e∈b->e.j=j):(hv (H.gK j (cN (H.dy j) b))).Perm ((hv H).filter fun e=> !decide (eO e∈b)):=by
 unfold hv
 rw[km (by rw[hB.ways];exact hj)]
 exact BU b (iH hB.ways hj) hn hb
theorem HI.known(h:HI k H D H0)(hb:lf c kb k (H,D))(hk:k<4)(hK:kb<=1000000000000){a num:Int}(hp:iT H a num=0)(he:c7 H D=0):
 ∃H3,HI k (r9 H D a num) (AT H D a num) H3/\(ny H3).bg.Perm ((ny H0).bg.filter fun y=> !decide (pd y∈bm H0 a.toNat))/\H3.batch=H0.batch.set a.toNat []/\H3.bW=H0.bW/\H3.aK=H0.aK/\H3.next=H0.next:=by
 obtain⟨h1,-,h3,h4⟩:=nz hp
 have hr:=bM.1 h1
 have hB:=hb.B
 dsimp only at hB
 have qQ:=(h.B0 hb hk hK).1
 have hj:a.toNat<4:=by omega
 have hbl:H.batch.length=4:=hB.batch
 have e0:H0.id=H.id:=by rw[h.OM,h.hid]
 have Zv:bm H0 a.toNat=bm H a.toNat:=by unfold bm;rw[h.bt]
 obtain⟨eL,-,-,-⟩:=dA he (qW a)
 have jg:fO 250 (qW a):=(uB (k:=a) ⟨hr.1,hr.2.1⟩).mono ae
 have dK:(qW a).size<=700000:=by have :=jg.size;omega
 have qm:∀e∈hv H,eO e∈bm H a.toNat->e.j=a.toNat/\e.put<0:=fun e he hm=>by
  obtain⟨y,hy,a1,a2⟩:=h.bin _ _ hm
  obtain⟨e',Xe,rfl⟩:=ay.1 hy
  obtain⟨b1,b2⟩:=aC.1 Xe
  have :e=e':=gQ h.oy he b1 a2.symm
  rw[this]
  exact⟨a1,by unfold iW at b2;simpa using b2⟩
 have afu:∀e∈hv H0,eO e∈bm H a.toNat->e.j=a.toNat:=fun e he hm=>by
  obtain⟨e',b1,b2,b3,-⟩:=h.in0 he
  rw[<-b2]
  exact(qm e' b1 (by unfold eO at *;rw[b3];exact hm)).1
 unfold r9 AT
 rw[if_neg (show ¬iT H a num≠0 by simpa using hp),if_neg (show ¬iT H a num≠0 by simpa using hp)]
 unfold lM
 rw[if_pos he,eL]
 rw[me (H:={H with used:=H.used+1}) h1]
 dsimp only
 have q0:=me (H:=H0) (k:=a) ZN
 rw[Zv]at q0
 have v0:(hv (H0.gK a.toNat (cN (H0.dy a.toNat) (bm H a.toNat)))).Perm ((hv H0).filter fun e=> !decide (eO e∈bm H a.toNat)):=zo qQ hj h.OL afu
 have v1:(hv (H.gK a.toNat (cN (H.dy a.toNat) (bm H a.toNat)))).Perm ((hv H).filter fun e=> !decide (eO e∈bm H a.toNat)):=zo hB hj h.oy fun e he hm=>(qm e he hm).1
 generalize p6:({({H with used:=H.used+1}:Ho).gK a.toNat (cN (({H with used:=H.used+1}:Ho).dy a.toNat) (bm {H with used:=H.used+1} a.toNat))with batch:=H.batch.set a.toNat []}:Ho)=H'
 generalize Ni:({H0.gK a.toNat (cN (H0.dy a.toNat) (bm H a.toNat))with batch:=H0.batch.set a.toNat []}:Ho)=H3 at q0
 have v3:(hv H3).Perm ((hv H0).filter fun e=> !decide (eO e∈bm H a.toNat)):=by rw[<-Ni];exact v0
 have v2:(hv H').Perm ((hv H).filter fun e=> !decide (eO e∈bm H a.toNat)):=by rw[<-p6];exact v1
 have xZ:((hv H3).map pV).Perm (((hv H0).map pV).filter fun y=> !decide (pd y∈bm H a.toNat)):=by
  refine(v3.map pV).trans (List.Perm.of_eq ?_)
  rw[List.filter_map];rfl
 have F4:(WB.hk H').Perm ((hv H3).map pV):=by
  refine List.Perm.trans ?_ xZ.symm
  refine List.Perm.trans ?_ (h.ye.filter _)
  unfold WB.hk
  refine((v2.filter _).map _).trans (List.Perm.of_eq ?_)
  rw[List.filter_map,bp,bp]
  congr 1
  apply List.filter_congr
  intro e _
  rw[Bool.and_comm];rfl
 have k1:cb H'=cb H:=by rw[<-p6];rfl
 have hid:H'.id=H.id:=by rw[<-p6];rfl
 have F2:∀e∈hv H',e∈hv H:=fun e he=>(aC.1 (v2.mem_iff.1 he)).1
 refine⟨{H3 with used:=H0.used+1},?_,by rw[Zv];exact xZ,by rw[<-Ni],by rw[<-Ni];rfl,by rw[<-Ni];rfl,by rw[<-Ni];rfl⟩
 refine h.Dx he dK (K1 _) jg q0 hid QC (by rw[<-p6,<-Ni];exact h.names) (by rw[k1,<-h.keys,<-Ni];rfl) (by rw[<-p6,<-Ni];dsimp only;rw[h.bt]) (by rw[<-p6,<-Ni];exact h.sn) (by rw[<-p6,<-Ni];exact h.av) k1
  (fun e he=>h.nu e (aC.1 (v3.mem_iff.1 he)).1) F4 ((v2.map eO).nodup_iff.2 (h.oy.sublist (List.filter_sublist.map _))) (fun e he=>h.wy e (F2 e he)) (fun e he hj=>by rw[show H'.next=H.next from by rw[<-p6];rfl];exact h.lt e (F2 e he) hj)
  (fun e he hj=>by rw[show H3.next=H0.next from by rw[<-Ni];rfl];exact h.Ot e (aC.1 (v3.mem_iff.1 he)).1 hj) (by rw[<-p6,<-Ni];exact h.nx) (fun u x hx=>?_) fun d i hi=>?_
 ·have hx:H.aB[u]? =some x:=by rw[<-p6]at hx;exact hx
  have ui:=h.unit u x hx
  have F3:∀e∈hv H,(0<=e.put\/4<=e.j)->e∈hv H':=fun e he hh=>by
   rw[v2.mem_iff,aC]
   have :eO e∉bm H a.toNat:=fun hm=>by
    have :=qm e he hm
    omega
   exact⟨he,by rw[decide_eq_false this];rfl⟩
  refine⟨fun p hp=>?_,ui.pn,fun g hg=>?_,ui.gn⟩
  ·obtain⟨a1,a2,e,a3,a4,a5,a6⟩:=ui.aM p hp
   exact⟨fun hh=>by rw[cG k1];exact a1 (by rw[hh,hid]),by rw[hid];exact a2,e,F3 e a3 (.inl ae),by rw[fF k1 hid];exact a4,a5,a6⟩
  ·obtain⟨i,a1,e,a2,a3,a4⟩:=ui.bu g hg
   exact⟨i,by rw[cG k1];exact a1,e,F3 e a2 (.inr ae),a3,a4⟩
 ·have e5:bm H' d=if d=a.toNat then[]else bm H d:=by
   rw[<-p6]
   unfold bm;exact dx ae _ _ _
  rw[e5]at hi
  split at hi
  ·cases hi
  ·rename_i hd
   obtain⟨y,hy,a1,a2⟩:=h.bin d i hi
   refine⟨y,F4.mem_iff.2 (xZ.mem_iff.2 (aC.2 ⟨h.ye.mem_iff.1 hy,?_⟩)),a1,a2⟩
   have :pd y∉bm H a.toNat:=fun hm=>by
    obtain⟨e,he,rfl⟩:=ay.1 hy
    exact hd (a1.symm.trans (qm e (aC.1 he).1 hm).1)
   rw[decide_eq_false this];rfl
theorem HI.DE(h:HI k H D H0){a num:Int}(hp:iT H a num≠0\/c7 H D≠0):HI k (r9 H D a num) (AT H D a num) H0:=by
 unfold r9 AT
 by_cases h1:iT H a num≠0
 ·rw[if_pos h1,if_pos h1];exact h
 ·rw[if_neg h1,if_neg h1]
  have hp:c7 H D≠0:=hp.resolve_left h1
  unfold lM
  rw[if_neg hp]
  have hr:=bM.1 (nz Nn).1
  refine h.fail ?_ (K1 _) hp
  have :=(uB (k:=a) ⟨hr.1,hr.2.1⟩).size
  omega
theorem mR{a num:Int}{l:List Ms}(h:xg H a num l=true):cj H a=true/\H.down=false/\num=bY H a.toNat+1/\ju l=none/\(∀m∈l,jV H m=false)/\AY H l=false:=by
 unfold xg at h
 rw[decide_eq_true_eq]at h
 obtain⟨h1,h2⟩:=h
 unfold ry at h1
 split at h1
 ·cases h1
 ·rename_i g1
  split at h1
  ·cases h1
  ·rename_i g2
   split at h1
   ·rename_i g3;omega
   ·split at h1
    ·cases h1
    ·rename_i g4
     split at h1
     ·cases h1
     ·rename_i g5
      split at h1
      ·cases h1
      ·rename_i g6
       have g7:ju l=none:=Decidable.byContradiction fun g=>g5 (.inl g)
       have g8:l.any (jV H)=false:=by
        cases hh:l.any (jV H)with
        |false=>rfl
        |true=>exact absurd (.inr hh) g5
       rw[List.any_eq_false]at g8
       exact⟨by simpa using g1,by simpa using g2,by omega,g7,fun m hm=>by simpa using g8 m hm,by simpa using g6⟩
theorem D8:∀(l:List Ms) (r:List (ak×Int)),∀t∈dq H l r,t=cL\/∃i,H.qI t=some i
 |[],_,t,h=>by cases h
 |m::l,r,t,h=>by
  unfold dq at h
  split at h
  ·rcases aF.1 h with rfl|h
   ·exact .inl rfl
   ·exact D8 l r t h
  ·rename_i h1
   rcases aF.1 h with rfl|h
   ·right
    unfold toDead at h1
    cases hq:H.qI m.queue with
    |none=>rw[hq]at h1;exact absurd rfl h1
    |some i=>exact⟨i,rfl⟩
   ·exact D8 l _ t h
theorem Jn{l:List Ms}(h:AY H l=false):(l.map (·.id)).Nodup/\∀m∈l,∀x∈H.aI,Dm x.2 m.id=false:=by
 unfold AY at h
 rw[List.any_eq_false]at h
 have key:∀(i:Nat) m,l[i]? =some m->Dc H l i m=false:=fun i m hm=>by
  have :=h (m,i) (List.mem_zipIdx_iff_getElem?.2 hm)
  simpa using this
 constructor
 ·rw[List.nodup_iff_pairwise_ne,List.pairwise_map,List.pairwise_iff_getElem]
  intro i j hi hj hij e
  have :=key j l[j] (ao hj)
  unfold Dc at this
  rw[Bool.or_eq_false_iff,List.any_eq_false]at this
  have h3:l[i]∈l.take j:=List.mem_take_iff_getElem.2 ⟨i,by omega,rfl⟩
  have :=this.1 _ h3
  unfold vY at this
  simp[e]at this
 ·intro m hm x hx
  obtain⟨i,hi,rfl⟩:=List.getElem_of_mem hm
  have :=key i l[i] (ao hi)
  unfold Dc at this
  rw[Bool.or_eq_false_iff,List.any_eq_false]at this
  have h8:=this.2
  rw[List.any_eq_false]at h8
  simpa using h8 x hx
theorem HI.yw(h:HI k H D H0)(hb:lf c kb k (H,D))(hk:k<4)(hK:kb<=1000000000000){a num:Int}{l:List Ms}(hl:l.length<=250)(hw:xg H a num l=true)(he:c7 H D=0):
 ∃H3 P,HI k (lb H D a num l) (oe H D a num l) H3/\P.map (·.2)=l/\(∀y∈P,4<=y.1)/\(ny H3).bg.Perm (P++(ny H0).bg)/\H3.batch=H0.batch/\H3.bW=H0.bW/\H3.aK=H0.aK.set a.toNat (bY H0 a.toNat+1)/\H3.next=H0.next/\bY (lb H D a num l) a.toNat=bY H a.toNat+1:=by
 obtain⟨h1,-,h3,h4,h5,h6⟩:=mR hw
 obtain⟨t1,t2⟩:=Jn h6
 have hr:=bM.1 h1
 have hB:=hb.B
 dsimp only at hB
 have qQ:=(h.B0 hb hk hK).1
 have hj:a.toNat<4:=by omega
 have e0:H0.id=H.id:=by rw[h.OM,h.hid]
 have eav:bY H0 a.toNat=bY H a.toNat:=by unfold bY;rw[h.av]
 have Q7:=dG h4
 have F0:=kS (H:=H) Q7 []
 have IN:=kT H l []
 have htq:∀t∈dq H l [],∃i,H.qI t=some i:=fun t ht=>by
  rcases D8 l [] t ht with rfl|hh
  ·exact h.dead
  ·exact hh
 obtain⟨eL,-,-,-⟩:=dA he (nA H a l)
 obtain⟨jg,dK⟩:=uA (k:=a) ⟨hr.1,hr.2.1⟩ h4 hl F0 IN
 have hz:∀x∈l.zip (dq H l []),((0<=x.1.pri/\x.1.pri<=9)/\0<=x.1.id/\x.1.id<=1099511627776)/\∃i,H.qI x.2=some i:=fun x hx=>by
  obtain⟨x1,x2⟩:=x
  have h7:=List.of_mem_zip hx
  obtain⟨m1,m2,m3,m4,-⟩:=bV (Q7 _ h7.1)
  exact⟨⟨⟨m3,m4⟩,m1,m2⟩,htq _ h7.2⟩
 have Zr:cK (300+c+250*H.used) {H with used:=H.used+1}:=by
  have :=hB.log (D:=D)
  rw[eL]at this;exact this
 obtain⟨H2,e2,p2,k2,n2,x2,s2,-⟩:=mP (l.zip (dq H l [])) Zr hz
 obtain⟨H3,e3,p3,k3,n3,x3,s3,-⟩:=mP (l.zip (dq H l [])) qQ fun x hx=>by
  obtain⟨b1,i,b2⟩:=hz x hx
  exact⟨b1,i,by rw[cG h.keys];exact b2⟩
 have ek0:∀s,H0.qI s=H.qI s:=fun s=>cG h.keys s
 have ek2:∀s,({H with used:=H.used+1}:Ho).qI s=H.qI s:=fun s=>rfl
 have hN0:((l.zip (dq H l [])).map fun x=>(⟨4+(H0.qI x.2).getD 0,x.1,-1,-1⟩:En))=(l.zip (dq H l [])).map fun x=>⟨4+(H.qI x.2).getD 0,x.1,-1,-1⟩:=by
  apply List.map_congr_left;intro p _;rw[ek0]
 rw[hN0]at p3
 have p2:(hv H2).Perm (((l.zip (dq H l [])).map fun x=>(⟨4+(H.qI x.2).getD 0,x.1,-1,-1⟩:En))++hv H):=p2
 generalize hN:((l.zip (dq H l [])).map fun x=>(⟨4+(H.qI x.2).getD 0,x.1,-1,-1⟩:En))=N at p2 p3
 have Mr:∀e∈N,e.put= -1/\e.iS= -1/\4<=e.j/\e.m∈l:=fun e he=>by
  rw[<-hN]at he
  obtain⟨p,hp,rfl⟩:=ay.1 he
  obtain⟨p1,p2⟩:=p
  exact⟨rfl,rfl,by dsimp only;omega,(List.of_mem_zip hp).1⟩
 have Md:(l.zip (dq H l [])).map (·.1)=l:=List.map_fst_zip (by rw[IN];exact aD _)
 have hNm:N.map (·.m)=l:=by
  rw[<-hN,List.map_map]
  exact Md
 have hNi:N.map eO=l.map (·.id):=by
  rw[<-hNm,List.map_map];rfl
 have Xd:∀m∈l,∀e∈hv H,eO e≠m.id:=fun m hm e he e5=>by
  have g1:=h5 m hm
  unfold jV at g1
  rw[Bool.or_eq_false_iff]at g1
  have g2:m.id%4≠H.id:=by simpa using g1.2
  rcases Nat.lt_or_ge e.j 4 with h7|h7
  ·have :=h.wy e he h7
   unfold eO at e5
   rw[e5,<-h.hid]at this
   exact g2 this
  ·obtain⟨q,a1,x,a2,a3⟩:=fH.1 he
   unfold Ho.all at a1
   rw[bf (by rw[hB.ways];exact h7),aG]at a1
   obtain⟨z,b1,b2⟩:=Option.map_eq_some_iff.1 a1
   have g3:=t2 m hm z (ax b1)
   rw[b2]at g3
   unfold Dm at g3
   rw[List.any_eq_false]at g3
   have :=g3 x a2
   unfold DJ at this
   have g4:x.m.id=m.id:=by rw[<-e5,a3];rfl
   simp[g4]at this
 have q0:ck H0 (nA H a l)=({H3 with aK:=H0.aK.set a.toNat (bY H0 a.toNat+1)},true):=oa ZN h4 F0 IN e3
 have q1:ck {H with used:=H.used+1} (nA H a l)=({H2 with aK:=H.aK.set a.toNat (bY H a.toNat+1)},true):=oa (H:={H with used:=H.used+1}) h1 h4 F0 IN e2
 unfold lb oe
 rw[if_pos hw,if_pos hw]
 unfold lM
 rw[if_pos he,eL,q1]
 dsimp only
 have xZ:((hv H3).map pV).Perm (N.map pV++(hv H0).map pV):=by rw[<-aZ];exact p3.map pV
 have F4:(WB.hk H2).Perm ((hv H3).map pV):=by
  refine List.Perm.trans ?_ xZ.symm
  refine List.Perm.trans ?_ ((List.Perm.refl _).append h.ye)
  unfold WB.hk
  refine((p2.filter _).map _).trans (List.Perm.of_eq ?_)
  rw[bB,aZ,aT.2 (fun e he=>by unfold iW;simp[(Mr e he).1])]
 have nN:H2.id=H.id:=s2.id
 have p4:cb H2=cb H:=k2
 have lC:∀e∈hv H,e∈hv H2:=fun e he=>p2.mem_iff.2 (List.mem_append_right _ he)
 have kA:∀e∈hv H2,(4<=e.j/\e.m∈l)\/e∈hv H:=fun e he=>by
  rcases aN.1 (p2.mem_iff.1 he)with g1|g1
  ·exact .inl ⟨(Mr e g1).2.2.1,(Mr e g1).2.2.2⟩
  ·exact .inr g1
 have nL:∀m∈l,m.id%4≠(k:Int):=fun m hm=>by
  have g1:=h5 m hm
  unfold jV at g1
  rw[Bool.or_eq_false_iff]at g1
  rw[<-h.hid];simpa using g1.2
 refine⟨{H3 with aK:=H0.aK.set a.toNat (bY H0 a.toNat+1),used:=H0.used+1},N.map pV,?_,by rw[List.map_map];exact hNm,fun y hy=>?_,xZ,s3.batch,s3.bW,rfl,x3,?_⟩
 ·refine h.Dx he (Nat.le_trans dK ai) (K0 _ Q7 F0) jg q0 nN s2.used (by dsimp only;rw[n2];exact n3.trans h.names) (by show cb H3=cb H2;rw[p4];exact k3.trans h.keys) (by dsimp only;rw[s2.batch];exact s3.batch.trans h.bt) (by dsimp only;rw[s2.bW];exact s3.bW.trans h.sn) (by dsimp only;rw[eav,h.av]) p4
   (fun e he=>?_) F4 ?_ (fun e he hj=>?_) (fun e he hj=>?_) (fun e he hj=>?_) (by dsimp only;rw[x3,x2];exact h.nx) (fun u x hx=>?_) fun d i hi=>?_
  ·rcases aN.1 (p3.mem_iff.1 he)with g1|g1
   ·exact⟨(Mr e g1).1,(Mr e g1).2.1⟩
   ·exact h.nu e g1
  ·refine(p2.map eO).nodup_iff.2 ?_
   rw[aZ,List.nodup_append,hNi]
   refine⟨t1,h.oy,fun x hx y hy=>?_⟩
   obtain⟨m,hm,rfl⟩:=ay.1 hx
   obtain⟨e,he,rfl⟩:=ay.1 hy
   exact fun e5=>Xd m hm e he e5.symm
  ·rcases kA e he with g1|g1
   ·omega
   ·exact h.wy e g1 hj
  ·rcases kA e he with g1|g1
   ·exact absurd hj (nL _ g1.2)
   ·rw[show({H2 with aK:=H.aK.set a.toNat (bY H a.toNat+1)}:Ho).next=H.next from x2];exact h.lt e g1 hj
  ·rcases aN.1 (p3.mem_iff.1 he)with g1|g1
   ·exact absurd hj (nL _ (Mr e g1).2.2.2)
   ·rw[show({H3 with aK:=H0.aK.set a.toNat (bY H0 a.toNat+1)}:Ho).next=H0.next from x3];exact h.Ot e g1 hj
  ·have hx:H.aB[u]? =some x:=by rw[<-show H2.aB=H.aB from s2.aB];exact hx
   have ui:=h.unit u x hx
   refine UJ.same (H:=H2) ⟨fun p hp=>?_,ui.pn,fun g hg=>?_,ui.gn⟩ rfl rfl rfl
   ·obtain⟨a1,a2,e,a3,a4⟩:=ui.aM p hp
    exact⟨fun hh=>by rw[cG p4];exact a1 (by rw[hh,nN]),by rw[nN];exact a2,e,lC e a3,by rw[fF p4 nN];exact a4⟩
   ·obtain⟨i,a1,e,a2,a3⟩:=ui.bu g hg
    exact⟨i,by rw[cG p4];exact a1,e,lC e a2,a3⟩
  ·have hi:i∈bm H d:=by unfold bm at hi ⊢;rw[<-show H2.batch=H.batch from s2.batch];exact hi
   obtain⟨y,hy,a1,a2⟩:=h.bin d i hi
   exact⟨y,F4.mem_iff.2 (xZ.mem_iff.2 (List.mem_append_right _ (h.ye.mem_iff.1 hy))),a1,a2⟩
 ·obtain⟨e,he,rfl⟩:=ay.1 hy
  exact(Mr e he).2.2.1
 ·unfold bY
  rw[show({H2 with aK:=H.aK.set a.toNat (H.aK.getD a.toNat 0+1)}:Ho).aK=H.aK.set a.toNat (H.aK.getD a.toNat 0+1)from rfl,dx (by rw[hB.aK];exact hj),if_pos rfl]
theorem HI.KX(h:HI k H D H0){a num:Int}{l:List Ms}(hl:l.length<=250)(hp:xg H a num l=false\/c7 H D≠0):HI k (lb H D a num l) (oe H D a num l) H0:=by
 unfold lb oe
 by_cases h1:xg H a num l=true
 ·rw[if_pos h1,if_pos h1]
  rcases hp with hp|hp
  ·rw[hp]at h1;cases h1
  ·obtain⟨g1,-,-,h4,-,-⟩:=mR h1
   have hr:=bM.1 g1
   have Q7:=dG h4
   have F0:=kS (H:=H) Q7 []
   obtain⟨jg,dK⟩:=uA (k:=a) ⟨hr.1,hr.2.1⟩ h4 hl F0 (kT H l [])
   unfold lM
   rw[if_neg hp]
   exact h.fail (Nat.le_trans dK ai) (K0 _ Q7 F0) hp
 ·rw[if_neg h1,if_neg h1];exact h
end
def jY (H:Ho):List Ms:=H.aI.flatMap fun q=>aW q.2
theorem NY{H:Ho}(hn:(H.aI.map (·.1)).Nodup){i:Nat}{x:ak×Qu}(hx:H.aI[i]? =some x):H.qI x.1=some i/\H.ec i=x.2:=by
 have hi:=(au.1 hx).1
 have hxe:=(au.1 hx).2
 refine⟨?_,?_⟩
 ·unfold Ho.qI
  rw[List.findIdx?_eq_some_iff_getElem]
  refine⟨hi,by rw[hxe];simp,fun j hj=>?_⟩
  have h2:=List.pairwise_iff_getElem.1 hn j i ga (by simpa using hi) hj
  simp only[List.getElem_map]at h2
  rw[hxe]at h2
  simpa using h2
 ·unfold Ho.ec
  rw[aq,hx];rfl
theorem L5{n:Nat}{H:Ho}(hB:cK n H){ns:List ak}(h:ns.Perm (H.aI.map (·.1))):((fK ns).flatMap (jo H)).Perm (jY H):=by
 have h1:=((sQ ns).trans h).flatMap_right (jo H)
 refine h1.trans (List.Perm.of_eq ?_)
 unfold jY
 rw[List.flatMap_map]
 have key:∀x∈H.aI,jo H x.1=aW x.2:=fun x hx=>by
  obtain⟨i,hi,rfl⟩:=List.getElem_of_mem hx
  obtain⟨a,b⟩:=NY hB.nodup (ao hi)
  unfold jo
  rw[a]
  dsimp only
  rw[b]
 exact Av key
where Av {f g:ak×Qu->List Ms}:∀{l:List (ak×Qu)},(∀x∈l,f x=g x)->l.flatMap f=l.flatMap g
 |[],_=>rfl
 |a::l,h=>by rw[aR,aR,h a aj,Av fun x hx=>h x yK]
def rp (W:Wo) (k dst:Nat):Bool:=decide (bm (W.H k) dst≠[]/\W.is dst=true/\cj (W.H k) dst=true/\bD (W.H k) dst<=(if cj (W.H dst) k=true then bY (W.H dst) k else 0))
def iu (W:Wo) (k dst:Nat):List Ms:=if cj (W.H k) dst=true then(aW ((W.H k).dy dst)).filter fun m=> !rp W k dst|| !decide (m.id∈bm (W.H k) dst)else[]
def wB (W:Wo) (k:Nat):List Ms:=jY (W.H k)++(List.range 4).flatMap (iu W k)
def L2 (W:Wo):List Ms:=(List.range W.hs.length).flatMap (wB W)
theorem vZ(q:Qu):(aW q).length<=q.l.length:=by
 unfold aW;rw[bj];exact List.length_filter_le _ _
theorem IX{n:Nat}{H:Ho}(hB:cK n H):(jY H).length<=H.aI.length *n:=by
 unfold jY
 have key:∀l:List (ak×Qu),(∀x∈l,x∈H.aI)->(l.flatMap fun q=>aW q.2).length<=l.length *n:=by
  intro l
  induction l with
  |nil=>intro _;simp
  |cons a l ih=>
   intro hl
   have h1:=ih fun x hx=>hl x yK
   have h2:(aW a.2).length<=n:=by
    obtain⟨i,hi,e⟩:=List.getElem_of_mem (hl a aj)
    obtain⟨c,d⟩:=NY hB.nodup (ao hi)
    have h3:=(hB.qa hi).len
    rw[d,e]at h3
    exact Nat.le_trans (vZ _) h3
   rw[aR,aP,List.length_cons,Nat.succ_mul]
   omega
 exact key _ fun _ h=>h
theorem IA{c kb:Nat}{W:Wo}(h:c6 c kb W)(hc:c<=4000){k:Nat}(hk:k<W.hs.length)(dst:Nat):(iu W k dst).length<=80000:=by
 unfold iu
 split
 ·rename_i hr
  obtain⟨x,hx,e1,e2⟩:=fS hk
  have hB:cK 79600 x.1:=(h.hs k x hx).B.le (by have :=(h.hs k x hx).B.used;omega)
  obtain⟨h0,h4,-⟩:=bM.1 hr
  have h1:=(hB.w (j:=dst) ae).len
  rw[e1]
  refine Nat.le_trans (List.length_filter_le _ _) (Nat.le_trans (vZ _) ae)
 ·simp
theorem B6{n:Nat}{q:Qu}(h:QB n q):∀m∈aW q,0<=m.id/\m.id<=1099511627776:=fun m hm=>by
 unfold aW at hm
 obtain⟨e,he,rfl⟩:=ay.1 hm
 exact h.ids e (aC.1 he).1
theorem IY{n:Nat}{H:Ho}(hB:cK n H):∀m∈jY H,0<=m.id/\m.id<=1099511627776:=fun m hm=>by
 unfold jY at hm
 obtain⟨a,ha,hm⟩:=List.mem_flatMap.1 hm
 obtain⟨i,hi,e⟩:=List.getElem_of_mem ha
 obtain⟨c,d⟩:=NY hB.nodup (ao hi)
 have h3:=hB.qa hi
 rw[d,e]at h3
 exact B6 h3 m hm
theorem Oy{c kb:Nat}{W:Wo}(h:c6 c kb W)(hc:c<=4000):∀m∈L2 W,0<=m.id/\m.id<=1099511627776:=fun m hm=>by
 unfold L2 at hm
 obtain⟨k,hk,hm⟩:=List.mem_flatMap.1 hm
 have hk:=aO.1 hk
 obtain⟨x,hx,e1,e2⟩:=fS hk
 have hB:cK 79600 x.1:=(h.hs k x hx).B.le (by have :=(h.hs k x hx).B.used;omega)
 unfold wB at hm
 rw[e1]at hm
 rcases aN.1 hm with hm|hm
 ·exact IY hB m hm
 ·obtain⟨j,hj,hm⟩:=List.mem_flatMap.1 hm
  have hj:=aO.1 hj
  unfold iu at hm
  rw[e1]at hm
  split at hm
  ·exact B6 (hB.w hj) m (aC.1 hm).1
  ·cases hm
def Sr (k n:Nat):List Nm:=[⟨eF,eV,((k:Int)+1)%n⟩,⟨eV,⟨#[]⟩,-1⟩,⟨hI,⟨#[]⟩,-1⟩]
def CC (C0:Nat->Ho):Nat->Cr:=fun k=>ny (C0 k)
def Bo (C0:Nat->Ho) (k:Nat) (H:Ho):Nat->Ho:=fun i=>if i=k then H else C0 i
structure GI (n:Nat) (W:Wo) (C0:Nat->Ho) (T:List Ms):Prop where
 hn:W.hs.length=n
 hi:∀(k:Nat) x,W.hs[k]? =some x->HI k x.1 x.2 (C0 k)
 gc:GC n (CC C0) W.cR T
 fresh:∀(k:Nat) x,W.hs[k]? =some x->∀(u:Nat) y,x.1.aB[u]? =some y->∀p∈y.aM,p.1.id∉T.map (·.id)
 jA:∀(k:Nat) x,W.hs[k]? =some x->x.1.names=Sr k n
theorem QQ(C0:Nat->Ho)(k:Nat)(H:Ho):CC (Bo C0 k H)=eQ (CC C0) k (ny H):=by
 funext i
 unfold CC Bo eQ
 by_cases e:i=k
 ·rw[if_pos e,if_pos e]
 ·rw[if_neg e,if_neg e]
theorem BS(C0:Nat->Ho)(k:Nat):Bo C0 k (C0 k)=C0:=by
 funext i
 unfold Bo
 by_cases e:i=k
 ·rw[if_pos e,e]
 ·rw[if_neg e]
theorem ur{W:Wo}{k i:Nat}{x y:Ho×Dk}(h:(W.bU k x).hs[i]? =some y):(i=k/\y=x)\/(i≠k/\W.hs[i]? =some y):=by
 unfold Wo.bU at h
 dsimp only at h
 rw[List.getElem?_set]at h
 by_cases e:k=i
 ·rw[if_pos e]at h
  split at h
  ·simp only[az]at h;exact .inl ⟨e.symm,h.symm⟩
  ·cases h
 ·rw[if_neg e]at h;exact .inr ⟨fun e2=>e e2.symm,h⟩
section
variable {c kb n:Nat} {W:Wo} {C0:Nat->Ho} {T:List Ms}
theorem GI.set(g:GI n W C0 T){k:Nat}{H' H3:Ho}{D':Dk}{T':List Ms}(hi:HI k H' D' H3)(gc:GC n (eQ (CC C0) k (ny H3)) W.cR T')(ob:H'.names=Sr k n)(fr:∀(u:Nat) y,H'.aB[u]? =some y->∀p∈y.aM,p.1.id∉T'.map (·.id))(fro:∀(i:Nat) x,i≠k->W.hs[i]? =some x->∀(u:Nat) y,x.1.aB[u]? =some y->∀p∈y.aM,p.1.id∉T'.map (·.id)):
 GI n (W.bU k (H',D')) (Bo C0 k H3) T':=by
 refine⟨by rw[fx];exact g.hn,fun i x hx=>?_,by rw[QQ];exact gc,fun i x hx=>?_,fun i x hx=>?_⟩
 ·unfold Bo
  rcases ur hx with⟨rfl,rfl⟩|⟨gN,hx⟩
  ·rw[if_pos rfl];exact hi
  ·rw[if_neg gN];exact g.hi i x hx
 ·rcases ur hx with⟨rfl,rfl⟩|⟨gN,hx⟩
  ·exact fr
  ·exact fro i x gN hx
 ·rcases ur hx with⟨rfl,rfl⟩|⟨gN,hx⟩
  ·exact ob
  ·exact g.jA i x hx
theorem Lu(C0:Nat->Ho)(k:Nat):eQ (CC C0) k (ny (C0 k))=CC C0:=by rw[<-QQ,BS]
theorem GI.same(g:GI n W C0 T){k:Nat}{H':Ho}{D':Dk}(hi:HI k H' D' (C0 k))(ob:H'.names=Sr k n)(fr:∀(u:Nat) y,H'.aB[u]? =some y->∀p∈y.aM,p.1.id∉T.map (·.id)):GI n (W.bU k (H',D')) C0 T:=by
 have :=g.set (T':=T) hi (by rw[Lu];exact g.gc) ob fr (fun i x _ hx=>g.fresh i x hx)
 rw[BS]at this
 exact this
theorem GI.aB(g:GI n W C0 T){k:Nat}{x:Ho×Dk}(hx:W.hs[k]? =some x){H':Ho}(hu:H'.aB=x.1.aB):∀(u:Nat) y,H'.aB[u]? =some y->∀p∈y.aM,p.1.id∉T.map (·.id):=fun u y hy=>g.fresh k x hx u y (by rw[<-hu];exact hy)
theorem GI.cR(g:GI n W C0 T){ud:List Gm}{lost:Int}(hw:∀m∈ud,m∈W.cR\/Ht n (CC C0) m):GI n {W with cR:=ud,lost:=lost} C0 T:=
 ⟨g.hn,g.hi,g.gc.sub hw,g.fresh,g.jA⟩
theorem GI.ER(g:GI n W C0 T){m:Gm}(hm:Ht n (CC C0) m):GI n (px W m) C0 T:=by
 unfold px
 split
 ·exact g.cR fun m hm=>.inl hm
 ·have :GI n {W with cR:=W.cR++[m],lost:=W.lost} C0 T:=g.cR fun m' tt=>by
   rcases aN.1 tt with h|h
   ·exact .inl h
   ·simp at h;subst h;exact .inr hm
  exact this
theorem GI.xH(g:GI n W C0 T){dst:Int}{f:Fr}{l:List Ms}(hm:Ht n (CC C0) ⟨dst,f,l⟩):GI n (fm W dst f l) C0 T:=by
 unfold fm
 split
 ·exact g.ER hm
 ·exact g
theorem GI.out(g:GI n W C0 T)(i:Nat):GI n (qw W i) C0 T:=by
 have :GI n {W with cR:=W.cR.eraseIdx i,lost:=W.lost} C0 T:=g.cR fun m hm=>.inl ((List.eraseIdx_sublist _ _).subset hm)
 exact this
theorem Td(H:Ho)(p:Nat×Ms->Bool):((hk H).filter p).map (·.2)=H.all.zipIdx.flatMap fun x=>(aW x.1).filter fun m=>p (x.2,m):=by
 unfold hk hv vw
 rw[List.filter_flatMap,List.map_flatMap,List.filter_flatMap,List.map_flatMap]
 congr 1
 funext x
 unfold Jd aW
 rw[List.filter_map,List.filter_map,List.filter_map,List.map_map,List.map_map,List.filter_map,bp,bp]
 rfl
theorem TF{α:Type}{l:List α}(h:l.length=4):∃a b c d,l=[a,b,c,d]:=by
 match l,h with
 |[a,b,c,d],_=>exact⟨a,b,c,d,rfl⟩
theorem zb{α β:Type}(f:Nat->α->List β)(g:α->List β):∀(l:List α) (s:Nat),(∀j,s<=j->∀x,f j x=g x)->((l.zipIdx s).flatMap fun x=>f x.2 x.1)=l.flatMap g
 |[],_,_=>rfl
 |a::l,s,h=>by rw[List.zipIdx_cons,aR,aR,h s (aD _),zb f g l (s+1) fun j hj=>h j ae]
theorem Gn{H:Ho}(h4:H.ways.length=4)(p:Nat×Ms->Bool):((hk H).filter p).map (·.2)=((List.range 4).flatMap fun j=>(aW (H.dy j)).filter fun m=>p (j,m))++((H.aI.map (·.2)).zipIdx 4).flatMap fun x=>(aW x.1).filter fun m=>p (x.2,m):=by
 rw[Td]
 unfold Ho.all Ho.dy
 obtain⟨a,b,c,d,e⟩:=TF h4
 rw[e]
 show(([a,b,c,d]++H.aI.map (·.2)).zipIdx).flatMap _=_
 rw[List.zipIdx_append,List.flatMap_append]
 congr 1
theorem Km{H:Ho}(h4:H.ways.length=4){j:Nat}(hj:j<4)(p:Ms->Bool):((hk H).filter fun y=>decide (y.1=j)&&p y.2).map (·.2)=(aW (H.dy j)).filter p:=by
 rw[Gn h4]
 have h2:(((H.aI.map (·.2)).zipIdx 4).flatMap fun x=>(aW x.1).filter fun m=>decide (x.2=j)&&p m)=(H.aI.map (·.2)).flatMap fun _=>([]:List Ms):=by
  refine zb (fun i q=>(aW q).filter fun m=>decide (i=j)&&p m) (fun _=>[]) _ 4 fun i hi x=>?_
  rw[List.filter_eq_nil_iff]
  intro m _
  have :i≠j:=by omega
  simp[this]
 have h3:((H.aI.map (·.2)).flatMap fun _=>([]:List Ms))=[]:=by simp
 dsimp only at h2 ⊢
 rw[h2,h3,List.append_nil]
 have :∀i,((aW (H.dy i)).filter fun m=>decide (i=j)&&p m)=if i=j then(aW (H.dy j)).filter p else[]:=fun i=>by
  by_cases e:i=j
  ·subst e;simp
  ·rw[if_neg e,List.filter_eq_nil_iff];intro m _;simp[e]
 simp only[this]
 have Kn:j=0\/j=1\/j=2\/j=3:=by omega
 rcases Kn with rfl|rfl|rfl|rfl<;>simp[List.range_succ]
theorem Ox(hw:c6 c kb W)(g:GI n W C0 T){k:Nat}(hk:k<n):(wB W k).Perm (view n (CC C0) k):=by
 have hn:=g.hn
 have gO:=hw.n1
 obtain⟨x,hx,e1,e2⟩:=fS (W:=W) (j:=k) ae
 have h:=g.hi k x hx
 have hB:=(hw.hs k x hx).B
 unfold view
 rw[show(CC C0 k).bg=(hv (C0 k)).map pV from rfl]
 refine List.Perm.trans ?_ ((h.ye.filter _).map _)
 rw[Gn hB.ways]
 have hq:(((x.1.aI.map (·.2)).zipIdx 4).flatMap fun y=>(aW y.1).filter fun m=>gH n (CC C0) k (y.2,m))=jY x.1:=by
  have :(((x.1.aI.map (·.2)).zipIdx 4).flatMap fun y=>(fun(j:Nat) (q:Qu)=>(aW q).filter fun m=>gH n (CC C0) k (j,m)) y.2 y.1)=(x.1.aI.map (·.2)).flatMap aW:=by
   refine zb (fun(j:Nat) (q:Qu)=>(aW q).filter fun m=>gH n (CC C0) k (j,m)) aW _ 4 fun j hj q=>?_
   rw[aT]
   intro m _
   unfold gH
   simp[hj]
  refine this.trans ?_
  unfold jY
  rw[List.flatMap_map]
 rw[hq]
 unfold wB
 rw[e1]
 refine List.perm_append_comm.trans (List.Perm.of_eq ?_)
 congr 1
 refine sB fun j hj=>?_
 have hj:=aO.1 hj
 unfold iu
 rw[e1]
 have sI:bm (C0 k) j=bm x.1 j:=by unfold bm;rw[h.bt]
 have Cn:bD (C0 k) j=bD x.1 j:=by unfold bD;rw[h.sn]
 have hr:cj x.1 (j:Int)=decide (j≠k):=by
  unfold cj
  rw[h.hid]
  by_cases e:j=k
  ·subst e;simp
  ·have :(j:Int)≠(k:Int):=fun e2=>e ae
   simp[e,this];omega
 have uZ:j≠k->vM n (CC C0) k j=rp W k j:=fun wK=>by
  unfold vM rp
  rw[e1,hr]
  show decide (bm (C0 k) j≠[]/\j<n/\bD (C0 k) j<=bY (C0 j) k)=_
  rw[sI,Cn]
  by_cases ED:j<n
  ·obtain⟨y,hy,f1,-⟩:=fS (W:=W) (j:=j) ae
   have h2:=g.hi j y hy
   have hrr:cj y.1 (k:Int)=true:=by
    rw[bM,h2.hid]
    refine⟨by omega,by omega,fun e=>wK ae⟩
   have x4:bY (C0 j) k=bY y.1 k:=by unfold bY;rw[h2.av]
   rw[f1,if_pos hrr,x4]
   have :W.is (j:Int)=true:=by unfold Wo.is;rw[decide_eq_true_eq];omega
   simp[wK,ED,this]
  ·have :W.is (j:Int)=false:=by unfold Wo.is;rw[decide_eq_false_iff_not];omega
   simp[ED,this]
 rw[hr]
 by_cases wK:j=k
 ·rw[if_neg (by simp[wK]),eq_comm,List.filter_eq_nil_iff]
  intro m _
  unfold gH
  have :¬4<=j:=by omega
  simp[this,wK];omega
 ·rw[if_pos (by simp[wK])]
  apply List.filter_congr
  intro m _
  unfold gH
  rw[uZ wK]
  show _=(decide (4<=j)||(decide (j≠k)&& !(rp W k j&&decide (m.id∈bm (C0 k) j))))
  rw[sI]
  have :¬4<=j:=by omega
  simp[this,wK,Bool.not_and]
where sB {α β:Type} {f g:α->List β}:∀{l:List α},(∀x∈l,f x=g x)->l.flatMap f=l.flatMap g
 |[],_=>rfl
 |a::l,h=>by rw[aR,aR,h a aj,sB fun x hx=>h x yK]
theorem GI.Kc(g:GI n W C0 T)(hw:c6 c kb W):(L2 W).Perm T:=by
 refine List.Perm.trans ?_ g.gc.Kc
 unfold L2 yo
 rw[g.hn]
 have key:∀l:List Nat,(∀k∈l,k<n)->(l.flatMap (wB W)).Perm (l.flatMap (view n (CC C0))):=by
  intro l
  induction l with
  |nil=>intro _;exact .refl _
  |cons a l ih=>
   intro h
   rw[aR,aR]
   exact(Ox hw g (h a aj)).append (ih fun k hk=>h k (by simp[hk]))
 exact key _ fun k hk=>aO.1 hk
end
end WB
