import Derived.Test.YtjhogocabcdjbabGreatDoorB4
set_option linter.unusedSimpArgs false
set_option linter.unusedVariables false
set_option maxRecDepth 100000
set_option maxHeartbeats 8000000
namespace Go.Proofs.YtjhogocabcdjbabGreatDoor
open Tryz
open Go Go.RowKit WB
theorem IY{α β:Type}{f:α->β->HP}{w0 w:World}{L:List HP}{ps:List α}{xs:List β}{p:α}{x:β}(hl:ps.length=xs.length)(h:St w0 (f p x::bZ f ps xs::L) w):St w0 (bZ f (ps++[p]) (xs++[x])::L) w:=by
 have h1:=EZ h.f_;refine uu ?_;rw[List.zipWith_append hl,aL];exact h1
theorem Ly(w0:World)(L:List HP)(n:Nat)(hT:o0 w0)(hM:o2 w0)(hn:1<=n/\n<=4):
 KC prog 42 #[.int .i64 (n:Nat)] w0 L (fun u M=> ∃c:Nat×zB,c.2.2.2=none/\u=.tuple #[bp c.1,.nilIface]/\M=kZ c.1 c.2 (xy n)::L):=by
 have hs:∀k:Nat,(xy (k+1)).hs=(xy k).hs++[(bO (k:Int),bD)]:=fun k=>by unfold xy;dsimp only;rw[List.range_succ,aN];rfl
 have hln:∀k:Nat,(xy k).hs.length=k:=fun k=>by unfold xy;simp
 refine KC.mk (n:=52) func42 rfl ntmps42 aj ?_;refine rN ?_;refine lL ?_;refine wk ?_;refine s9 ?_;refine Hy ?_;refine Z2 ?_;refine K.da rfl fx ?_;refine wx ?_;refine KO.wh (pl:=[(0,1),(1,1),(2,1),(3,1)]) rfl zeroValue164 runUnderlying164 (by intro w;simp[sizeOf3,sizeOf160,sizeOf161,sizeOf162]) aP rfl ?_;refine KO.box rfl rfl aP rfl ?_;intro Vt;refine lL ?_;refine mK ?_;refine K.loop (fun q:Nat×OB=>[(0,.int .i64 (n:Nat)),(4,bp Vt),(18,.int .i64 (n:Nat)),(19,.int .i64 (q.1:Nat))]) (fun q=>oz Vt q.2 (xy q.1) L) (fun q=>q.1<=n/\q.2.ps.length=q.1/\q.2.wv=.slice none 0 0) (fun q=>n-q.1) (0,⟨.slice none 0 0,.slice none 0 0,.slice none 0 0,[]⟩) ⟨aV _,rfl,rfl⟩ ⟨rfl,rfl,rfl,rfl,trivial⟩ (fun _ h=>?_) ?_
 ·have h1:=uu (f:=vn) (ps:=[]) (xs:=[]) h;have h2:=cD (E:=258) (sz:=2) (cf:=U3) h1;have h3:=cD (E:=25) (sz:=1) (cf:=o8) h2;have h4:=cD (E:=29) (sz:=1) (cf:=o8) h3;exact h4.all Y7
 rintro⟨k,hv,dv,wv,ps⟩ ⟨hk,oS,XM⟩;dsimp only at hk oS XM ⊢;subst XM;refine hF ?_;refine K.br rfl (fun h5=>?_) (fun h5=>?_)
 ·have pb:k<n:=by omega
  refine sZ ?_;refine lZ ?_;refine KO.wh (pl:=[(0,300),(300,1),(301,1)]) rfl zeroValue28 runUnderlying28 (by intro w;simp[sizeOf3,sizeOf4,sizeOf26]) aP rfl ?_;refine KO.box rfl rfl aP rfl ?_;intro pM;refine kE ?_;refine K.conv (L':=fv pM bD::oz Vt ⟨hv,dv,.slice none 0 0,ps⟩ (xy k) L) (fun w' h=>h) ?_
  refine iX ?_;refine KO.cl (cp:=[]) rfl rfl rfl call11 rfl (KC.oN bQ (Cj w0 _ pM (k:Int) bD hT hM ae Nz)) ?_;rintro v' L' ⟨bh,rfl,rfl⟩;rw[Mi];refine N6 ?_;refine qE ?_;refine K.Vb [.pure,.pure,.pure,.pure,.pure,.read,.pure,.c7,.write,.pure,.pure,.pure,.read,.pure,.c7,.write,.pure,.pure,.write,.pure,.pure,.write] [(8,12),(8,14),(7,14),(12,14),(7,12)] [[0,1,2,3,4,5,6,9,10,11,13,7,8,12,14,15,16,17,18,19,20,21],[0,1,2,3,4,5,6,9,10,11,13,7,8,14,12,15,16,17,18,19,20,21],[0,1,2,3,4,5,6,9,10,11,13,7,14,8,12,15,16,17,18,19,20,21],[0,1,2,3,4,5,6,9,10,11,13,14,7,8,12,15,16,17,18,19,20,21],[0,1,2,3,4,5,6,9,10,11,13,7,12,8,14,15,16,17,18,19,20,21],[0,1,2,3,4,5,6,9,10,11,12,13,7,8,14,15,16,17,18,19,20,21],[0,1,2,3,4,5,6,9,10,11,13,7,12,14,8,15,16,17,18,19,20,21],[0,1,2,3,4,5,6,9,10,11,12,13,7,14,8,15,16,17,18,19,20,21],[0,1,2,3,4,5,6,9,10,11,13,7,14,12,8,15,16,17,18,19,20,21],[0,1,2,3,4,5,6,9,10,11,12,13,14,7,8,15,16,17,18,19,20,21],[0,1,2,3,4,5,6,9,10,11,13,14,7,12,8,15,16,17,18,19,20,21],[0,1,2,3,4,5,6,9,10,11,13,14,12,7,8,15,16,17,18,19,20,21]] bC bC bC ⟨?_,?_,?_,?_,?_,?_,?_,?_,?_,?_,?_,?_,trivial⟩
  focus
   show KO _ _ _ _ _ _ _ _ _ _
   refine CQ ?_;refine KO.kL (z:=(Value.pointer none)) (sz:=1) (dI:=8) rfl rfl underlying160 bC aP aP ai ai rfl ?_;intro NY;refine KO.app (cf:=o8) (z:=Value.pointer none) (sz:=1) (dI:=8) (us:=[bp bh]) (xs:=ps.map (·.1)) rfl rfl rfl bn bQ underlying160 bC aP bh rfl rfl rfl lO ai rfl ?_;intro vh;refine KO.fact (fun _ hs=>aU hs) ?_;rintro⟨ah,kh,rfl,-⟩
   refine Ja ?_;refine KO.kL (z:=(Value.pointer none)) (sz:=1) (dI:=8) rfl rfl underlying161 bC aP aP ai ai rfl ?_;intro Lp;refine KO.app (cf:=o8) (z:=Value.pointer none) (sz:=1) (dI:=8) (us:=[.pointer (some ⟨pM,0,none⟩)]) (xs:=ps.map (·.2)) rfl rfl rfl bn bQ underlying161 bC aP pM rfl rfl rfl lO ai rfl ?_;intro vd;refine KO.fact (fun _ hs=>aU hs) ?_;rintro⟨ad,kd,rfl,-⟩
   refine wu ?_
  rotate_left
  focus
   show KO _ _ _ _ _ _ _ _ _ _
   refine CQ ?_;refine KO.kL (z:=(Value.pointer none)) (sz:=1) (dI:=8) rfl rfl underlying160 bC aP aP ai ai rfl ?_;intro NY;refine KO.app (cf:=o8) (z:=Value.pointer none) (sz:=1) (dI:=8) (us:=[bp bh]) (xs:=ps.map (·.1)) rfl rfl rfl bn bQ underlying160 bC aP bh rfl rfl rfl lO ai rfl ?_;intro vh;refine KO.fact (fun _ hs=>aU hs) ?_;rintro⟨ah,kh,rfl,-⟩
   refine KO.kL (z:=(Value.pointer none)) (sz:=1) (dI:=8) rfl rfl underlying161 bC aP aP ai ai rfl ?_;intro Lp;refine Ja ?_;refine KO.app (cf:=o8) (z:=Value.pointer none) (sz:=1) (dI:=8) (us:=[.pointer (some ⟨pM,0,none⟩)]) (xs:=ps.map (·.2)) rfl rfl rfl bn bQ underlying161 bC aP pM rfl rfl rfl lO ai rfl ?_;intro vd;refine KO.fact (fun _ hs=>aU hs) ?_;rintro⟨ad,kd,rfl,-⟩
   refine wu ?_
  rotate_left
  focus
   show KO _ _ _ _ _ _ _ _ _ _
   refine CQ ?_;refine KO.kL (z:=(Value.pointer none)) (sz:=1) (dI:=8) rfl rfl underlying160 bC aP aP ai ai rfl ?_;intro NY;refine KO.kL (z:=(Value.pointer none)) (sz:=1) (dI:=8) rfl rfl underlying161 bC aP aP ai ai rfl ?_;intro Lp;refine KO.app (cf:=o8) (z:=Value.pointer none) (sz:=1) (dI:=8) (us:=[bp bh]) (xs:=ps.map (·.1)) rfl rfl rfl bn bn underlying160 bC aP bh rfl rfl rfl lO ai rfl ?_;intro vh;refine KO.fact (fun _ hs=>aU hs) ?_;rintro⟨ah,kh,rfl,-⟩
   refine Ja ?_;refine KO.app (cf:=o8) (z:=Value.pointer none) (sz:=1) (dI:=8) (us:=[.pointer (some ⟨pM,0,none⟩)]) (xs:=ps.map (·.2)) rfl rfl rfl bn bn underlying161 bC aP pM rfl rfl rfl lO ai rfl ?_;intro vd;refine KO.fact (fun _ hs=>aU hs) ?_;rintro⟨ad,kd,rfl,-⟩
   refine wu ?_
  rotate_left
  focus
   show KO _ _ _ _ _ _ _ _ _ _
   refine CQ ?_;refine KO.kL (z:=(Value.pointer none)) (sz:=1) (dI:=8) rfl rfl underlying161 bC aP aP ai ai rfl ?_;intro Lp;refine KO.kL (z:=(Value.pointer none)) (sz:=1) (dI:=8) rfl rfl underlying160 bC aP aP ai ai rfl ?_;intro NY;refine KO.app (cf:=o8) (z:=Value.pointer none) (sz:=1) (dI:=8) (us:=[bp bh]) (xs:=ps.map (·.1)) rfl rfl rfl bn bQ underlying160 bC aP bh rfl rfl rfl lO ai rfl ?_;intro vh;refine KO.fact (fun _ hs=>aU hs) ?_;rintro⟨ah,kh,rfl,-⟩
   refine Ja ?_;refine KO.app (cf:=o8) (z:=Value.pointer none) (sz:=1) (dI:=8) (us:=[.pointer (some ⟨pM,0,none⟩)]) (xs:=ps.map (·.2)) rfl rfl rfl bn bn underlying161 bC aP pM rfl rfl rfl lO ai rfl ?_;intro vd;refine KO.fact (fun _ hs=>aU hs) ?_;rintro⟨ad,kd,rfl,-⟩
   refine wu ?_
  rotate_left
  focus
   show KO _ _ _ _ _ _ _ _ _ _
   refine CQ ?_;refine KO.kL (z:=(Value.pointer none)) (sz:=1) (dI:=8) rfl rfl underlying160 bC aP aP ai ai rfl ?_;intro NY;refine Ja ?_;refine KO.app (cf:=o8) (z:=Value.pointer none) (sz:=1) (dI:=8) (us:=[bp bh]) (xs:=ps.map (·.1)) rfl rfl rfl bn bQ underlying160 bC aP bh rfl rfl rfl lO ai rfl ?_;intro vh;refine KO.fact (fun _ hs=>aU hs) ?_;rintro⟨ah,kh,rfl,-⟩
   refine KO.kL (z:=(Value.pointer none)) (sz:=1) (dI:=8) rfl rfl underlying161 bC aP aP ai ai rfl ?_;intro Lp;refine KO.app (cf:=o8) (z:=Value.pointer none) (sz:=1) (dI:=8) (us:=[.pointer (some ⟨pM,0,none⟩)]) (xs:=ps.map (·.2)) rfl rfl rfl bn bQ underlying161 bC aP pM rfl rfl rfl lO ai rfl ?_;intro vd;refine KO.fact (fun _ hs=>aU hs) ?_;rintro⟨ad,kd,rfl,-⟩
   refine wu ?_
  rotate_left
  focus
   show KO _ _ _ _ _ _ _ _ _ _
   refine RO ?_;refine Ja ?_;refine Z1 ?_;refine KO.kL (z:=(Value.pointer none)) (sz:=1) (dI:=8) rfl rfl underlying160 bC aP aP ai ai rfl ?_;intro NY;refine KO.app (cf:=o8) (z:=Value.pointer none) (sz:=1) (dI:=8) (us:=[bp bh]) (xs:=ps.map (·.1)) rfl rfl rfl bn bQ underlying160 bC aP bh rfl rfl rfl lO ai rfl ?_;intro vh;refine KO.fact (fun _ hs=>aU hs) ?_;rintro⟨ah,kh,rfl,-⟩
   refine KO.kL (z:=(Value.pointer none)) (sz:=1) (dI:=8) rfl rfl underlying161 bC aP aP ai ai rfl ?_;intro Lp;refine KO.app (cf:=o8) (z:=Value.pointer none) (sz:=1) (dI:=8) (us:=[.pointer (some ⟨pM,0,none⟩)]) (xs:=ps.map (·.2)) rfl rfl rfl bn bQ underlying161 bC aP pM rfl rfl rfl lO ai rfl ?_;intro vd;refine KO.fact (fun _ hs=>aU hs) ?_;rintro⟨ad,kd,rfl,-⟩
   refine wu ?_
  rotate_left
  focus
   show KO _ _ _ _ _ _ _ _ _ _
   refine CQ ?_;refine KO.kL (z:=(Value.pointer none)) (sz:=1) (dI:=8) rfl rfl underlying160 bC aP aP ai ai rfl ?_;intro NY;refine Ja ?_;refine KO.kL (z:=(Value.pointer none)) (sz:=1) (dI:=8) rfl rfl underlying161 bC aP aP ai ai rfl ?_;intro Lp;refine KO.app (cf:=o8) (z:=Value.pointer none) (sz:=1) (dI:=8) (us:=[bp bh]) (xs:=ps.map (·.1)) rfl rfl rfl bn bn underlying160 bC aP bh rfl rfl rfl lO ai rfl ?_;intro vh;refine KO.fact (fun _ hs=>aU hs) ?_;rintro⟨ah,kh,rfl,-⟩
   refine KO.app (cf:=o8) (z:=Value.pointer none) (sz:=1) (dI:=8) (us:=[.pointer (some ⟨pM,0,none⟩)]) (xs:=ps.map (·.2)) rfl rfl rfl bn bn underlying161 bC aP pM rfl rfl rfl lO ai rfl ?_;intro vd;refine KO.fact (fun _ hs=>aU hs) ?_;rintro⟨ad,kd,rfl,-⟩
   refine wu ?_
  rotate_left
  focus
   show KO _ _ _ _ _ _ _ _ _ _
   refine RO ?_;refine Ja ?_;refine Z1 ?_;refine KO.kL (z:=(Value.pointer none)) (sz:=1) (dI:=8) rfl rfl underlying160 bC aP aP ai ai rfl ?_;intro NY;refine KO.kL (z:=(Value.pointer none)) (sz:=1) (dI:=8) rfl rfl underlying161 bC aP aP ai ai rfl ?_;intro Lp;refine KO.app (cf:=o8) (z:=Value.pointer none) (sz:=1) (dI:=8) (us:=[bp bh]) (xs:=ps.map (·.1)) rfl rfl rfl bn bn underlying160 bC aP bh rfl rfl rfl lO ai rfl ?_;intro vh;refine KO.fact (fun _ hs=>aU hs) ?_;rintro⟨ah,kh,rfl,-⟩
   refine KO.app (cf:=o8) (z:=Value.pointer none) (sz:=1) (dI:=8) (us:=[.pointer (some ⟨pM,0,none⟩)]) (xs:=ps.map (·.2)) rfl rfl rfl bn bn underlying161 bC aP pM rfl rfl rfl lO ai rfl ?_;intro vd;refine KO.fact (fun _ hs=>aU hs) ?_;rintro⟨ad,kd,rfl,-⟩
   refine wu ?_
  rotate_left
  focus
   show KO _ _ _ _ _ _ _ _ _ _
   refine CQ ?_;refine KO.kL (z:=(Value.pointer none)) (sz:=1) (dI:=8) rfl rfl underlying160 bC aP aP ai ai rfl ?_;intro NY;refine KO.kL (z:=(Value.pointer none)) (sz:=1) (dI:=8) rfl rfl underlying161 bC aP aP ai ai rfl ?_;intro Lp;refine Ja ?_;refine KO.app (cf:=o8) (z:=Value.pointer none) (sz:=1) (dI:=8) (us:=[bp bh]) (xs:=ps.map (·.1)) rfl rfl rfl bn bn underlying160 bC aP bh rfl rfl rfl lO ai rfl ?_;intro vh;refine KO.fact (fun _ hs=>aU hs) ?_;rintro⟨ah,kh,rfl,-⟩
   refine KO.app (cf:=o8) (z:=Value.pointer none) (sz:=1) (dI:=8) (us:=[.pointer (some ⟨pM,0,none⟩)]) (xs:=ps.map (·.2)) rfl rfl rfl bn bn underlying161 bC aP pM rfl rfl rfl lO ai rfl ?_;intro vd;refine KO.fact (fun _ hs=>aU hs) ?_;rintro⟨ad,kd,rfl,-⟩
   refine wu ?_
  rotate_left
  focus
   show KO _ _ _ _ _ _ _ _ _ _
   refine RO ?_;refine Ja ?_;refine Z1 ?_;refine KO.kL (z:=(Value.pointer none)) (sz:=1) (dI:=8) rfl rfl underlying161 bC aP aP ai ai rfl ?_;intro Lp;refine KO.kL (z:=(Value.pointer none)) (sz:=1) (dI:=8) rfl rfl underlying160 bC aP aP ai ai rfl ?_;intro NY;refine KO.app (cf:=o8) (z:=Value.pointer none) (sz:=1) (dI:=8) (us:=[bp bh]) (xs:=ps.map (·.1)) rfl rfl rfl bn bQ underlying160 bC aP bh rfl rfl rfl lO ai rfl ?_;intro vh;refine KO.fact (fun _ hs=>aU hs) ?_;rintro⟨ah,kh,rfl,-⟩
   refine KO.app (cf:=o8) (z:=Value.pointer none) (sz:=1) (dI:=8) (us:=[.pointer (some ⟨pM,0,none⟩)]) (xs:=ps.map (·.2)) rfl rfl rfl bn bn underlying161 bC aP pM rfl rfl rfl lO ai rfl ?_;intro vd;refine KO.fact (fun _ hs=>aU hs) ?_;rintro⟨ad,kd,rfl,-⟩
   refine wu ?_
  rotate_left
  focus
   show KO _ _ _ _ _ _ _ _ _ _
   refine CQ ?_;refine KO.kL (z:=(Value.pointer none)) (sz:=1) (dI:=8) rfl rfl underlying161 bC aP aP ai ai rfl ?_;intro Lp;refine KO.kL (z:=(Value.pointer none)) (sz:=1) (dI:=8) rfl rfl underlying160 bC aP aP ai ai rfl ?_;intro NY;refine Ja ?_;refine KO.app (cf:=o8) (z:=Value.pointer none) (sz:=1) (dI:=8) (us:=[bp bh]) (xs:=ps.map (·.1)) rfl rfl rfl bn bQ underlying160 bC aP bh rfl rfl rfl lO ai rfl ?_;intro vh;refine KO.fact (fun _ hs=>aU hs) ?_;rintro⟨ah,kh,rfl,-⟩
   refine KO.app (cf:=o8) (z:=Value.pointer none) (sz:=1) (dI:=8) (us:=[.pointer (some ⟨pM,0,none⟩)]) (xs:=ps.map (·.2)) rfl rfl rfl bn bn underlying161 bC aP pM rfl rfl rfl lO ai rfl ?_;intro vd;refine KO.fact (fun _ hs=>aU hs) ?_;rintro⟨ad,kd,rfl,-⟩
   refine wu ?_
  rotate_left
  focus
   show KO _ _ _ _ _ _ _ _ _ _
   refine CQ ?_;refine KO.kL (z:=(Value.pointer none)) (sz:=1) (dI:=8) rfl rfl underlying161 bC aP aP ai ai rfl ?_;intro Lp;refine Ja ?_;refine KO.kL (z:=(Value.pointer none)) (sz:=1) (dI:=8) rfl rfl underlying160 bC aP aP ai ai rfl ?_;intro NY;refine KO.app (cf:=o8) (z:=Value.pointer none) (sz:=1) (dI:=8) (us:=[bp bh]) (xs:=ps.map (·.1)) rfl rfl rfl bn bQ underlying160 bC aP bh rfl rfl rfl lO ai rfl ?_;intro vh;refine KO.fact (fun _ hs=>aU hs) ?_;rintro⟨ah,kh,rfl,-⟩
   refine KO.app (cf:=o8) (z:=Value.pointer none) (sz:=1) (dI:=8) (us:=[.pointer (some ⟨pM,0,none⟩)]) (xs:=ps.map (·.2)) rfl rfl rfl bn bn underlying161 bC aP pM rfl rfl rfl lO ai rfl ?_;intro vd;refine KO.fact (fun _ hs=>aU hs) ?_;rintro⟨ad,kd,rfl,-⟩
   refine wu ?_
  rotate_left
  all_goals (
   refine O6 ?_;refine KQ.round (k+1,⟨.slice ah (ps.map (·.1)++[bh]).length kh,.slice ad (ps.map (·.2)++[pM]).length kd,.slice none 0 0,ps++[(bh,pM)]⟩) ⟨by dsimp only;omega,by dsimp only;rw[aX,oS];rfl,rfl⟩ gV ⟨rfl,rfl,rfl,rfl,trivial⟩ (fun _ h=>?_)
   have e1:(ps++[(bh,pM)]).map (·.1)=ps.map (·.1)++[bh]:=by simp
   have e2:(ps++[(bh,pM)]).map (·.2)=ps.map (·.2)++[pM]:=by simp
   have h0:=h.Sz (A:=dy bh pM (bO (k:Int))) (B:=fv pM bD) (C:=bZ vn ps (xy k).hs) bn bn bn;have h2:=IY (f:=vn) (p:=(bh,pM)) (x:=(bO (k:Int),bD)) (by rw[oS,hln]) h0.join;rw[<-hs]at h2;unfold oz;dsimp only;rw[e1,e2]
   exact h2.all Y7)
 ·have pb:k=n:=by omega
  subst pb;refine wo ?_;refine pO ?_;refine KQ.eE rfl rfl rfl (fun w' aT=>⟨_,_,rfl,⟨(Vt,(hv,dv,none)),rfl,rfl,rfl⟩,?_⟩);exact dm (hd:=(hv,dv,none)) ⟨hv,dv,_,ps⟩ (by rw[hln];exact oS) aT rfl ⟨rfl,fun l hl=>by cases hl⟩
end Go.Proofs.YtjhogocabcdjbabGreatDoor
namespace WB
open Go
def qy (H:Ho) (m:Ms):Nat:=if m.ck≠H.id then m.ck.toNat else 4+(H.qI m.queue).getD 0
theorem fm{H H':Ho}(h:bL H'=bL H)(hi:H'.id=H.id)(m:Ms):qy H' m=qy H m:=by unfold qy;rw[bE h,hi]
theorem JE{n:Nat}{H:Ho}(hB:cF n H){m:Ms}(hr:bM m=true)(hq:m.ck=H.id->∃i,H.qI m.queue=some i):∃H1,fC H m=some H1/\(hv H1).Perm (⟨qy H m,m,-1,-1⟩::hv H)/\bL H1=bL H/\H1.names=H.names/\H1.next=max H.next (m.id/4+1)/\kY H H1:=by
 by_cases hm:m.ck=H.id
 ·obtain⟨i,hi⟩:=hq hm;obtain⟨H1,a,b,c,d,-,e,f⟩:=DX hB hm hi;have hj:qy H m=4+i:=by unfold qy;rw[if_neg (by rw[hm];simp),hi];rfl
  rw[hj];exact⟨H1,a,b,c,d,e,f⟩
 ·obtain⟨m1,m2,m3,m4,-,-,m7,m8⟩:=bN hr;let H0:Ho:={H with next:=max H.next (m.id/4+1)};have hj:m.ck.toNat<4:=by omega
  refine⟨H0.iI m.ck.toNat (cP (H0.iq m.ck.toNat) m (-1)),?_,?_,rfl,rfl,rfl,⟨rfl,rfl,rfl,rfl,rfl,rfl,rfl,rfl⟩⟩
  ·unfold fC;dsimp only;rw[if_pos hm];rfl
  ·unfold hv;rw[nA (H:=H0) (by rw[show H0.ways=H.ways from rfl,hB.ways];exact hj)];have FO:qy H m=m.ck.toNat:=by unfold qy;rw[if_pos hm]
   rw[FO];have :=r_ (l:=H0.all) m (-1) (qW (H:=H0) hB.ways hj);exact this
theorem AN{n:Nat}:∀(l:List Ms) {H:Ho},cF n H->(∀m∈l,bM m=true/\(m.ck=H.id->∃i,H.qI m.queue=some i))->
 ∃H1,eW H l=(H1,true)/\(hv H1).Perm (l.map (fun m=>(⟨qy H m,m,-1,-1⟩:En))++hv H)/\bL H1=bL H/\H1.names=H.names/\kY H H1/\H.next<=H1.next/\(∀m∈l,m.id/4<H1.next)/\(∀k:Int,H.next<=k->(∀m∈l,m.id/4<k)->H1.next<=k)/\cF (n+l.length) H1
 |[],H,hB,_=>⟨H,rfl,.refl _,rfl,rfl,.refl _,Int.le_refl _,(fun m hm=>by cases hm),(fun k h _=>h),hB⟩
 |m::l,H,hB,h=>by
  obtain⟨hr,hm⟩:=h m aj;obtain⟨H1,e1,p1,k1,n1,x1,s1⟩:=JE hB hr hm;have gP:=hB.PO hr e1;obtain⟨H2,e2,p2,k2,n2,s2,x2,y2,z2,w5⟩:=AN (n:=n+1) l gP fun m' zX=>by
   obtain⟨a,b⟩:=h m' (by simp[zX]);exact⟨a,fun hh=>by rw[bE k1];exact b (by rw[hh,s1.id])⟩
  refine⟨H2,?_,?_,k2.trans k1,n2.trans n1,s1.trans s2,by omega,fun m' zX=>?_,fun k hk hl=>z2 k (by rw[x1];have :=hl m aj;omega) fun m' zX=>hl m' (by simp[zX]),w5.le fx⟩
  ·rw[eW,e1];exact e2
  ·refine p2.trans ?_;rw[aJ];have :(l.map fun m'=>(⟨qy H1 m',m',-1,-1⟩:En))=l.map fun m'=>⟨qy H m',m',-1,-1⟩:=by
    apply List.map_congr_left;intro m' _;rw[fm k1 s1.id]
   rw[this];refine((List.Perm.refl _).append p1).trans ?_;rw[bz];exact List.perm_middle
  ·rcases aD.1 zX with rfl|zX
   ·omega
   ·exact y2 m' zX
theorem Bq{n:Nat}{H:Ho}{x:ox}(hB:cF n H)(hx:fE x)(hn:((hv H).map c_).Nodup)(hp:∀p∈x.aO,p.1.ck=H.id->∃i,H.qI p.1.queue=some i)(hpn:(x.aO.map fun p=>p.1.id).Nodup)(hpf:∀p∈x.aO,∀e∈hv H,c_ e≠p.1.id)(OX:(x.bf.map (·.1)).Nodup)(hg:∀g∈x.bf,∃i,H.qI g.2=some i/\∃e∈hv H,e.j=4+i/\c_ e=g.1):
 ∃H1,eI H (nY x)=(H1,true)/\(hv H1).Perm ((x.aO.map (fun p=>(⟨qy H p.1,p.1,-1,-1⟩:En))++hv H).filter fun e=> !decide (c_ e∈x.bf.map (·.1)))/\bL H1=bL H/\H1.names=H.names/\kY H H1/\H.next<=H1.next/\(∀p∈x.aO,p.1.id/4<H1.next)/\(∀k:Int,H.next<=k->(∀p∈x.aO,p.1.id/4<k)->H1.next<=k)/\cF (n+x.aO.length) H1:=by
 obtain⟨H1,e1,p1,k1,n1,s1,x1,y1,z1,gP⟩:=AN (x.aO.map (·.1)) hB fun m hm=>by
  obtain⟨p,zV,rfl⟩:=ay.1 hm;exact⟨hx.aO p zV,hp p zV⟩
 rw[List.map_map]at p1;have y2:∀p∈x.aO,p.1.id/4<H1.next:=fun p hp=>y1 _ (List.mem_map_of_mem (f:=(·.1)) hp)
 have z2:∀k:Int,H.next<=k->(∀p∈x.aO,p.1.id/4<k)->H1.next<=k:=fun k hk h=>z1 k hk fun m hm=>by
  obtain⟨p,zV,rfl⟩:=ay.1 hm;exact h p zV
 rw[aW]at gP;have zH:((hv H1).map c_).Nodup:=by
  refine(p1.map c_).nodup_iff.2 ?_;rw[aN,List.map_map,List.nodup_append];refine⟨?_,hn,fun a ha b hb=>?_⟩
  ·exact hpn
  ·obtain⟨p,zV,rfl⟩:=ay.1 ha;obtain⟨e,he,rfl⟩:=ay.1 hb;exact fun e2=>hpf p zV e he e2.symm
 have zJ:eI H (nY x)=if cS (x.bf.map gx) plus=⟨#[]⟩then(H1,true)else gk H1 (di 43 (cS (x.bf.map gx) plus)):=by
  unfold eI;have Qw:=hx.read;rw[hx.cut]at Qw ⊢;dsimp only at Qw ⊢;rw[if_neg aj,Qw];dsimp only;rw[e1];rfl
 by_cases h0:x.bf=[]
 ·refine⟨H1,?_,?_,k1,n1,s1,x1,y2,z2,gP⟩
  ·rw[zJ,h0];rfl
  ·rw[h0];refine p1.trans ?_;rw[bo.2 (fun a _=>by simp)];exact .refl _
 ·obtain⟨t1,t2⟩:=Bf (fun g hg=>(hx.bf g hg).2.2) h0;rw[if_neg t1,t2]at zJ;obtain⟨H2,e2,p2,k2,n2,w2,x2,s2,w5⟩:=yI x.bf gP zH OX fun g SP=>by
   obtain⟨i,hi,e,he,hj,hid⟩:=hg g SP;exact⟨hx.bf g SP,i,by rw[bE k1];exact hi,e,p1.mem_iff.2 (List.mem_append_right _ he),hj,hid⟩
  exact⟨H2,zJ.trans e2,p2.trans (p1.filter _),k2.trans k1,n2.trans n1,s1.trans s2,by omega,fun p hp=>by rw[x2];exact y2 p hp,fun k a b=>by rw[x2];exact z2 k a b,w5⟩
theorem DI{α:Type}{l:List α}{j:Nat}{q:α}(h:l[j]? =some q):l.set j q=l:=by
 apply List.ext_getElem?;intro i;rw[List.getElem?_set];split
 ·rename_i e;rw[if_pos (au.1 h).1,<-e,h]
 ·rfl
theorem LN{l:List Qu}{j:Nat}{q:Qu}{a:Int}(h:l[j]? =some q)(hn:((vw l).map c_).Nodup)(hj:∀e∈vw l,c_ e=a->e.j=j):(vw (l.set j (eM q a))).Perm ((vw l).filter fun e=> !decide (c_ e=a)):=by
 cases hk:my q a with
 |none=>
  have e1:eM q a=q:=by unfold eM;rw[hk]
  rw[e1,DI h,bo.2];intro e he;have h2:c_ e≠a:=fun e2=>by
   obtain⟨q',h3,x,hx,hex⟩:=BQ.1 he;rw[hj e he e2,h]at h3;simp only[az]at h3;subst h3;unfold my at hk;rw[List.findIdx?_eq_none_iff]at hk;have :=hk x hx;unfold IF at this;have h4:x.m.id=a:=by rw[<-e2,hex];rfl
   simp[h4]at this
  simpa using h2
 |some k=>
  obtain⟨ru,SK,-⟩:=List.findIdx?_eq_some_iff_getElem.1 hk;have Kh:q.l[k]? =some q.l[k]:=ao ru;have Uz:(q.l[k]).m.id=a:=by unfold IF at SK;simpa using SK
  have e1:eM q a=⟨q.l.eraseIdx k,q.next⟩:=by unfold eM;rw[hk]
  rw[e1];have :=Bn hn (Dv h Kh q.next);rw[show c_ (fU j q.l[k])=a from Uz]at this;exact this
theorem Aw{j:Nat}:∀(b:List Int) {l:List Qu} {q:Qu},l[j]? =some q->((vw l).map c_).Nodup->(∀e∈vw l,c_ e∈b->e.j=j)->(vw (l.set j (dF q b))).Perm ((vw l).filter fun e=> !decide (c_ e∈b))
 |[],l,q,h,hn,hj=>by
  rw[show dF q []=q from rfl,DI h,bo.2 (fun _ _=>by simp)]
 |a::b,l,q,h,hn,hj=>by
  have dt:=(au.1 h).1;have p1:=LN (a:=a) h hn fun e he e2=>hj e he (by simp[e2])
  have h1:(l.set j (eM q a))[j]? =some (eM q a):=by rw[List.getElem?_set_self dt]
  have zH:((vw (l.set j (eM q a))).map c_).Nodup:=(p1.map c_).nodup_iff.2 (hn.sublist (List.filter_sublist.map _));have p2:=Aw b h1 zH fun e he e2=>hj e (aB.1 (p1.mem_iff.1 he)).1 (by simp[e2])
  rw[List.set_set]at p2;refine p2.trans ((p1.filter _).trans (List.Perm.of_eq ?_));rw[bm];refine List.filter_congr fun x _=>?_
  by_cases h1:c_ x=a<;>by_cases h2:c_ x∈b<;>simp[h1,h2]
theorem uA{n:Nat}:∀(l:List (Ms×ak)) {H:Ho},cF n H->(∀x∈l,((0<=x.1.pri/\x.1.pri<=9)/\0<=x.1.id/\x.1.id<=1099511627776)/\∃i,H.qI x.2=some i)->
 ∃H1,dS H l=(H1,true)/\(hv H1).Perm (l.map (fun x=>(⟨4+(H.qI x.2).getD 0,x.1,-1,-1⟩:En))++hv H)/\bL H1=bL H/\H1.names=H.names/\H1.next=H.next/\kY H H1/\cF (n+l.length) H1
 |[],H,hB,_=>⟨H,rfl,.refl _,rfl,rfl,rfl,.refl _,hB⟩
 |(m,t)::l,H,hB,h=>by
  obtain⟨hm,i,hi⟩:=h (m,t) aj;have oG:=(ji hi).1;have gP:=(hB.le (Nat.le_succ n)).eP ((hB.qa oG).mC hm.1 hm.2 (-1)) i;have p1:(hv (H.eP i (cP (H.dP i) m (-1)))).Perm (⟨4+i,m,-1,-1⟩::hv H):=by
   unfold hv;rw[kq hB.ways];exact r_ m (-1) (Fc hB oG)
  have k1:bL (H.eP i (cP (H.dP i) m (-1)))=bL H:=by unfold bL;exact jb i _
  obtain⟨H2,e2,p2,k2,n2,x2,s2,w5⟩:=uA (n:=n+1) l gP fun x hx=>by
   obtain⟨a,j,b⟩:=h x wF;exact⟨a,j,by rw[bE k1];exact b⟩
  refine⟨H2,?_,?_,k2.trans k1,n2,x2,kY.trans (B:=H.eP i (cP (H.dP i) m (-1))) ⟨rfl,rfl,rfl,rfl,rfl,rfl,rfl,rfl⟩ s2,w5.le fx⟩
  ·rw[dS,hi];exact e2
  ·refine p2.trans ?_;have :(l.map fun x=>(⟨4+((H.eP i (cP (H.dP i) m (-1))).qI x.2).getD 0,x.1,-1,-1⟩:En))=l.map fun x=>⟨4+(H.qI x.2).getD 0,x.1,-1,-1⟩:=by
    apply List.map_congr_left;intro x _;rw[bE k1]
   rw[this,aJ];dsimp only;rw[hi,Option.getD_some,bz];refine((List.Perm.refl _).append p1).trans ?_;exact List.perm_middle
theorem A1{l:List Int}(h0:l≠[])(h:∀x∈l,ob x):oE (cS (l.map bP) sp)=some l:=by
 unfold oE
 rw[show(sp:ak)=b_ 32 from rfl,tM Xj (fun p hp=>by
  obtain⟨n,-,rfl⟩:=ay.1 hp
  exact fp _ ai)]
 clear h0
 induction l with
 |nil=>rfl
 |cons a l ih=>
  rw[aJ,List.mapM_cons,gZ (h a aj),ih fun x hx=>h x wF];rfl
theorem u_{H:Ho}{k a:Int}{r:List Int}(hr:cb H k=true)(hi:∀x∈a::r,ob x):
 bY H (kH k (a::r))=({H with batch:=H.batch.set k.toNat (a::r),cg:=H.cg.set k.toNat (dz H k.toNat+1)},true):=by
 have h4:=bX.1 hr;have e:oE (cS ((k::a::r).map bP) sp)=some (k::a::r):=A1 aj fun x hx=>by
  rcases aD.1 hx with rfl|hx
  ·exact⟨by omega,by omega⟩
  ·exact hi x hx
 unfold bY kH;rw[l7 ai];dsimp only;rw[if_neg ai,if_neg ai,if_neg ai,if_pos rfl];unfold gM;rw[e];dsimp only;rw[if_pos hr]
theorem sJ{H:Ho}{k:Int}(hr:cb H k=true):
 bY H (vL k)=({H.iI k.toNat (dF (H.iq k.toNat) (cn H k.toNat))with batch:=H.batch.set k.toNat []},true):=by
 have h4:=bX.1 hr;have e:oE (bP k)=some [k]:=by
  have :=A1 (l:=[k]) aj (fun x hx=>by simp at hx;subst hx;exact⟨by omega,by omega⟩)
  rwa [aJ,List.map_nil,jL]at this
 unfold bY vL;rw[l7 ai];dsimp only;rw[if_neg ai,if_neg ai,if_neg ai,if_neg ai,if_pos rfl];unfold eG;rw[e];dsimp only;rw[if_pos hr]
theorem JH{l:List Ms}{t:List ak}(ht:∀x∈t,c6 x=true)(dt:t.length=l.length):l.zip (di 43 (cS t plus))=l.zip t:=by
 by_cases h0:t=[]
 ·subst h0;have :l=[]:=by simpa using dt.symm
  subst this;rfl
 ·rw[AP h0 ht]
theorem ve{H:Ho}{k:Int}{l:List Ms}{t:List ak}{H1:Ho}(hr:cb H k=true)(h:iV l=none)(ht:∀x∈t,c6 x=true)(dt:t.length=l.length)(h1:dS H (l.zip t)=(H1,true)):
 bY H (ra k l t)=({H1 with aM:=H.aM.set k.toNat (dc H k.toNat+1)},true):=by
 have h4:=bX.1 hr;have hp:=xX (k:=k) (dx h) ht;have hc:cX 58 (ra k l t)=(b_ 114,bP k++b_ 47++(ct l++b_ 47++cS t plus),true):=by unfold ra;exact l7 ai _
 unfold bY;rw[hc]at hp ⊢;dsimp only at hp ⊢;rw[if_neg ai,if_neg ai,if_neg ai,if_neg ai,if_neg ai,if_pos rfl];unfold gO;rw[hp];dsimp only;rw[gZ ⟨by omega,by omega⟩,p9 h];dsimp only;rw[if_pos hr,JH ht dt,h1];dsimp only;rw[if_pos rfl]
structure Cr where
 bg:List (Nat×Ms)
 bt:Nat->List Int
 sn:Nat->Int
 av:Nat->Int
 nx:Int
def ef (C:Nat->Cr) (k:Nat) (c:Cr):Nat->Cr:=fun i=>if i=k then c else C i
theorem cJ(C:Nat->Cr)(k:Nat)(c:Cr):ef C k c k=c:=if_pos rfl
theorem cR{C:Nat->Cr}{k i:Nat}{c:Cr}(h:i≠k):ef C k c i=C i:=if_neg h
def nH (y:Nat×Ms):Int:=y.2.id
def vB (n:Nat) (C:Nat->Cr) (k d:Nat):Bool:=decide ((C k).bt d≠[]/\d<n/\(C k).sn d<=(C d).av k)
def gu (n:Nat) (C:Nat->Cr) (k:Nat) (y:Nat×Ms):Bool:=decide (4<=y.1)||(decide (y.1≠k)&& !(vB n C k y.1&&decide (nH y∈(C k).bt y.1)))
def view (n:Nat) (C:Nat->Cr) (k:Nat):List Ms:=((C k).bg.filter (gu n C k)).map (·.2)
def vR (n:Nat) (C:Nat->Cr):List Ms:=(List.range n).flatMap (view n C)
def pK (c:Cr) (d:Nat) (y:Nat×Ms):Bool:=decide (y.1=d)&&decide (nH y∈c.bt d)
def rI (c:Cr) (d:Nat):List Ms:=(c.bg.filter (pK c d)).map (·.2)
structure K8 (n:Nat) (C:Nat->Cr) (g:Gm):Prop where
 ok:∃a b:Nat,g.f.ik=(a:Int)/\g.dto=(b:Int)/\a<n/\b<n/\a≠b/\
  (g.f.zk=true->g.f.num<=(C a).av b)/\
  (g.f.zk=false->g.f.num<=(C a).sn b/\(g.f.num=(C a).sn b->(C b).av a<g.f.num->(C a).bt b≠[]/\g.l.Perm (rI (C a) b)))
structure GC (n:Nat) (C:Nat->Cr) (dQ:List Gm) (T:List Ms):Prop where
 JW:(vR n C).Perm T
 tn:(T.map (·.id)).Nodup
 TP:∀m∈T,∃o:Nat,o<n/\m.id%4=(o:Int)/\m.id/4<(C o).nx
 kz:∀k,k<n->((C k).bg.map nH).Nodup
 bin:∀k,k<n->∀d,∀i∈(C k).bt d,d<4/\∃y∈(C k).bg,y.1=d/\nH y=i
 pr:∀k d,k<n->d<n->k≠d->(C d).av k<=(C k).sn d/\(C k).sn d<=(C d).av k+1/\((C k).bt d=[]->(C d).av k=(C k).sn d)
 fr:∀g∈dQ,K8 n C g
theorem Cy{α:Type}{f g:Nat->List α}:∀{l:List Nat},(∀x∈l,f x=g x)->l.flatMap f=l.flatMap g
 |[],_=>rfl
 |a::l,h=>by rw[aR,aR,h a aj,Cy fun x hx=>h x wF]
theorem Bl{α:Type}{n k:Nat}(hk:k<n)(f:Nat->List α):∃R,∀f':Nat->List α,(∀i,i≠k->f' i=f i)->((List.range n).flatMap f').Perm (f' k++R):=by
 have hp:(List.range n).Perm (k::(List.range n).erase k):=List.perm_cons_erase (aZ.2 hk);have hn:=hp.nodup_iff.1 List.nodup_range;rw[bJ]at hn;refine⟨((List.range n).erase k).flatMap f,fun f' h=>?_⟩;refine(hp.flatMap_right f').trans (List.Perm.of_eq ?_);rw[aR];congr 1;exact Cy fun i hi=>h i fun e=>hn.1 (e▸hi)
theorem Kr{α:Type}{n k d:Nat}(hk:k<n)(hd:d<n)(Na:k≠d)(f:Nat->List α):∃R,∀f':Nat->List α,(∀i,i≠k->i≠d->f' i=f i)->((List.range n).flatMap f').Perm (f' k++(f' d++R)):=by
 have hp:(List.range n).Perm (k::(List.range n).erase k):=List.perm_cons_erase (aZ.2 hk);have hn:=hp.nodup_iff.1 List.nodup_range;rw[bJ]at hn;have UK:d∈(List.range n).erase k:=by
  rcases aD.1 (hp.mem_iff.1 (aZ.2 hd))with e|e
  ·exact absurd e.symm Na
  ·exact e
 have kB:=List.perm_cons_erase UK;have zG:=kB.nodup_iff.1 hn.2;rw[bJ]at zG;refine⟨(((List.range n).erase k).erase d).flatMap f,fun f' h=>?_⟩;refine((hp.trans (kB.cons k)).flatMap_right f').trans (List.Perm.of_eq ?_);rw[aR,aR];congr 2;exact Cy fun i hi=>h i (fun e=>hn.1 (e▸kB.mem_iff.2 (List.mem_cons_of_mem _ hi))) fun e=>zG.1 (e▸hi)
theorem n9{α β:Type}{f:α->β}{l:List α}(h:(l.map f).Nodup){x y:α}(hx:x∈l)(hy:y∈l)(e:f x=f y):x=y:=by
 induction l with
 |nil=>cases hx
 |cons a l ih=>
  rw[aJ,bJ]at h;rcases aD.1 hx with h1|h1<;>rcases aD.1 hy with h2|h2
  ·rw[h1,h2]
  ·exact absurd (by rw[<-h1,e];exact List.mem_map_of_mem (f:=f) h2) h.1
  ·exact absurd (by rw[<-h2,<-e];exact List.mem_map_of_mem (f:=f) h1) h.1
  ·exact ih h.2 h1 h2
theorem GC.sub{n:Nat}{C:Nat->Cr}{dQ LA:List Gm}{T:List Ms}(h:GC n C dQ T)(hw:∀g∈LA,g∈dQ\/K8 n C g):GC n C LA T:=
 ⟨h.JW,h.tn,h.TP,h.kz,h.bin,h.pr,fun g hg=>(hw g hg).elim (h.fr g) id⟩
theorem GC.perm{n:Nat}{C:Nat->Cr}{dQ:List Gm}{T T':List Ms}(h:GC n C dQ T)(hT:T.Perm T'):GC n C dQ T':=
 ⟨h.JW.trans hT,(hT.map _).nodup_iff.1 h.tn,fun m hm=>h.TP m (hT.mem_iff.2 hm),h.kz,h.bin,h.pr,h.fr⟩
section
variable {n k d:Nat} {C:Nat->Cr} {dQ:List Gm} {T:List Ms} {c:Cr}
theorem nM{C':Nat->Cr}{i:Nat}(h1:(C' i).bg=(C i).bg)(h2:∀y,gu n C' i y=gu n C i y):view n C' i=view n C i:=by
 unfold view;rw[h1];congr 1;exact List.filter_congr fun y _=>h2 y
theorem GC.uz(h:GC n C dQ T)(hk:k<n){P:List (Nat×Ms)}{G:List Int}(vt:c.bg.Perm ((P++(C k).bg).filter fun y=> !decide (nH y∈G)))(qR:c.bt=(C k).bt)(C_:c.sn=(C k).sn)(IS:c.av=(C k).av)(qN:(C k).nx<=c.nx)(hP:∀y∈P,(4<=y.1\/y.1≠k)/\nH y%4=(k:Int)/\nH y/4<c.nx)(hPn:(P.map nH).Nodup)(hPf:∀y∈P,nH y∉T.map (·.id))(hPb:∀y∈P,nH y∉(C k).bg.map nH)(hG:∀i∈G,∃y∈(C k).bg,4<=y.1/\nH y=i):
 GC n (ef C k c) dQ ((P.map (·.2)++T).filter fun m=> !decide (m.id∈G)):=by
 have e1:∀a,(ef C k c a).bt=(C a).bt:=fun a=>by by_cases e:a=k;(rw[e,cJ,qR]);(rw[cR e])
 have e2:∀a,(ef C k c a).sn=(C a).sn:=fun a=>by by_cases e:a=k;(rw[e,cJ,C_]);(rw[cR e])
 have e3:∀a,(ef C k c a).av=(C a).av:=fun a=>by by_cases e:a=k;(rw[e,cJ,IS]);(rw[cR e])
 have Cp:∀a b,vB n (ef C k c) a b=vB n C a b:=fun a b=>by unfold vB;rw[e1,e2,e3]
 have yz:∀a y,gu n (ef C k c) a y=gu n C a y:=fun a y=>by unfold gu;rw[Cp,e1]
 have hPt:∀y∈P,∀b,nH y∉(C k).bt b:=fun y hy b hb=>by
  obtain⟨-,z,hz,-,e⟩:=h.bin k hk b _ hb;exact hPb y hy (e▸cO hz)
 have hPv:∀y∈P,gu n C k y=true:=fun y hy=>by
  unfold gu;rcases(hP y hy).1 with h1|h1
  ·simp[h1]
  ·simp[h1,hPt y hy]
 obtain⟨R,hR⟩:=Bl hk (view n C);have hV:=hR (view n C) fun _ _=>rfl
 have O0:=hR (view n (ef C k c)) fun i hi=>nM (by rw[cR hi]) (yz i)
 have lV:(((view n C k++R)).map (·.id)).Nodup:=(((hV.symm.trans h.JW).map (·.id)).nodup_iff).2 h.tn
 have XQ:(view n (ef C k c) k).Perm ((P.map (·.2)++view n C k).filter fun m=> !decide (m.id∈G)):=by
  unfold view;rw[cJ];refine((vt.filter _).map _).trans (List.Perm.of_eq ?_);rw[show(gu n (ef C k c) k)=gu n C k from funext (yz k)];have :(P.map (·.2)++(((C k).bg.filter (gu n C k)).map (·.2)))=((P++(C k).bg).filter (gu n C k)).map (·.2):=by
   rw[bU,aN,bo.2 hPv]
  rw[this,List.filter_map,bm,bm];congr 1;apply List.filter_congr;intro y _;rw[Bool.and_comm];rfl
 have hRG:R.filter (fun m=> !decide (m.id∈G))=R:=by
  rw[bo];intro m hm;have :m.id∉G:=fun hg=>by
   obtain⟨y,hy,h4,e⟩:=hG _ hg;have hyV:y.2∈view n C k:=by
    unfold view;exact cO (aB.2 ⟨hy,by unfold gu;simp[h4]⟩)
   rw[aN,List.nodup_append]at lV;exact lV.2.2 _ (List.mem_map_of_mem (f:=(·.id)) hyV) _ (List.mem_map_of_mem (f:=(·.id)) hm) e
  simpa using this
 have M8:(vR n (ef C k c)).Perm ((P.map (·.2)++T).filter fun m=> !decide (m.id∈G)):=by
  refine O0.trans ((XQ.append_right R).trans ?_);have h5:((P.map (·.2)++T).filter fun m=> !decide (m.id∈G)).Perm ((P.map (·.2)++(view n C k++R)).filter fun m=> !decide (m.id∈G)):=
   List.Perm.filter _ ((List.Perm.refl _).append (h.JW.symm.trans hV))
  refine List.Perm.trans (List.Perm.of_eq ?_) h5.symm;rw[<-aL,List.filter_append (l₁:=List.map (fun x=>x.snd) P++view n C k),hRG]
 refine⟨M8,?_,fun m hm=>?_,fun a ha=>?_,fun a ha b i hi=>?_,fun a b ha hb vu=>?_,fun g hg=>?_⟩
 ·refine List.Nodup.sublist (List.filter_sublist.map _) ?_;rw[aN,List.map_map,List.nodup_append];refine⟨hPn,h.tn,fun x hx y hy=>?_⟩;obtain⟨z,hz,rfl⟩:=ay.1 hx;exact fun e=>hPf z hz (by rw[show nH z=y from e];exact hy)
 ·rcases aH.1 (aB.1 hm).1 with h1|h1
  ·obtain⟨y,hy,rfl⟩:=ay.1 h1;exact⟨k,hk,(hP y hy).2.1,by rw[cJ];exact(hP y hy).2.2⟩
  ·obtain⟨o,ho,a,b⟩:=h.TP m h1;refine⟨o,ho,a,?_⟩;by_cases e:o=k
   ·subst e;rw[cJ];omega
   ·rw[cR e];exact b
 ·by_cases e:a=k
  ·subst e;rw[cJ];refine(vt.map nH).nodup_iff.2 (List.Nodup.sublist (List.filter_sublist.map _) ?_);rw[aN,List.nodup_append];refine⟨hPn,h.kz a ha,fun x hx y hy=>?_⟩;obtain⟨z,hz,rfl⟩:=ay.1 hx;exact fun e=>hPb z hz (e▸hy)
  ·rw[cR e];exact h.kz a ha
 ·rw[e1]at hi;obtain⟨Yz,y,hy,e4,e5⟩:=h.bin a ha b i hi;refine⟨Yz,y,?_,e4,e5⟩;by_cases e:a=k
  ·subst e;rw[cJ,vt.mem_iff,aB];refine⟨List.mem_append_right _ hy,?_⟩;have :nH y∉G:=fun hg=>by
    obtain⟨z,hz,h4,e6⟩:=hG _ hg;have :=n9 (h.kz a ha) hz hy e6;subst this;omega
   simpa using this
  ·rw[cR e];exact hy
 ·rw[e1,e2,e3];exact h.pr a b ha hb vu
 ·obtain⟨a,b,f1,f2,f3,f4,f5,f6,f7⟩:=(h.fr g hg).ok;refine⟨a,b,f1,f2,f3,f4,f5,fun hh=>by rw[e3];exact f6 hh,fun hh=>?_⟩;obtain⟨f8,f9⟩:=f7 hh;refine⟨by rw[e2];exact f8,fun g1 g2=>?_⟩;rw[e2]at g1;rw[e3]at g2;obtain⟨f10,f11⟩:=f9 g1 g2;refine⟨by rw[e1];exact f10,f11.trans ?_⟩;by_cases e:a=k
  ·subst e;rw[cJ];unfold rI;refine List.Perm.map _ (List.Perm.trans (List.Perm.of_eq ?_) (vt.filter _).symm);rw[bm,bU];have a1:P.filter (fun y=>pK c b y&& !decide (nH y∈G))=[]:=by
    rw[List.filter_eq_nil_iff];intro y hy;unfold pK;rw[qR];simp[hPt y hy b]
   rw[a1,List.nil_append];apply List.filter_congr;intro y hy;unfold pK;rw[qR];by_cases hm:y.1=b/\nH y∈(C a).bt b
   ·have :nH y∉G:=fun hg=>by
     obtain⟨z,hz,h4,e6⟩:=hG _ hg;have :=n9 (h.kz a hk) hz hy e6;subst this;have :=(h.bin a hk b _ hm.2).1;omega
    simp[hm.1,hm.2,this]
   ·by_cases h1:y.1=b
    ·have h2:nH y∉(C a).bt b:=fun h2=>hm ⟨h1,h2⟩
     simp[h1,h2]
    ·simp[h1]
  ·rw[cR e]
theorem GC.made(h:GC n C dQ T)(hk:k<n)(hd:d<n)(Na:k≠d)(QP:d<4){l:List Int}(hl:l≠[])(h0:(C k).bt d=[])(hli:∀i∈l,∃y∈(C k).bg,y.1=d/\nH y=i)(vt:c.bg=(C k).bg)(qR:∀b,c.bt b=if b=d then l else(C k).bt b)(C_:∀b,c.sn b=if b=d then(C k).sn d+1 else(C k).sn b)(IS:c.av=(C k).av)(qN:c.nx=(C k).nx):
 GC n (ef C k c) dQ T:=by
 have e3:∀a,(ef C k c a).av=(C a).av:=fun a=>by by_cases e:a=k;(rw[e,cJ,IS]);(rw[cR e])
 have e4:∀a,(ef C k c a).bg=(C a).bg:=fun a=>by by_cases e:a=k;(rw[e,cJ,vt]);(rw[cR e])
 have e1:∀a b,(a=k/\b=d)\/((ef C k c a).bt b=(C a).bt b/\(ef C k c a).sn b=(C a).sn b/\¬(a=k/\b=d)):=fun a b=>by
  by_cases e:a=k
  ·by_cases e':b=d
   ·exact .inl ⟨e,e'⟩
   ·rw[e,cJ,qR,C_,if_neg e',if_neg e'];exact .inr ⟨rfl,rfl,fun x=>e' x.2⟩
  ·rw[cR e];exact .inr ⟨rfl,rfl,fun x=>e x.1⟩
 have ek:(ef C k c k).bt d=l/\(ef C k c k).sn d=(C k).sn d+1:=by rw[cJ,qR,C_,if_pos rfl,if_pos rfl];exact⟨rfl,rfl⟩
 have Qy:=h.pr k d hk hd Na;have Cp:∀a b,vB n (ef C k c) a b=vB n C a b:=fun a b=>by
  rcases e1 a b with⟨rfl,rfl⟩|⟨x,y,-⟩
  ·unfold vB;rw[ek.1,ek.2,e3,h0];have :¬((C a).sn b+1<=(C b).av a):=by have :=Qy.1;omega
   simp[this]
  ·unfold vB;rw[x,y,e3]
 have WV:vB n C k d=false:=by unfold vB;rw[h0];simp
 have yz:∀a y,gu n (ef C k c) a y=gu n C a y:=fun a y=>by
  unfold gu;rw[Cp];rcases e1 a y.1 with⟨rfl,h2⟩|⟨x,-,-⟩
  ·rw[h2,WV];simp
  ·rw[x]
 refine⟨?_,h.tn,fun m hm=>?_,fun a ha=>by rw[e4];exact h.kz a ha,fun a ha b i hi=>?_,fun a b ha hb vu=>?_,fun g hg=>?_⟩
 ·have :vR n (ef C k c)=vR n C:=by
   unfold vR;congr 1;funext i;exact nM (e4 i) (yz i)
  rw[this];exact h.JW
 ·obtain⟨o,ho,a,b⟩:=h.TP m hm;refine⟨o,ho,a,?_⟩;by_cases e:o=k
  ·subst e;rw[cJ,qN];exact b
  ·rw[cR e];exact b
 ·rw[e4];rcases e1 a b with⟨rfl,rfl⟩|⟨x,-,-⟩
  ·rw[ek.1]at hi;exact⟨QP,hli i hi⟩
  ·rw[x]at hi;exact h.bin a ha b i hi
 ·rw[e3];rcases e1 a b with⟨rfl,rfl⟩|⟨x,y,-⟩
  ·rw[ek.1,ek.2];have :=Qy.2.2 h0;exact⟨by omega,by omega,fun h2=>absurd h2 hl⟩
  ·rw[x,y];exact h.pr a b ha hb vu
 ·obtain⟨a,b,f1,f2,f3,f4,f5,f6,f7⟩:=(h.fr g hg).ok;refine⟨a,b,f1,f2,f3,f4,f5,fun hh=>by rw[e3];exact f6 hh,fun hh=>?_⟩;obtain⟨f8,f9⟩:=f7 hh;rcases e1 a b with⟨rfl,rfl⟩|⟨x,y,-⟩
  ·rw[ek.2];exact⟨by omega,fun h2=>by omega⟩
  ·rw[x,y,e3];refine⟨f8,fun g1 g2=>⟨(f9 g1 g2).1,(f9 g1 g2).2.trans (List.Perm.of_eq ?_)⟩⟩;unfold rI;rw[e4];congr 2;funext z;unfold pK;rw[x]
theorem GC.NQ(h:GC n C dQ T)(hk:k<n)(hd:d<n)(Na:k≠d)(vX:n<=4){P:List (Nat×Ms)}(hP:∀y∈P,4<=y.1)(Cq:(C k).bt d≠[])(hs:(C k).sn d=(C d).av k+1)(hl:(P.map (·.2)).Perm (rI (C k) d))(vt:c.bg.Perm (P++(C d).bg))(ace:(c.bg.map nH).Nodup)(qR:c.bt=(C d).bt)(C_:c.sn=(C d).sn)(IS:∀b,c.av b=if b=k then(C d).av k+1 else(C d).av b)(qN:c.nx=(C d).nx):
 GC n (ef C d c) dQ T:=by
 have e1:∀a,(ef C d c a).bt=(C a).bt:=fun a=>by by_cases e:a=d;(rw[e,cJ,qR]);(rw[cR e])
 have e2:∀a,(ef C d c a).sn=(C a).sn:=fun a=>by by_cases e:a=d;(rw[e,cJ,C_]);(rw[cR e])
 have e3:∀a b,(a=d/\b=k)\/((ef C d c a).av b=(C a).av b/\¬(a=d/\b=k)):=fun a b=>by
  by_cases e:a=d
  ·by_cases e':b=k
   ·exact .inl ⟨e,e'⟩
   ·rw[e,cJ,IS,if_neg e'];exact .inr ⟨rfl,fun x=>e' x.2⟩
  ·rw[cR e];exact .inr ⟨rfl,fun x=>e x.1⟩
 have ek:(ef C d c d).av k=(C d).av k+1:=by rw[cJ,IS,if_pos rfl]
 have Cp:∀a b,¬(b=d/\a=k)->vB n (ef C d c) a b=vB n C a b:=fun a b vu=>by
  rcases e3 b a with h1|⟨x,-⟩
  ·exact absurd h1 vu
  ·unfold vB;rw[e1,e2,x]
 have Nh:vB n (ef C d c) k d=true:=by unfold vB;rw[e1,e2,ek];simp[Cq,hd,hs]
 have WV:vB n C k d=false:=by unfold vB;rw[hs];simp;intros;omega
 have yz:∀a y,¬(a=k/\y.1=d)->gu n (ef C d c) a y=gu n C a y:=fun a y hay=>by
  unfold gu;rw[Cp a y.1 (fun x=>hay ⟨x.2,x.1⟩),e1]
 have QP:d<4:=by omega
 obtain⟨R,hR⟩:=Kr hk hd Na (view n C);have hV:=hR (view n C) fun _ _ _=>rfl
 have O0:=hR (view n (ef C d c)) fun i hi WS=>nM (by rw[cR WS]) fun y=>yz i y fun x=>hi x.1
 have XQ:(view n C k).Perm (rI (C k) d++view n (ef C d c) k):=by
  unfold view rI;rw[cR Na,<-aN];refine List.Perm.map _ ?_;have h1:(C k).bg.filter (gu n (ef C d c) k)=((C k).bg.filter (gu n C k)).filter fun y=> !pK (C k) d y:=by
   rw[bm];apply List.filter_congr;intro y _;by_cases e:y.1=d
   ·unfold gu pK;rw[e,Nh,WV,e1];have :¬4<=d:=by omega
    have :d≠k:=fun e=>Na e.symm
    by_cases hm:nH y∈(C k).bt d<;>simp[*]
   ·rw[yz k y fun x=>e x.2];unfold pK;simp[e]
  have h2:(C k).bg.filter (pK (C k) d)=((C k).bg.filter (gu n C k)).filter (pK (C k) d):=by
   rw[bm];apply List.filter_congr;intro y _;by_cases e:y.1=d
   ·unfold gu pK;rw[e,WV];have :d≠k:=fun e=>Na e.symm
    simp[this]
   ·unfold pK;simp[e]
  rw[h1,h2];exact(List.filter_append_perm _ _).symm
 have hvd:(view n (ef C d c) d).Perm (P.map (·.2)++view n C d):=by
  unfold view;rw[cJ];refine((vt.filter _).map _).trans (List.Perm.of_eq ?_);rw[bU,aN];congr 1
  ·rw[bo.2];intro y hy;unfold gu;simp[hP y hy]
  ·congr 1;exact List.filter_congr fun y _=>yz d y fun x=>Na x.1.symm
 have M8:(vR n (ef C d c)).Perm (vR n C):=by
  refine O0.trans (List.Perm.trans ?_ hV.symm);refine((List.Perm.refl _).append ((hvd.trans (hl.append_right _)).append_right R)).trans ?_;refine List.Perm.trans ?_ (XQ.append_right _).symm;have h5:∀A B E F:List Ms,(A++((B++E)++F)).Perm ((B++A)++(E++F)):=fun A B E F=>by
   rw[aL,<-aL];exact List.perm_append_comm.append_right _
  exact h5 _ _ _ _
 have UR:∀a b,b<n->(rI (C a) b).Perm (rI (ef C d c a) b):=fun a b hb=>by
  by_cases e:a=d
  ·subst e;rw[cJ];unfold rI;refine List.Perm.map _ (List.Perm.trans (List.Perm.of_eq ?_) (vt.filter _).symm);rw[bU];have a1:P.filter (pK c b)=[]:=by
    rw[List.filter_eq_nil_iff];intro y hy;have :=hP y hy;unfold pK;have :y.1≠b:=by omega
    simp[this]
   rw[a1,List.nil_append];apply List.filter_congr;intro y _;unfold pK;rw[qR]
  ·rw[cR e]
 refine⟨M8.trans h.JW,h.tn,fun m hm=>?_,fun a ha=>?_,fun a ha b i hi=>?_,fun a b ha hb vu=>?_,fun g hg=>?_⟩
 ·obtain⟨o,ho,a,b⟩:=h.TP m hm;refine⟨o,ho,a,?_⟩;by_cases e:o=d
  ·subst e;rw[cJ,qN];exact b
  ·rw[cR e];exact b
 ·by_cases e:a=d
  ·subst e;rw[cJ];exact ace
  ·rw[cR e];exact h.kz a ha
 ·rw[e1]at hi;obtain⟨Yz,y,hy,e4,e5⟩:=h.bin a ha b i hi;refine⟨Yz,y,?_,e4,e5⟩;by_cases e:a=d
  ·subst e;rw[cJ,vt.mem_iff];exact List.mem_append_right _ hy
  ·rw[cR e];exact hy
 ·rw[e1,e2];have :=h.pr a b ha hb vu;rcases e3 b a with⟨rfl,rfl⟩|⟨x,-⟩
  ·rw[ek];exact⟨by omega,by omega,fun h2=>absurd h2 Cq⟩
  ·rw[x];exact this
 ·obtain⟨a,b,f1,f2,f3,f4,f5,f6,f7⟩:=(h.fr g hg).ok;refine⟨a,b,f1,f2,f3,f4,f5,fun hh=>?_,fun hh=>?_⟩
  ·rcases e3 a b with⟨rfl,rfl⟩|⟨x,-⟩
   ·have :=f6 hh;omega
   ·rw[x];exact f6 hh
  ·obtain⟨f8,f9⟩:=f7 hh;rw[e2];refine⟨f8,fun g1 g2=>?_⟩;rcases e3 b a with⟨rfl,rfl⟩|⟨x,-⟩
   ·rw[ek]at g2;omega
   ·rw[x]at g2;rw[e1];exact⟨(f9 g1 g2).1,(f9 g1 g2).2.trans (UR a b f4)⟩
theorem GC.known(h:GC n C dQ T)(hk:k<n)(hd:d<n)(Na:k≠d)(vX:n<=4)(Cq:(C k).bt d≠[])(hs:(C k).sn d<=(C d).av k)(vt:c.bg.Perm ((C k).bg.filter fun y=> !decide (nH y∈(C k).bt d)))(qR:∀b,c.bt b=if b=d then[]else(C k).bt b)(C_:c.sn=(C k).sn)(IS:c.av=(C k).av)(qN:c.nx=(C k).nx):
 GC n (ef C k c) dQ T:=by
 have e2:∀a,(ef C k c a).sn=(C a).sn:=fun a=>by by_cases e:a=k;(rw[e,cJ,C_]);(rw[cR e])
 have e3:∀a,(ef C k c a).av=(C a).av:=fun a=>by by_cases e:a=k;(rw[e,cJ,IS]);(rw[cR e])
 have e1:∀a b,(a=k/\b=d)\/((ef C k c a).bt b=(C a).bt b/\¬(a=k/\b=d)):=fun a b=>by
  by_cases e:a=k
  ·by_cases e':b=d
   ·exact .inl ⟨e,e'⟩
   ·rw[e,cJ,qR,if_neg e'];exact .inr ⟨rfl,fun x=>e' x.2⟩
  ·rw[cR e];exact .inr ⟨rfl,fun x=>e x.1⟩
 have ek:(ef C k c k).bt d=[]:=by rw[cJ,qR,if_pos rfl]
 have QP:d<4:=by omega
 have hdk:d≠k:=fun e=>Na e.symm
 have Cp:∀a b,¬(a=k/\b=d)->vB n (ef C k c) a b=vB n C a b:=fun a b vu=>by
  rcases e1 a b with h1|⟨x,-⟩
  ·exact absurd h1 vu
  ·unfold vB;rw[x,e2,e3]
 have Nh:vB n C k d=true:=by unfold vB;simp[Cq,hd,hs]
 have WV:vB n (ef C k c) k d=false:=by unfold vB;rw[ek];simp
 have yz:∀a y,¬(a=k/\y.1=d)->gu n (ef C k c) a y=gu n C a y:=fun a y hay=>by
  unfold gu;rw[Cp a y.1 hay];rcases e1 a y.1 with h1|⟨x,-⟩
  ·exact absurd h1 hay
  ·rw[x]
 have sN:∀y∈(C k).bg,nH y∈(C k).bt d->y.1=d:=fun y hy hm=>by
  obtain⟨-,z,hz,e4,e5⟩:=h.bin k hk d _ hm;rw[<-n9 (h.kz k hk) hz hy e5];exact e4
 obtain⟨R,hR⟩:=Bl hk (view n C);have hV:=hR (view n C) fun _ _=>rfl
 have O0:=hR (view n (ef C k c)) fun i hi=>nM (by rw[cR hi]) fun y=>yz i y fun x=>hi x.1
 have XQ:(view n (ef C k c) k).Perm (view n C k):=by
  unfold view;rw[cJ];refine((vt.filter _).map _).trans (List.Perm.of_eq ?_);rw[bm];congr 1;apply List.filter_congr;intro y hy;by_cases e:y.1=d
  ·unfold gu;rw[e,Nh,WV];have :¬4<=d:=by omega
   by_cases hm:nH y∈(C k).bt d<;>simp[*]
  ·rw[yz k y fun x=>e x.2];have :nH y∉(C k).bt d:=fun hm=>e (sN y hy hm)
   simp[this]
 have UR:∀a b,¬(a=k/\b=d)->(rI (C a) b).Perm (rI (ef C k c a) b):=fun a b vu=>by
  by_cases e:a=k
  ·subst e;rw[cJ];unfold rI;refine List.Perm.map _ (List.Perm.trans (List.Perm.of_eq ?_) (vt.filter _).symm);rw[bm];apply List.filter_congr;intro y hy;unfold pK;have Yx:b≠d:=fun e=>vu ⟨rfl,e⟩
   rw[qR,if_neg Yx];by_cases e:y.1=b
   ·have :nH y∉(C a).bt d:=fun hm=>Yx (e.symm.trans (sN y hy hm))
    simp[this]
   ·simp[e]
  ·rw[cR e]
 refine⟨O0.trans ((XQ.append_right R).trans (hV.symm.trans h.JW)),h.tn,fun m hm=>?_,fun a ha=>?_,fun a ha b i hi=>?_,fun a b ha hb vu=>?_,fun g hg=>?_⟩
 ·obtain⟨o,ho,a,b⟩:=h.TP m hm;refine⟨o,ho,a,?_⟩;by_cases e:o=k
  ·subst e;rw[cJ,qN];exact b
  ·rw[cR e];exact b
 ·by_cases e:a=k
  ·subst e;rw[cJ];exact(vt.map nH).nodup_iff.2 ((h.kz a ha).sublist (List.filter_sublist.map _))
  ·rw[cR e];exact h.kz a ha
 ·rcases e1 a b with⟨rfl,rfl⟩|⟨x,vu⟩
  ·rw[ek]at hi;cases hi
  ·rw[x]at hi;obtain⟨Yz,y,hy,e4,e5⟩:=h.bin a ha b i hi;refine⟨Yz,y,?_,e4,e5⟩;by_cases e:a=k
   ·subst e;rw[cJ,vt.mem_iff,aB];refine⟨hy,?_⟩;have :nH y∉(C a).bt d:=fun hm=>vu ⟨rfl,e4.symm.trans (sN y hy hm)⟩
    simpa using this
   ·rw[cR e];exact hy
 ·rw[e2,e3];have :=h.pr a b ha hb vu;rcases e1 a b with⟨rfl,rfl⟩|⟨x,-⟩
  ·exact⟨this.1,this.2.1,fun _=>by omega⟩
  ·rw[x];exact this
 ·obtain⟨a,b,f1,f2,f3,f4,f5,f6,f7⟩:=(h.fr g hg).ok;refine⟨a,b,f1,f2,f3,f4,f5,fun hh=>by rw[e3];exact f6 hh,fun hh=>?_⟩;obtain⟨f8,f9⟩:=f7 hh;rw[e2,e3];refine⟨f8,fun g1 g2=>?_⟩;rcases e1 a b with⟨rfl,rfl⟩|⟨x,vu⟩
  ·omega
  ·rw[x];exact⟨(f9 g1 g2).1,(f9 g1 g2).2.trans (UR a b vu)⟩
end
def ny (H:Ho):Cr:=⟨(hv H).map jX,cn H,dz H,dc H,H.next⟩
structure UJ (H:Ho) (u:Nat) (x:ox):Prop where
 aO:∀p∈x.aO,(p.1.ck=H.id->∃i,H.qI p.1.queue=some i)/\p.1.id%4=H.id/\∃e∈hv H,e.j=qy H p.1/\e.m=p.1/\e.put=(u:Int)
 pn:(x.aO.map fun p=>p.1.id).Nodup
 bf:∀g∈x.bf,∃i,H.qI g.2=some i/\∃e∈hv H,e.j=4+i/\c_ e=g.1/\e.put<0/\e.ft=(u:Int)
 gn:(x.bf.map (·.1)).Nodup
structure HI (k:Nat) (H:Ho) (D:Dk) (H0:Ho):Prop where
 hid:H.id=(k:Int)
 TJ:∃R,gT D R/\jD (bO k) R H0/\H.used=R.length
 names:H0.names=H.names
 keys:bL H0=bL H
 bt:H0.batch=H.batch
 sn:H0.cg=H.cg
 av:H0.aM=H.aM
 dead:∃i,H.qI cz=some i
 iA:∀e∈hv H0,e.put= -1/\e.ft= -1
 o7:(hk H).Perm ((hv H0).map jX)
 kz:((hv H).map c_).Nodup
 wy:∀e∈hv H,e.j<4->e.m.id%4=(k:Int)
 lt:∀e∈hv H,e.m.id%4=(k:Int)->e.m.id/4<H.next
 zS:∀e∈hv H0,e.m.id%4=(k:Int)->e.m.id/4<H0.next
 nx:H0.next<=H.next
 unit:∀(u:Nat) x,H.aA[u]? =some x->UJ H u x
 bin:∀d,∀i∈cn H d,∃y∈hk H,y.1=d/\nH y=i
section
variable {c kb k n:Nat} {H H0:Ho} {D:Dk}
theorem HI.upd(h:HI k H D H0){H':Ho}(e1:H'.id=H.id)(e2:H'.used=H.used)(e3:H'.names=H.names)(e4:bL H'=bL H)(e5:H'.batch=H.batch)(e6:H'.cg=H.cg)(e7:H'.aM=H.aM)(o7:(hk H').Perm (hk H))(kz:((hv H').map c_).Nodup)(wy:∀e∈hv H',e.j<4->e.m.id%4=(k:Int))(lt:∀e∈hv H',e.m.id%4=(k:Int)->e.m.id/4<H'.next)(nx:H.next<=H'.next)(unit:∀(u:Nat) x,H'.aA[u]? =some x->UJ H' u x):HI k H' D H0:=by
 obtain⟨R,r1,r2,r3⟩:=h.TJ;obtain⟨i,hi⟩:=h.dead;refine⟨by rw[e1,h.hid],⟨R,r1,r2,by rw[e2,r3]⟩,by rw[e3,h.names],by rw[e4,h.keys],by rw[e5,h.bt],by rw[e6,h.sn],by rw[e7,h.av],⟨i,by rw[bE e4];exact hi⟩,h.iA,o7.trans h.o7,kz,wy,lt,h.zS,by have :=h.nx;omega,unit,fun d i hi=>?_⟩;have :cn H' d=cn H d:=by unfold cn;rw[e5]
 rw[this]at hi;obtain⟨y,hy,a,b⟩:=h.bin d i hi;exact⟨y,o7.mem_iff.2 hy,a,b⟩
theorem UJ.same{H':Ho}{u:Nat}{x:ox}(h:UJ H u x)(e1:H'.id=H.id)(e2:H'.aK=H.aK)(e3:H'.ways=H.ways):UJ H' u x:=by
 have e4:hv H'=hv H:=by unfold hv Ho.all;rw[e2,e3]
 have e5:bL H'=bL H:=by unfold bL;rw[e2]
 refine⟨fun p hp=>?_,h.pn,fun g hg=>?_,h.gn⟩
 ·obtain⟨a,b,e,he,r⟩:=h.aO p hp;exact⟨fun hh=>by rw[bE e5];exact a (by rw[hh,e1]),by rw[e1];exact b,e,by rw[e4];exact he,by rw[fm e5 e1];exact r⟩
 ·obtain⟨i,a,e,he,r⟩:=h.bf g hg;exact⟨i,by rw[bE e5];exact a,e,by rw[e4];exact he,r⟩
theorem HI.cZ(h:HI k H D H0)(t:Int):HI k {H with cZ:=t} D H0:=
 h.upd rfl rfl rfl rfl rfl rfl rfl (.refl _) h.kz h.wy h.lt (Int.le_refl _) fun u x hx=>(h.unit u x hx).same rfl rfl rfl
theorem HI.G5(h:HI k H D H0):HI k {H with down:=true} D H0:=
 h.upd rfl rfl rfl rfl rfl rfl rfl (.refl _) h.kz h.wy h.lt (Int.le_refl _) fun u x hx=>(h.unit u x hx).same rfl rfl rfl
theorem HI.NB(h:HI k H D H0){D':Dk}(hd:∀R,H.used=R.length->gT D R->gT D' R):HI k H D' H0:=by
 obtain⟨R,r1,r2,r3⟩:=h.TJ;exact⟨h.hid,⟨R,hd R r3 r1,r2,r3⟩,h.names,h.keys,h.bt,h.sn,h.av,h.dead,h.iA,h.o7,h.kz,h.wy,h.lt,h.zS,h.nx,h.unit,h.bin⟩
theorem HI.cut(h:HI k H D H0)(t:Int):HI k H (cu D t) H0:=h.NB fun R _ hd=>hd.cut t
theorem HI.opened(h:HI k H D H0):iQ (k:Int) D=H0:=by
 obtain⟨R,r1,r2,r3⟩:=h.TJ;exact rk r1 r2
theorem HI.qB(h:HI k H D H0):hk H0=(hv H0).map jX:=by
 unfold hk;rw[bo.2];intro e he;have :=(h.iA e he).1;unfold eb;simp[this]
theorem HI.XI(h:HI k H D H0):H0.id=(k:Int):=by
 obtain⟨R,r1,r2,r3⟩:=h.TJ;rw[r2.same.1];rfl
theorem HI.BR(h:HI k H D H0):H0.aA=List.replicate 5 ⟨[],[]⟩:=by
 obtain⟨R,r1,r2,r3⟩:=h.TJ;rw[r2.same.2.2.2];rfl
theorem HI.Gv(h:HI k H D H0):((hv H0).map c_).Nodup:=by
 have h1:((hv H0).map c_).Perm ((hk H).map (·.2.id)):=by
  refine List.Perm.trans (List.Perm.of_eq ?_) (h.o7.map (·.2.id)).symm
  rw[List.map_map];rfl
 rw[h1.nodup_iff,Cm];exact h.kz.sublist (List.filter_sublist.map _)
theorem HI.T_(h:HI k H D H0){e:En}(he:e∈hv H0):∃e'∈hv H,e'.j=e.j/\e'.m=e.m/\e'.put<0:=by
 have h1:jX e∈hk H:=h.o7.mem_iff.2 (cO he);unfold hk at h1;obtain⟨e',h2,h3⟩:=ay.1 h1;obtain⟨h4,h5⟩:=aB.1 h2;unfold jX at h3;simp only[Prod.mk.injEq]at h3;exact⟨e',h4,h3.1,h3.2,by unfold eb at h5;simpa using h5⟩
theorem HI.to0(h:HI k H D H0){e:En}(he:e∈hv H)(hp:e.put<0):∃e'∈hv H0,e'.j=e.j/\e'.m=e.m:=by
 have h1:jX e∈(hv H0).map jX:=h.o7.mem_iff.1 (by
  unfold hk
  exact cO (aB.2 ⟨he,by unfold eb;simpa using hp⟩))
 obtain⟨e',h2,h3⟩:=ay.1 h1;unfold jX at h3;simp only[Prod.mk.injEq]at h3;exact⟨e',h2,h3.1,h3.2⟩
theorem UJ.nil(H:Ho)(u:Nat):UJ H u ⟨[],[]⟩:=⟨(fun p hp=>by cases hp),List.nodup_nil,(fun p hp=>by cases hp),List.nodup_nil⟩
theorem HI.L5(h:HI k H D H0):HI k H0 D H0:=by
 obtain⟨R,r1,r2,r3⟩:=h.TJ;obtain⟨i,hi⟩:=h.dead;refine⟨h.XI,⟨R,r1,r2,by rw[r2.used];simp[bO]⟩,rfl,rfl,rfl,rfl,rfl,⟨i,by rw[bE h.keys];exact hi⟩,h.iA,by rw[h.qB],h.Gv,fun e he hj=>?_,h.zS,h.zS,Int.le_refl _,fun u x hx=>?_,fun d i hi=>?_⟩
 ·obtain⟨e',h1,h2,h3,-⟩:=h.T_ he;rw[<-h3];exact h.wy e' h1 (by rw[h2];exact hj)
 ·rw[h.BR]at hx;have :=List.eq_of_mem_replicate (ax hx);subst this;exact UJ.nil _ _
 ·have :cn H0 d=cn H d:=by unfold cn;rw[h.bt]
  rw[this]at hi;obtain⟨y,hy,a,b⟩:=h.bin d i hi;exact⟨y,by rw[h.qB];exact h.o7.mem_iff.1 hy,a,b⟩
theorem HI.fail(h:HI k H D H0){s:ak}(hs:s.size<=700000)(hb:oO 124 s)(he:dV H D≠0):HI k (dD H D) (fY H D s) H0:=by
 unfold dV at he;unfold dD fY;by_cases h1:eT H≠0
 ·rw[if_pos h1,if_pos h1];exact h
 ·rw[if_neg h1]at he;rw[if_neg h1,if_neg h1,if_pos he];have hr:=(sh (H:=H) K6).2;have ho:ju D=true:=by
   cases hd:ju D with
   |true=>rfl
   |false=>exact absurd (nr.2 (by rw[hd];simp)) he
  refine h.G5.NB fun R hu hd=>?_
  have hu:H.used=R.length:=hu;rw[hu];exact hd.bad hs hb ho (by rw[<-hu];exact hr)
theorem jJ(h2:dV H D=0)(s:ak):dD H D={H with used:=H.used+1}/\fY H D s=dG D H.used (dA H.used s) H.cZ/\H.used<300/\¬ju D=true:=by
 obtain⟨h3,h4⟩:=MB h2;refine⟨?_,?_,(sh h3).2,nr.1 h4⟩
 ·unfold dD;rw[if_neg Xh,if_neg (by simpa using h4)]
 ·unfold fY;rw[if_neg Xh]
theorem HI.B6(h:HI k H D H0)(h2:dV H D=0){s:ak}(hs:s.size<=700000)(hb:oO 124 s)(lE:fF 250 s){H' H3:Ho}(hp:bY H0 s=(H3,true))(e1:H'.id=H.id)(e2:H'.used=H.used+1)(e3:H3.names=H'.names)(e4:bL H3=bL H')(e5:H3.batch=H'.batch)(e6:H3.cg=H'.cg)(e7:H3.aM=H'.aM)(e8:bL H'=bL H)(iA:∀e∈hv H3,e.put= -1/\e.ft= -1)(o7:(hk H').Perm ((hv H3).map jX))(kz:((hv H').map c_).Nodup)(wy:∀e∈hv H',e.j<4->e.m.id%4=(k:Int))(lt:∀e∈hv H',e.m.id%4=(k:Int)->e.m.id/4<H'.next)(zS:∀e∈hv H3,e.m.id%4=(k:Int)->e.m.id/4<H3.next)(nx:H3.next<=H'.next)(unit:∀(u:Nat) x,H'.aA[u]? =some x->UJ H' u x)(bin:∀d,∀i∈cn H' d,∃y∈hk H',y.1=d/\nH y=i):HI k H' (fY H D s) {H3 with used:=H0.used+1}:=by
 obtain⟨R,r1,r2,r3⟩:=h.TJ;obtain⟨i,hi⟩:=h.dead;obtain⟨-,eD,hu,ho⟩:=jJ h2 s;refine⟨by rw[e1,h.hid],⟨R++[s],?_,r2.snoc hp,by rw[e2,r3];simp⟩,e3,e4,e5,e6,e7,⟨i,by rw[bE e8];exact hi⟩,iA,o7,kz,wy,lt,zS,nx,unit,bin⟩;rw[eD,r3];exact r1.U4 hs hb lE ho (by rw[<-r3];exact hu)
theorem Mb{s:ak}(h:(jA H s).2.2=0)(hk:¬(jA H s).2.1<0):(jA H s).2.1≠H.id:=by
 unfold jA at h hk ⊢;split
 ·rename_i h1;rw[if_pos h1]at h;exact absurd h h1
 ·rename_i h1;rw[if_neg h1]at h hk;split
  ·rename_i h2;rw[if_pos h2]at h hk;split
   ·rename_i h3;rw[if_pos h3]at h;cases h
   ·rename_i h3;rw[if_neg h3]at hk;exact absurd (by dsimp only;decide) hk
  ·rename_i h2;exact fun e=>h2 (.inr e)
theorem L9{u:Int}{s:ak}{pri:Int}{body:ak}(he:gY H u s pri body=0):(jA H s).2.2=0/\ga (H.r4 (jV H s)) (eA H s pri body)=0/\bM (eA H s pri body)=true/\H.down=false:=by
 have h0:=he;unfold gY at h0;split at h0
 ·cases h0
 ·split at h0
  ·cases h0
  ·split at h0
   ·exact absurd h0 tr
   ·rename_i h1;split at h0
    ·cases h0
    ·rename_i h2;refine⟨by simpa using h1,h0,?_,by simpa using h2⟩;unfold ga at h0;cases hr:bM (eA H s pri body)with
     |true=>rfl
     |false=>rw[if_pos hr]at h0;cases h0
theorem HI.put(h:HI k H D H0)(hB:cF n H){u:Nat}(hu:u<5){s:ak}{pri:Int}{body:ak}(he:gY H u s pri body=0):
 HI k (gv H u s pri body) D H0/\(eA H s pri body).id=H.next *4+k:=by
 obtain⟨kB,vV,zW,-⟩:=L9 he;obtain⟨hj,h2,h3⟩:=tK hB kB;have vZ:(eA H s pri body).id=H.next *4+k:=by rw[<-h.hid];rfl
 have hjm:qy H (eA H s pri body)=jV H s/\((eA H s pri body).ck=H.id->∃i,H.qI (eA H s pri body).queue=some i):=by
  unfold qy;by_cases hn:(jA H s).2.1<0
  ·obtain⟨-,i,A3,WO⟩:=h2 hn;have e1:(eA H s pri body).ck=H.id:=by unfold eA;dsimp only;rw[if_pos hn]
   have e2:(eA H s pri body).queue=(jA H s).1:=rfl;rw[if_neg (by rw[e1];simp),e2,A3];exact⟨by rw[WO];rfl,fun _=>⟨i,rfl⟩⟩
  ·obtain⟨a,b⟩:=h3 hn;have e1:(eA H s pri body).ck=(jA H s).2.1:=by unfold eA;dsimp only;rw[if_neg hn]
   rw[if_pos (by rw[e1];exact Mb kB hn),e1,b];exact⟨by simp,fun hh=>absurd (b.trans hh) (Mb kB hn)⟩
 refine⟨?_,vZ⟩;have lN:=fW hB hu;generalize hx:H.fa u=x at lN;have e1:gv H u s pri body=cM {H.eo (jV H s) (cP (H.r4 (jV H s)) (eA H s pri body) u)with next:=H.next+1} u ⟨x.aO++[(eA H s pri body,(jA H s).2.1)],x.bf⟩:=by
  unfold gv;rw[if_pos he];unfold mA;rw[if_pos vV,aE,hx]
 rw[e1];generalize eA H s pri body=m at vV zW vZ hjm;have fg:H.all[jV H s]? =some (H.r4 (jV H s)):=BK hj;generalize jy:cM {H.eo (jV H s) (cP (H.r4 (jV H s)) m u)with next:=H.next+1} u ⟨x.aO++[(m,(jA H s).2.1)],x.bf⟩=H';have lM:(hv H').Perm (⟨jV H s,m,(u:Int),-1⟩::hv H):=by
  have h3:H'.all=(H.eo (jV H s) (cP (H.r4 (jV H s)) m u)).all:=by rw[<-jy];rfl
  unfold hv;rw[h3,zj hB.ways];have :=r_ m u fg;rw[show max (u:Int) (-1)=u by omega]at this;exact this
 have iF:bL H'=bL H:=by rw[<-jy];exact sf _ _
 have eX:H'.id=H.id:=by rw[<-jy];exact wL _ _
 have qN:H'.next=H.next+1:=by rw[<-jy];rfl
 have iy:H'.aA=H.aA.set u ⟨x.aO++[(m,(jA H s).2.1)],x.bf⟩:=by rw[<-jy];unfold cM;dsimp only;rw[gG]
 have zY:(hk H').Perm (hk H):=by
  unfold hk;refine((lM.filter _).map _).trans (List.Perm.of_eq ?_);rw[bT,if_neg (by unfold eb;simp)]
 have fq:∀e∈hv H,e∈hv H':=fun e he=>lM.mem_iff.2 (List.mem_cons_of_mem _ he)
 have M3:∀e∈hv H,c_ e≠m.id:=fun e he e2=>by
  unfold c_ at e2;have :=h.lt e he (by rw[e2,vZ];have :=h.hid;have :=hB.id;omega);rw[e2,vZ]at this;have :=h.hid;have :=hB.id;omega
 have oe:(k:Int)<4:=by have :=h.hid;have :=hB.id;omega
 refine h.upd eX (by rw[<-jy];exact mU _ _) (by rw[<-jy];exact nU _ _) iF (by rw[<-jy];exact q8 _ _) (by rw[<-jy];exact tH _ _) (by rw[<-jy];exact nV _ _) zY ?_ (fun e ei FO=>?_) (fun e ei FO=>?_) ae fun v y hy=>?_
 ·refine(lM.map c_).nodup_iff.2 ?_;rw[aJ,bJ];refine⟨fun IJ=>?_,h.kz⟩;obtain⟨e,ei,Kl⟩:=ay.1 IJ;exact M3 e ei Kl
 ·rcases aD.1 (lM.mem_iff.1 ei)with rfl|Kl
  ·dsimp only;rw[vZ];omega
  ·exact h.wy e Kl FO
 ·rw[qN];rcases aD.1 (lM.mem_iff.1 ei)with rfl|Kl
  ·dsimp only;rw[vZ];omega
  ·have :=h.lt e Kl FO;omega
 ·rw[iy]at hy;rcases fR Oz hy with⟨rfl,rfl⟩|⟨gh,hy⟩
  ·have ui:=h.unit v x lN;refine⟨fun p hp=>?_,?_,fun g hg=>?_,ui.gn⟩
   ·rcases aH.1 hp with hp|hp
    ·obtain⟨a,b,e,ei,e3⟩:=ui.aO p hp;exact⟨fun hh=>by rw[bE iF];exact a Xg,by rw[eX];exact b,e,fq e ei,by rw[fm iF eX];exact e3⟩
    ·simp at hp;subst hp;refine⟨fun hh=>by rw[bE iF];exact hjm.2 (by rw[<-eX];exact hh),by rw[eX,h.hid];dsimp only;rw[vZ];omega,_,lM.mem_iff.2 List.mem_cons_self,by rw[fm iF eX];exact hjm.1.symm,rfl,rfl⟩
   ·dsimp only;rw[aN,List.nodup_append];refine⟨ui.pn,by simp,fun a ha b hb=>?_⟩;obtain⟨p,hp,rfl⟩:=ay.1 ha;obtain⟨-,-,e,ei,-,e3,-⟩:=ui.aO p hp;simp at hb;subst hb;have :=M3 e ei;unfold c_ at this;rw[e3]at this;exact this
   ·obtain⟨i',d,e,ei,e3⟩:=ui.bf g hg;exact⟨i',by rw[bE iF];exact d,e,fq e ei,e3⟩
  ·have ui:=h.unit v y hy;refine⟨fun p hp=>?_,ui.pn,fun g hg=>?_,ui.gn⟩
   ·obtain⟨a,b,e,ei,e3⟩:=ui.aO p hp;exact⟨fun hh=>by rw[bE iF];exact a Xg,by rw[eX];exact b,e,fq e ei,by rw[fm iF eX];exact e3⟩
   ·obtain⟨i',d,e,ei,e3⟩:=ui.bf g hg;exact⟨i',by rw[bE iF];exact d,e,fq e ei,e3⟩
theorem HI.get(h:HI k H D H0)(hB:cF n H){u:Nat}(hu:u<5){s:ak}(he:iU H u s=0):
 HI k (g_ H u s) D H0/\∃i,(i,getM H u s)∈hk H/\4<=i:=by
 obtain⟨i,A3,vV⟩:∃i,H.qI s=some i/\hI (H.dP i)=0:=by
  have h0:=he;unfold iU at h0;split at h0
  ·cases h0
  ·cases hq:H.qI s with
   |none=>rw[hq]at h0;cases h0
   |some i=>
    rw[hq]at h0;dsimp only at h0;split at h0
    ·cases h0
    ·split at h0
     ·cases h0
     ·exact⟨i,rfl,h0⟩
 have oG:=(ji A3).1;obtain⟨q,Nd⟩:∃q,oB (H.dP i)=some q:=by
  unfold hI at vV;split at vV
  ·cases vV
  ·rename_i q Ba;exact⟨q,Ba⟩
 obtain⟨ru,FN,-⟩:=List.findIdx?_eq_some_iff_getElem.1 Nd;have Kh:(H.dP i).l[q]? =some (H.dP i).l[q]:=ao ru;generalize hy:(H.dP i).l[q]=y at Kh FN;have hit:lU (H.dP i).l q=y:=iE Kh;have Co:gI (H.dP i)=y.m:=by unfold gI;rw[Nd];dsimp only;rw[hit]
 have hgq:fT (H.dP i) u=⟨(H.dP i).l.set q {y with ft:=(u:Int)},(H.dP i).next⟩:=by unfold fT;rw[Nd];dsimp only;rw[if_neg ae,hit]
 have hM:getM H u s=y.m:=by unfold getM;rw[if_pos he,A3];exact Co
 unfold cC at FN;simp only[a_,decide_eq_true_eq]at FN;obtain⟨Rr,p1,p2⟩:=Ar {y with ft:=(u:Int)} (Fc hB oG) Kh (H.dP i).next
 have lN:=fW hB hu;generalize hx:H.fa u=x at lN;have e1:g_ H u s=cM (H.eP i (fT (H.dP i) u)) u ⟨x.aO,x.bf++[(y.m.id,s)]⟩:=by
  unfold g_;rw[if_pos he,aE,hx,A3];simp only[Option.getD_some];rw[Co]
 rw[e1,hM];generalize jy:cM (H.eP i (fT (H.dP i) u)) u ⟨x.aO,x.bf++[(y.m.id,s)]⟩=H';have lM:(hv H').Perm (fU (4+i) {y with ft:=(u:Int)}::Rr):=by
  have h3:H'.all=(H.eP i (fT (H.dP i) u)).all:=by rw[<-jy];rfl
  unfold hv;rw[h3,kq hB.ways,hgq];exact p2
 have MR:(hv H).Perm (fU (4+i) y::Rr):=p1;have iF:bL H'=bL H:=by rw[<-jy];exact jb _ _
 have eX:H'.id=H.id:=by rw[<-jy];rfl
 have qN:H'.next=H.next:=by rw[<-jy];rfl
 have iy:H'.aA=H.aA.set u ⟨x.aO,x.bf++[(y.m.id,s)]⟩:=by rw[<-jy];rfl
 have zY:(hk H').Perm (hk H):=by
  unfold hk;refine((lM.filter _).map _).trans (List.Perm.trans (List.Perm.of_eq ?_) ((MR.filter _).map _).symm);rw[bT,bT];have :eb (fU (4+i) y)=true:=by unfold eb fU;simpa using FN.1
  rw[if_pos this,if_pos (show eb (fU (4+i) {y with ft:=(u:Int)})=true from this)];rfl
 have lV:((hv H').map c_).Perm ((hv H).map c_):=(lM.map c_).trans (MR.map c_).symm;have fq:∀e∈hv H,e∈hv H'\/e=fU (4+i) y:=fun e he=>by
  rcases aD.1 (MR.mem_iff.1 he)with rfl|h1
  ·exact .inr rfl
  ·exact .inl (lM.mem_iff.2 (List.mem_cons_of_mem _ h1))
 have Ue:fU (4+i) y∈hv H:=MR.mem_iff.2 List.mem_cons_self;have Ud:fU (4+i) {y with ft:=(u:Int)}∈hv H':=lM.mem_iff.2 List.mem_cons_self;have ET:∀e∈hv H',∃e'∈hv H,e'.j=e.j/\e'.m=e.m:=fun e he=>by
  rcases aD.1 (lM.mem_iff.1 he)with rfl|h1
  ·exact⟨_,Ue,rfl,rfl⟩
  ·exact⟨e,MR.mem_iff.2 (List.mem_cons_of_mem _ h1),rfl,rfl⟩
 have zU:∀v p (j':Nat) (e:En),e∈hv H->e.j=j'->e.m=p->e.put=((v:Nat):Int)->∃e∈hv H',e.j=j'/\e.m=p/\e.put=((v:Nat):Int):=fun v p i' e he a b d=>by
  rcases fq e he with h1|rfl
  ·exact⟨e,h1,a,b,d⟩
  ·have :y.put=(v:Int):=d;omega
 have kC:∀(v:Nat) k' (i':Nat) (e:En),e∈hv H->e.j=4+i'->c_ e=k'->e.put<0->e.ft=((v:Nat):Int)->∃e∈hv H',e.j=4+i'/\c_ e=k'/\e.put<0/\e.ft=((v:Nat):Int):=fun v k' i' e he a b d f=>by
  rcases fq e he with h1|rfl
  ·exact⟨e,h1,a,b,d,f⟩
  ·have :y.ft=(v:Int):=f;omega
 refine⟨h.upd eX Ox Ox iF Ox Ox Ox zY (lV.nodup_iff.2 h.kz) (fun e ei FO=>?_) (fun e ei FO=>?_) ae fun v z hz=>?_,4+i,?_,by omega⟩
 ·obtain⟨e',a,b,d⟩:=ET e ei;rw[<-d];exact h.wy e' a (by rw[b];exact FO)
 ·obtain⟨e',a,b,d⟩:=ET e ei;rw[<-d]at FO ⊢;rw[qN];exact h.lt e' a FO
 ·rw[iy]at hz;rcases fR Oz hz with⟨rfl,rfl⟩|⟨gh,hz⟩
  ·have ui:=h.unit v x lN;refine⟨fun p hp=>?_,ui.pn,fun g hg=>?_,?_⟩
   ·obtain⟨a,b,e,ei,e3,e4,e5⟩:=ui.aO p hp;exact⟨fun hh=>by rw[bE iF];exact a Xg,by rw[eX];exact b,by rw[fm iF eX];exact zU v _ _ e ei e3 e4 e5⟩
   ·rcases aH.1 hg with hg|hg
    ·obtain⟨i',d,e,ei,e3,e4,e5,e6⟩:=ui.bf g hg;exact⟨i',by rw[bE iF];exact d,kC v _ i' e ei e3 e4 e5 e6⟩
    ·simp at hg;subst hg;exact⟨i,by rw[bE iF];exact A3,_,Ud,rfl,rfl,FN.1,rfl⟩
   ·dsimp only;rw[aN,List.nodup_append];refine⟨ui.gn,by simp,fun a ha b hb=>?_⟩;obtain⟨g,hg,rfl⟩:=ay.1 ha;obtain⟨i',-,e,ei,-,e4,-,e6⟩:=ui.bf g hg;simp at hb;subst hb;intro e7;have :e=fU (4+i) y:=eB h.kz ei Ue (by rw[e4,e7];rfl);rw[this]at e6;have :y.ft=(v:Int):=e6;omega
  ·have ui:=h.unit v z hz;refine⟨fun p hp=>?_,ui.pn,fun g hg=>?_,ui.gn⟩
   ·obtain⟨a,b,e,ei,e3,e4,e5⟩:=ui.aO p hp;exact⟨fun hh=>by rw[bE iF];exact a Xg,by rw[eX];exact b,by rw[fm iF eX];exact zU v _ _ e ei e3 e4 e5⟩
   ·obtain⟨i',d,e,ei,e3,e4,e5,e6⟩:=ui.bf g hg;exact⟨i',by rw[bE iF];exact d,kC v _ i' e ei e3 e4 e5 e6⟩
 ·unfold hk;exact ay.2 ⟨fU (4+i) y,aB.2 ⟨Ue,by unfold eb fU;simpa using FN.1⟩,rfl⟩
theorem HI.back(h:HI k H D H0)(hB:cF n H){u:Nat}(hu:u<5)(he:BF H u=0):HI k (rH H u) D H0:=by
 have e1:rH H u=cM (cK H u) u cN:=by unfold rH;rw[if_pos he,aE]
 rw[e1];have lM:hv (cM (cK H u) u cN)=((hv H).filter fun e=> !decide (e.put=(u:Int))).map (dB u):=sQ H ae;have iF:bL (cM (cK H u) u cN)=bL H:=by unfold bL cM cK;simp
 generalize jy:cM (cK H u) u cN=H' at lM iF;have eX:H'.id=H.id:=by rw[<-jy];rfl
 have qN:H'.next=H.next:=by rw[<-jy];rfl
 have iy:H'.aA=H.aA.set u cN:=by rw[<-jy];rfl
 have fq:∀e∈hv H,e.put≠(u:Int)->dB u e∈hv H':=fun e he hp=>by
  rw[lM];exact cO (aB.2 ⟨he,by simpa using hp⟩)
 have ET:∀e∈hv H',∃e'∈hv H,e'.j=e.j/\e'.m=e.m:=fun e he=>by
  rw[lM]at he;obtain⟨e',h1,rfl⟩:=ay.1 he;exact⟨e',(aB.1 h1).1,rfl,rfl⟩
 have zY:hk H'=hk H:=by
  unfold hk;rw[lM,List.filter_map,List.map_map,bm];rw[show(jX∘dB u)=jX from rfl];congr 1;apply List.filter_congr;intro e _;unfold eb dB;dsimp only[Function.comp];by_cases e1:e.put=(u:Int)
  ·have :¬e.put<0:=by omega
   simp[e1]
  ·simp[e1]
 refine h.upd eX Ox Ox iF Ox Ox Ox (by rw[zY]) ?_ (fun e ei FO=>?_) (fun e ei FO=>?_) ae fun v y hy=>?_
 ·rw[lM,List.map_map,show(c_∘dB u)=c_ from rfl];exact h.kz.sublist (List.filter_sublist.map _)
 ·obtain⟨e',a,b,d⟩:=ET e ei;rw[<-d];exact h.wy e' a (by rw[b];exact FO)
 ·obtain⟨e',a,b,d⟩:=ET e ei;rw[<-d]at FO ⊢;rw[qN];exact h.lt e' a FO
 ·rw[iy]at hy;rcases fR Oz hy with⟨rfl,rfl⟩|⟨gh,hy⟩
  ·exact UJ.nil _ _
  ·have ui:=h.unit v y hy;have Gz:((v:Nat):Int)≠(u:Int):=fun e=>gh ae
   refine⟨fun p hp=>?_,ui.pn,fun g hg=>?_,ui.gn⟩
   ·obtain⟨a,b,e,ei,e3,e4,e5⟩:=ui.aO p hp;refine⟨fun hh=>by rw[bE iF];exact a Xg,by rw[eX];exact b,_,fq e ei (by rw[e5];exact Gz),by rw[fm iF eX];exact e3,e4,?_⟩;unfold dB;dsimp only;rw[if_neg (by rw[e5];exact Gz)];exact e5
   ·obtain⟨i',d,e,ei,e3,e4,e5,e6⟩:=ui.bf g hg;have A4:e.put≠(u:Int):=by omega
    refine⟨i',by rw[bE iF];exact d,_,fq e ei A4,e3,e4,?_,?_⟩
    ·unfold dB;dsimp only;rw[if_neg A4];exact e5
    ·unfold dB;dsimp only;rw[if_neg (by rw[e6];exact Gz)];exact e6
end
section
variable {c kb k n:Nat} {H H0:Ho} {D:Dk}
theorem HI.B0(h:HI k H D H0)(hb:kM c kb k (H,D))(hk:k<4)(hK:kb<=1000000000000):cF (300+c+250*H0.used) H0/\WR H0:=by
 have h1:=hb.cq hk hK;rw[h.opened]at h1;exact⟨h1.B,h1.ways⟩
theorem jn{α:Type}{l:List α}{d:Nat}(hd:d<l.length)(x z:α)(b:Nat):(l.set d x).getD b z=if b=d then x else l.getD b z:=by
 rw[aq,aq,List.getElem?_set];by_cases e:b=d
 ·rw[if_pos e,if_pos e.symm,if_pos hd];rfl
 ·rw[if_neg e,if_neg fun e2=>e e2.symm]
theorem bc4(hB:cF n H){d:Nat}(hd:4<=d):cn H d=[]:=by
 unfold cn;rw[aq,bH (by rw[hB.batch];exact hd)];rfl
theorem Bz{u:Int}(he:vA H D u=0):lI H u=0/\dV H D=0:=by
 unfold vA at he;by_cases h1:lI H u≠0
 ·rw[if_pos h1]at he;exact absurd he h1
 ·rw[if_neg h1]at he;exact⟨by simpa using h1,he⟩
theorem qm(u:Int):(oU H D u).aA=if vA H D u=0 then H.aA.set u.toNat cN else H.aA:=by
 by_cases he:vA H D u=0
 ·rw[if_pos he];obtain⟨h1,h2⟩:=Bz he;unfold oU;rw[if_neg K6,if_neg Xi];rw[(og _ _).aA];unfold cM cK;dsimp only;rw[ym]
 ·rw[if_neg he];unfold vA at he;unfold oU;by_cases h1:lI H u≠0
  ·rw[if_pos h1]
  ·rw[if_neg h1]at he ⊢;rw[if_pos he,ym]
theorem xW{x:ox}(zE:fE x):(ku x).size<=700000:=by
 have dr:=zE.size;rw[sj];have e1:(b_ 117).size=1:=rfl;have e2:(b_ 58).size=1:=rfl;simp only[aQ];omega
theorem HI.CH(h:HI k H D H0)(hb:kM c kb k (H,D)){u:Nat}(hu:u<5)(he:vA H D u≠0):HI k (oU H D u) (qn H D u) H0:=by
 unfold vA at he;unfold oU qn;by_cases h1:lI H u≠0
 ·rw[if_pos h1,if_pos h1];exact h
 ·rw[if_neg h1]at he;rw[if_neg h1,if_neg h1,if_pos he,aE];have zE:=(hb.aA _ (ax (fW hb.B hu))).1;exact h.fail (xW zE) (sW zE) he
theorem HI.uz(h:HI k H D H0)(hb:kM c kb k (H,D))(hk:k<4)(hK:kb<=1000000000000)(hc:c<=250){u:Nat}(hu:u<5)(he:vA H D u=0):
 ∃H3,HI k (oU H D u) (qn H D u) H3/\(ny H3).bg.Perm (((H.fa u).aO.map (fun p=>(qy H p.1,p.1))++(ny H0).bg).filter fun y=> !decide (nH y∈(H.fa u).bf.map (·.1)))/\H3.batch=H0.batch/\H3.cg=H0.cg/\H3.aM=H0.aM/\H0.next<=H3.next/\∀p∈(H.fa u).aO,p.1.id/4<H3.next:=by
 obtain⟨h1,h2⟩:=Bz he;have hB:=hb.B;have lN:=fW hB hu;unfold oU qn;rw[if_neg (show ¬lI H (u:Int)≠0 by simpa using h1),if_neg (show ¬lI H (u:Int)≠0 by simpa using h1),if_neg (show ¬dV H D≠0 by simpa using h2),aE];dsimp only at lN hB;generalize hx:H.fa u=x at lN;obtain⟨zE,WH⟩:=hb.aA x (ax lN);have OU:=xW zE;obtain⟨eL,-,-,-⟩:=jJ h2 (ku x);rw[eL];have ui:=h.unit u x lN;have gP:cF (300+c+250*H.used) (cM (cK {H with used:=H.used+1} u) u cN):=by
  have :=hB.log (D:=D);rw[eL]at this;exact(this.cK _).cM _ _
 have GD:hv (cM (cK {H with used:=H.used+1} u) u cN)=((hv H).filter fun e=> !decide (e.put=(u:Int))).map (dB u):=sQ {H with used:=H.used+1} ae;have iF:bL (cM (cK {H with used:=H.used+1} u) u cN)=bL H:=by unfold bL cM cK;simp
 generalize Bd:cM (cK {H with used:=H.used+1} u) u cN=H1 at gP GD iF;have pA:H1.names=H.names:=by rw[<-Bd];rfl
 have eX:H1.id=H.id:=by rw[<-Bd];rfl
 have Ce:H1.used=H.used+1:=by rw[<-Bd];rfl
 have qN:H1.next=H.next:=by rw[<-Bd];rfl
 have iy:H1.aA=H.aA.set u cN:=by rw[<-Bd];rfl
 have qR:H1.batch=H.batch:=by rw[<-Bd];rfl
 have C_:H1.cg=H.cg:=by rw[<-Bd];rfl
 have IS:H1.aM=H.aM:=by rw[<-Bd];rfl
 have fq:∀e∈hv H,e.put≠(u:Int)->dB u e∈hv H1:=fun e he hp=>by
  rw[GD];exact cO (aB.2 ⟨he,by simpa using hp⟩)
 have yF:∀e∈hv H1,∃e'∈hv H,e'.put≠(u:Int)/\e=dB u e':=fun e he=>by
  rw[GD]at he;obtain⟨e',h5,rfl⟩:=ay.1 he;obtain⟨h6,h7⟩:=aB.1 h5;exact⟨e',h6,by simpa using h7,rfl⟩
 have zH:((hv H1).map c_).Nodup:=by
  rw[GD,List.map_map,show(c_∘dB u)=c_ from rfl];exact h.kz.sublist (List.filter_sublist.map _)
 obtain⟨H2,e2,p2,k2,n2,s2,x2,y2,z2,w5⟩:=Bq gP zE zH
  (fun p hp hh=>by
   obtain⟨i,hi⟩:=(ui.aO p hp).1 Xg
   exact⟨i,by rw[bE iF];exact hi⟩) ui.pn
  (fun p hp e he e3=>by
   obtain⟨e',h5,h6,rfl⟩:=yF e he;obtain⟨-,-,e4,h7,-,h8,h9⟩:=ui.aO p hp;have :e'=e4:=eB h.kz h5 h7 (by rw[show c_ e'=p.1.id from e3];unfold c_;rw[h8])
   rw[this]at h6;exact h6 h9) ui.gn
  (fun g hg=>by
   obtain⟨i,d,e,h5,h6,h7,h8,-⟩:=ui.bf g hg
   exact⟨i,by rw[bE iF];exact d,_,fq e h5 ae,h6,h7⟩)
 have Db:=(h.B0 hb hk hK).1;have QL:H0.id=H.id:=by rw[h.XI,h.hid]
 obtain⟨H3,e3,p3,k3,n3,s3,x3,y3,z3,Q6⟩:=Bq Db zE h.Gv
  (fun p hp hh=>by
   obtain⟨i,hi⟩:=(ui.aO p hp).1 (by rw[hh,QL])
   exact⟨i,by rw[bE h.keys];exact hi⟩) ui.pn
  (fun p hp e he e3=>by
   obtain⟨e',h5,-,h6,h7⟩:=h.T_ he;obtain⟨-,-,e4,h8,-,h9,Cv⟩:=ui.aO p hp;have :e'=e4:=eB h.kz h5 h8 (by unfold c_ at *;rw[h6,h9];exact e3)
   rw[this,Cv]at h7;omega) ui.gn
  (fun g hg=>by
   obtain⟨i,d,e,h5,h6,h7,h8,-⟩:=ui.bf g hg;obtain⟨e',h9,Cv,FP⟩:=h.to0 h5 h8
   exact⟨i,by rw[bE h.keys];exact d,e',h9,by rw[Cv];exact h6,by unfold c_ at *;rw[FP];exact h7⟩)
 rw[e2];dsimp only;have oe:(k:Int)<4:=by omega
 have hj1:∀m,qy H1 m=qy H m:=fm iF eX;have hj0:∀m,qy H0 m=qy H m:=fm h.keys QL;have hN1:(x.aO.map fun p=>(⟨qy H1 p.1,p.1,-1,-1⟩:En))=x.aO.map fun p=>⟨qy H p.1,p.1,-1,-1⟩:=by
  apply List.map_congr_left;intro p _;rw[hj1]
 have YK:(x.aO.map fun p=>(⟨qy H0 p.1,p.1,-1,-1⟩:En))=x.aO.map fun p=>⟨qy H p.1,p.1,-1,-1⟩:=by
  apply List.map_congr_left;intro p _;rw[hj0]
 rw[hN1]at p2;rw[YK]at p3;have hNj:(x.aO.map fun p=>(qy H p.1,p.1))=(x.aO.map fun p=>(⟨qy H p.1,p.1,-1,-1⟩:En)).map jX:=by rw[List.map_map];rfl
 rw[hNj];generalize hN:(x.aO.map fun p=>(⟨qy H p.1,p.1,-1,-1⟩:En))=N at p2 p3;have Cs:∀e∈N,e.put= -1/\e.ft= -1/\∃p∈x.aO,e.m=p.1:=fun e he=>by
  rw[<-hN]at he;obtain⟨p,hp,rfl⟩:=ay.1 he;exact⟨rfl,rfl,p,hp,rfl⟩
 have WX:N.map c_=x.aO.map fun p=>p.1.id:=by rw[<-hN,List.map_map];rfl
 have Ba:((hv H1).filter eb).map jX=WB.hk H:=by
  unfold WB.hk;rw[GD,List.filter_map,List.map_map,bm];rw[show(jX∘dB u)=jX from rfl];congr 1;apply List.filter_congr;intro e _;unfold eb dB;dsimp only[Function.comp];by_cases e1:e.put=(u:Int)
  ·have :¬e.put<0:=by omega
   simp[e1]
  ·simp[e1]
 have UQ:((hv H3).map jX).Perm ((N.map jX++(hv H0).map jX).filter fun y=> !decide (nH y∈x.bf.map (·.1))):=by
  refine(p3.map jX).trans (List.Perm.of_eq ?_);rw[<-aN,List.filter_map];rfl
 have yB:(WB.hk H2).Perm ((hv H3).map jX):=by
  have a1:(WB.hk H2).Perm ((((N++hv H1).filter eb).map jX).filter fun y=> !decide (nH y∈x.bf.map (·.1))):=by
   unfold WB.hk;refine((p2.filter eb).map jX).trans (List.Perm.of_eq ?_);rw[List.filter_map,bm,bm];congr 1;apply List.filter_congr;intro e _;rw[Bool.and_comm];rfl
  refine a1.trans (List.Perm.trans (List.Perm.filter _ ?_) UQ.symm);rw[bU,aN,Ba];rw[bo.2 (fun e he=>by unfold eb;simp[(Cs e he).1])];exact(List.Perm.refl _).append h.o7
 have II:((hv H2).map c_).Nodup:=by
  refine(p2.map c_).nodup_iff.2 (List.Nodup.sublist (List.filter_sublist.map _) ?_);rw[aN,List.nodup_append,WX];refine⟨ui.pn,zH,fun a ha b hb=>?_⟩;obtain⟨p,hp,rfl⟩:=ay.1 ha;obtain⟨e,he,rfl⟩:=ay.1 hb;obtain⟨e',h5,h6,rfl⟩:=yF e he;obtain⟨-,-,e4,h7,-,h8,h9⟩:=ui.aO p hp;intro e5;have :e'=e4:=eB h.kz h5 h7 (by unfold c_ at *;rw[h8];exact e5.symm);rw[this]at h6;exact h6 h9
 have IJ:∀e∈hv H2,(∃p∈x.aO,e.m=p.1)\/∃e'∈hv H,e.j=e'.j/\e.m=e'.m:=fun e he=>by
  rw[p2.mem_iff,aB]at he;rcases aH.1 he.1 with h5|h5
  ·exact .inl (Cs e h5).2.2
  ·obtain⟨e',h6,-,rfl⟩:=yF e h5;exact .inr ⟨e',h6,rfl,rfl⟩
 have u7:∀e∈hv H,e.put≠(u:Int)->c_ e∉x.bf.map (·.1)->dB u e∈hv H2:=fun e he h5 h6=>by
  rw[p2.mem_iff,aB];exact⟨List.mem_append_right _ (fq e he h5),by rw[show c_ (dB u e)=c_ e from rfl];simpa using h6⟩
 have Kk:∀e∈hv H,c_ e∈x.bf.map (·.1)->e.put<0/\e.ft=(u:Int)/\4<=e.j:=fun e he h5=>by
  obtain⟨g,hg,h6⟩:=ay.1 h5;obtain⟨i,-,e4,h7,FP,h8,h9,Cv⟩:=ui.bf g hg;have :e=e4:=eB h.kz he h7 (by rw[h8];exact h6.symm);rw[this];exact⟨h9,Cv,by omega⟩
 have Qx:∀s,H2.qI s=H.qI s:=fun s=>by rw[bE k2,bE iF]
 have hjj:∀m,qy H2 m=qy H m:=fun m=>by rw[fm k2 s2.id,hj1]
 have hle:H.next<=H2.next:=by rw[<-qN];exact x2
 refine⟨{H3 with used:=H0.used+1},?_,UQ,s3.batch,s3.cg,s3.aM,x3,y3⟩;refine h.B6 h2 OU (sW zE) (zE.TH ae) (by rw[u9];exact e3) (by rw[s2.id,eX]) (by rw[s2.used,Ce]) (by rw[n2,pA];exact n3.trans h.names) (by rw[k2,iF];exact k3.trans h.keys) (by rw[s2.batch,qR];exact s3.batch.trans h.bt) (by rw[s2.cg,C_];exact s3.cg.trans h.sn) (by rw[s2.aM,IS];exact s3.aM.trans h.av) (k2.trans iF)
  (fun e he=>?_) yB II (fun e he hj=>?_) (fun e he hj=>?_) (fun e he hj=>?_) (z3 _ (by have :=h.nx;omega) y2) (fun v y hy=>?_) (fun d i hi=>?_)
 ·rw[p3.mem_iff,aB]at he;rcases aH.1 he.1 with h5|h5
  ·exact⟨(Cs e h5).1,(Cs e h5).2.1⟩
  ·exact h.iA e h5
 ·rcases IJ e he with⟨p,hp,h5⟩|⟨e',h6,h5,h7⟩
  ·rw[h5,(ui.aO p hp).2.1,h.hid]
  ·rw[h7];exact h.wy e' h6 (by rw[<-h5];exact hj)
 ·rcases IJ e he with⟨p,hp,h5⟩|⟨e',h6,h5,h7⟩
  ·rw[h5];exact y2 p hp
  ·rw[h7]at hj ⊢;have :=h.lt e' h6 hj;omega
 ·rw[p3.mem_iff,aB]at he;rcases aH.1 he.1 with h5|h5
  ·obtain⟨-,-,p,hp,h6⟩:=Cs e h5;rw[h6];exact y3 p hp
  ·have :=h.zS e h5 hj;omega
 ·rw[s2.aA,iy]at hy;rcases fR Oz hy with⟨rfl,rfl⟩|⟨gh,hy⟩
  ·exact UJ.nil _ _
  ·have vi:=h.unit v y hy;have Gz:((v:Nat):Int)≠(u:Int):=fun e=>gh ae
   refine⟨fun p hp=>?_,vi.pn,fun g hg=>?_,vi.gn⟩
   ·obtain⟨a,b,e,ei,e3,e4,e5⟩:=vi.aO p hp;have A4:e.put≠(u:Int):=by rw[e5];exact Gz
    refine⟨fun hh=>by rw[Qx];exact a (by rw[hh,s2.id,eX]),by rw[s2.id,eX];exact b,_,u7 e ei A4 (fun hh=>?_),by rw[hjj];exact e3,e4,?_⟩
    ·have :=(Kk e ei hh).1;omega
    ·unfold dB;dsimp only;rw[if_neg A4];exact e5
   ·obtain⟨i',d,e,ei,e3,e4,e5,e6⟩:=vi.bf g hg;have A4:e.put≠(u:Int):=by omega
    refine⟨i',by rw[Qx];exact d,_,u7 e ei A4 (fun hh=>?_),e3,e4,?_,?_⟩
    ·have :=(Kk e ei hh).2.1;exact Gz (by rw[<-e6,this])
    ·unfold dB;dsimp only;rw[if_neg A4];exact e5
    ·unfold dB;dsimp only;rw[if_neg (by rw[e6];exact Gz)];exact e6
 ·have Yy:cn H2 d=cn H d:=by unfold cn;rw[s2.batch,qR]
  rw[Yy]at hi;obtain⟨y,hy,a,b⟩:=h.bin d i hi;refine⟨y,yB.mem_iff.2 (UQ.mem_iff.2 (aB.2 ⟨List.mem_append_right _ (h.o7.mem_iff.1 hy),?_⟩)),a,b⟩;have QP:d<4:=by
   rcases Nat.lt_or_ge d 4 with h5|h5
   ·exact h5
   ·rw[bc4 hB h5]at hi;cases hi
  obtain⟨e,he,rfl⟩:=ay.1 hy;have :c_ e∉x.bf.map (·.1):=fun hh=>by
   have :=(Kk e (aB.1 he).1 hh).2.2;have :e.j=d:=a;omega
  show(!decide (c_ e∈x.bf.map (·.1)))=true
  rw[decide_eq_false this];rfl
end
section
variable {c kb k n:Nat} {H H0:Ho} {D:Dk}
theorem tI{H H':Ho}(h:H'.id=H.id)(a:Int):cb H' a=cb H a:=by unfold cb;rw[h]
theorem mr{a:Int}(h:fu H a=true):cb H a=true/\H.down=false/\cn H a.toNat=[]/\dK (H.iq a.toNat)≠[]:=by
 unfold fu at h;rw[decide_eq_true_eq]at h;obtain⟨h1,h2⟩:=h;unfold mI at h1;split at h1
 ·cases h1
 ·rename_i h3;split at h1
  ·cases h1
  ·rename_i h4;split at h1
   ·cases h1
   ·rename_i h5;exact⟨by simpa using h3,by simpa using h4,h2,fun h6=>h5 ⟨h2,h6⟩⟩
theorem LL(hB:cF n H){j:Nat}(hj:j<4){m:Ms}(hm:m∈dK (H.iq j)):(j,m)∈hk H:=by
 unfold dK at hm;obtain⟨e,he,rfl⟩:=ay.1 hm;obtain⟨h1,h2⟩:=aB.1 he;unfold cC at h2;simp only[a_,decide_eq_true_eq]at h2;unfold hk;refine ay.2 ⟨fU j e,aB.2 ⟨BQ.2 ⟨H.iq j,qW hB.ways hj,e,h1,rfl⟩,?_⟩,rfl⟩;unfold eb fU;simpa using h2.1
theorem HI.made(h:HI k H D H0)(hb:kM c kb k (H,D)){a:Int}(hn:fu H a=true)(he:dV H D=0):
 ∃H3,HI k (mJ H D a) (tk H D a) H3/\hv H3=hv H0/\H3.batch=H0.batch.set a.toNat (dY H a.toNat)/\H3.cg=H0.cg.set a.toNat (dz H0 a.toNat+1)/\H3.aM=H0.aM/\H3.next=H0.next/\dY H a.toNat≠[]/\(∀i∈dY H a.toNat,∃y∈(ny H0).bg,y.1=a.toNat/\nH y=i)/\cn (mJ H D a) a.toNat=dY H a.toNat/\dz (mJ H D a) a.toNat=dz H a.toNat+1/\(mJ H D a).iq a.toNat=H.iq a.toNat:=by
 obtain⟨h1,-,h3,h4⟩:=mr hn;have hr:=bX.1 h1;have hB:=hb.B;dsimp only at hB;have hj:a.toNat<4:=by omega
 have gh:dY H a.toNat≠[]:=by
  unfold dY;intro h5;rw[List.map_eq_nil_iff,List.take_eq_nil_iff]at h5;rcases h5 with h5|h5
  ·cases h5
  ·exact h4 h5
 have sN:∀i∈dY H a.toNat,∃m,(a.toNat,m)∈hk H/\m.id=i:=fun i hi=>by
  unfold dY at hi;obtain⟨m,hm,rfl⟩:=ay.1 hi;exact⟨m,LL hB hj (List.mem_of_mem_take hm),rfl⟩
 have hint:∀i∈dY H a.toNat,ob i:=fun i hi=>by
  unfold dY at hi;obtain⟨m,hm,rfl⟩:=ay.1 hi;have h5:=List.mem_of_mem_take hm;unfold dK at h5;obtain⟨e,he,rfl⟩:=ay.1 h5;have :=(hB.w hj).ids e (aB.1 he).1;exact⟨by omega,by omega⟩
 have hlen:(dY H a.toNat).length<=3:=by unfold dY;simp;omega
 have hbl:H.batch.length=4:=hB.batch;have hsl:H.cg.length=4:=hB.cg;obtain⟨eL,-,-,-⟩:=jJ he (kH a (dY H a.toNat));have dr:(kH a (dY H a.toNat)).size<=700000:=by
  have :=(mW (k:=a) ⟨hr.1,hr.2.1⟩ hlen hint).size;omega
 have lE:fF 250 (kH a (dY H a.toNat)):=(mW (k:=a) ⟨hr.1,hr.2.1⟩ hlen hint).mono ae;have e0:H0.id=H.id:=by rw[h.XI,h.hid]
 unfold mJ tk;rw[if_pos hn,if_pos hn];unfold oJ;rw[if_pos he,eL];obtain⟨i,r,hir⟩:=List.exists_cons_of_ne_nil gh;have p1:bY {H with used:=H.used+1} (kH a (dY H a.toNat))=({H with used:=H.used+1,batch:=H.batch.set a.toNat (dY H a.toNat),cg:=H.cg.set a.toNat (dz H a.toNat+1)},true):=by
  rw[hir];exact u_ (H:={H with used:=H.used+1}) h1 (by rw[<-hir];exact hint)
 have p0:bY H0 (kH a (dY H a.toNat))=({H0 with batch:=H0.batch.set a.toNat (dY H a.toNat),cg:=H0.cg.set a.toNat (dz H0 a.toNat+1)},true):=by
  rw[hir];exact u_ (H:=H0) (by rw[tI e0];exact h1) (by rw[<-hir];exact hint)
 rw[p1];dsimp only;have C_:dz H0 a.toNat=dz H a.toNat:=by unfold dz;rw[h.sn]
 refine⟨{H0 with batch:=H0.batch.set a.toNat (dY H a.toNat),cg:=H0.cg.set a.toNat (dz H0 a.toNat+1),used:=H0.used+1},?_,rfl,rfl,rfl,rfl,rfl,gh,fun i hi=>?_,?_,?_,rfl⟩
 ·refine h.B6 he dr (Hd _ _) lE p0 rfl rfl h.names h.keys (by dsimp only;rw[h.bt]) (by dsimp only;rw[C_,h.sn]) h.av rfl h.iA h.o7 h.kz h.wy h.lt h.zS h.nx (fun u x hx=>(h.unit u x hx).same rfl rfl rfl) fun d i hi=>?_
  have e5:cn ({H with used:=H.used+1,batch:=H.batch.set a.toNat (dY H a.toNat),cg:=H.cg.set a.toNat (dz H a.toNat+1)}:Ho) d=if d=a.toNat then dY H a.toNat else cn H d:=by
   unfold cn;exact jn ae _ _ _
  rw[e5]at hi;split at hi
  ·rename_i e6;obtain⟨m,hm,e7⟩:=sN i hi;exact⟨(a.toNat,m),hm,e6.symm,e7⟩
  ·exact h.bin d i hi
 ·obtain⟨m,hm,e7⟩:=sN i hi;exact⟨(a.toNat,m),h.o7.mem_iff.1 hm,rfl,e7⟩
 ·unfold cn;rw[show({H with used:=H.used+1,batch:=H.batch.set a.toNat (dY H a.toNat),cg:=H.cg.set a.toNat (dz H a.toNat+1)}:Ho).batch=H.batch.set a.toNat (dY H a.toNat)from rfl,jn ae,if_pos rfl]
 ·show(H.cg.set a.toNat (dz H a.toNat+1)).getD a.toNat 0=dz H a.toNat+1
  rw[jn ae,if_pos rfl]
theorem HI.XF(h:HI k H D H0)(hb:kM c kb k (H,D)){a:Int}(hn:fu H a=false\/dV H D≠0):HI k (mJ H D a) (tk H D a) H0:=by
 unfold mJ tk;by_cases h1:fu H a=true
 ·rw[if_pos h1,if_pos h1];rcases hn with hn|hn
  ·rw[hn]at h1;cases h1
  ·have hr:=bX.1 (mr h1).1;have hB:=hb.B;dsimp only at hB;have hj:a.toNat<4:=by omega
   unfold oJ;rw[if_neg hn];refine h.fail ?_ (Hd _ _) hn
   have :=(mW (k:=a) (l:=dY H a.toNat) ⟨hr.1,hr.2.1⟩ (by unfold dY;simp;omega) (fun i hi=>by
    unfold dY at hi;obtain⟨m,hm,rfl⟩:=ay.1 hi;have h5:=List.mem_of_mem_take hm;unfold dK at h5;obtain⟨e,he,rfl⟩:=ay.1 h5;have :=(hB.w hj).ids e (aB.1 he).1
    exact⟨by omega,by omega⟩)).size
   omega
 ·rw[if_neg h1,if_neg h1];exact h
theorem rG{a num:Int}(h:lX H a num=0):cb H a=true/\H.down=false/\cn H a.toNat≠[]/\num=dz H a.toNat:=by
 unfold lX at h;split at h
 ·cases h
 ·rename_i h1;split at h
  ·cases h
  ·rename_i h2;split at h
   ·cases h
   ·rename_i h3;refine⟨by simpa using h1,by simpa using h2,fun h4=>h3 (.inl h4),Decidable.byContradiction fun h4=>h3 (.inr h4)⟩
theorem xC{j:Nat}(hB:cF n H)(hj:j<4)(hn:((hv H).map c_).Nodup){b:List Int}(hb:∀e∈hv H,c_ e∈b->e.j=j):(hv (H.iI j (dF (H.iq j) b))).Perm ((hv H).filter fun e=> !decide (c_ e∈b)):=by
 unfold hv;rw[nA (by rw[hB.ways];exact hj)];exact Aw b (qW hB.ways hj) hn hb
theorem HI.known(h:HI k H D H0)(hb:kM c kb k (H,D))(hk:k<4)(hK:kb<=1000000000000){a num:Int}(hp:lX H a num=0)(he:dV H D=0):
 ∃H3,HI k (Dd H D a num) (FQ H D a num) H3/\(ny H3).bg.Perm ((ny H0).bg.filter fun y=> !decide (nH y∈cn H0 a.toNat))/\H3.batch=H0.batch.set a.toNat []/\H3.cg=H0.cg/\H3.aM=H0.aM/\H3.next=H0.next:=by
 obtain⟨h1,-,h3,h4⟩:=rG hp;have hr:=bX.1 h1;have hB:=hb.B;dsimp only at hB;have Db:=(h.B0 hb hk hK).1;have hj:a.toNat<4:=by omega
 have hbl:H.batch.length=4:=hB.batch;have e0:H0.id=H.id:=by rw[h.XI,h.hid]
 have ebc:cn H0 a.toNat=cn H a.toNat:=by unfold cn;rw[h.bt]
 obtain⟨eL,-,-,-⟩:=jJ he (vL a);have lE:fF 250 (vL a):=(wP (k:=a) ⟨hr.1,hr.2.1⟩).mono ae;have dr:(vL a).size<=700000:=by have :=lE.size;omega
 have sN:∀e∈hv H,c_ e∈cn H a.toNat->e.j=a.toNat/\e.put<0:=fun e he hm=>by
  obtain⟨y,hy,a1,a2⟩:=h.bin _ _ hm;obtain⟨e',he',rfl⟩:=ay.1 hy;obtain⟨b1,b2⟩:=aB.1 he';have :e=e':=eB h.kz he b1 a2.symm;rw[this];exact⟨a1,by unfold eb at b2;simpa using b2⟩
 have acw:∀e∈hv H0,c_ e∈cn H a.toNat->e.j=a.toNat:=fun e he hm=>by
  obtain⟨e',b1,b2,b3,-⟩:=h.T_ he;rw[<-b2];exact(sN e' b1 (by unfold c_ at *;rw[b3];exact hm)).1
 unfold Dd FQ;rw[if_neg (show ¬lX H a num≠0 by simpa using hp),if_neg (show ¬lX H a num≠0 by simpa using hp)];unfold oJ;rw[if_pos he,eL];rw[sJ (H:={H with used:=H.used+1}) h1];dsimp only;have q0:=sJ (H:=H0) (k:=a) (by rw[tI e0];exact h1);rw[ebc]at q0;have v0:(hv (H0.iI a.toNat (dF (H0.iq a.toNat) (cn H a.toNat)))).Perm ((hv H0).filter fun e=> !decide (c_ e∈cn H a.toNat)):=xC Db hj h.Gv acw;have v1:(hv (H.iI a.toNat (dF (H.iq a.toNat) (cn H a.toNat)))).Perm ((hv H).filter fun e=> !decide (c_ e∈cn H a.toNat)):=xC hB hj h.kz fun e he hm=>(sN e he hm).1
 generalize jy:({({H with used:=H.used+1}:Ho).iI a.toNat (dF (({H with used:=H.used+1}:Ho).iq a.toNat) (cn {H with used:=H.used+1} a.toNat))with batch:=H.batch.set a.toNat []}:Ho)=H';generalize Ll:({H0.iI a.toNat (dF (H0.iq a.toNat) (cn H a.toNat))with batch:=H0.batch.set a.toNat []}:Ho)=H3 at q0;have v3:(hv H3).Perm ((hv H0).filter fun e=> !decide (c_ e∈cn H a.toNat)):=by rw[<-Ll];exact v0
 have v2:(hv H').Perm ((hv H).filter fun e=> !decide (c_ e∈cn H a.toNat)):=by rw[<-jy];exact v1
 have vt:((hv H3).map jX).Perm (((hv H0).map jX).filter fun y=> !decide (nH y∈cn H a.toNat)):=by
  refine(v3.map jX).trans (List.Perm.of_eq ?_);rw[List.filter_map];rfl
 have yB:(WB.hk H').Perm ((hv H3).map jX):=by
  refine List.Perm.trans ?_ vt.symm;refine List.Perm.trans ?_ (h.o7.filter _);unfold WB.hk;refine((v2.filter _).map _).trans (List.Perm.of_eq ?_);rw[List.filter_map,bm,bm];congr 1;apply List.filter_congr;intro e _;rw[Bool.and_comm];rfl
 have k1:bL H'=bL H:=by rw[<-jy];rfl
 have hid:H'.id=H.id:=by rw[<-jy];rfl
 have Cf:∀e∈hv H',e∈hv H:=fun e he=>(aB.1 (v2.mem_iff.1 he)).1
 refine⟨{H3 with used:=H0.used+1},?_,by rw[ebc];exact vt,by rw[<-Ll],by rw[<-Ll];rfl,by rw[<-Ll];rfl,by rw[<-Ll];rfl⟩;refine h.B6 he dr (NV _) lE q0 hid Ox (by rw[<-jy,<-Ll];exact h.names) (by rw[k1,<-h.keys,<-Ll];rfl) (by rw[<-jy,<-Ll];dsimp only;rw[h.bt]) (by rw[<-jy,<-Ll];exact h.sn) (by rw[<-jy,<-Ll];exact h.av) k1
  (fun e he=>h.iA e (aB.1 (v3.mem_iff.1 he)).1) yB ((v2.map c_).nodup_iff.2 (h.kz.sublist (List.filter_sublist.map _))) (fun e he=>h.wy e (Cf e he)) (fun e he hj=>by rw[show H'.next=H.next from by rw[<-jy];rfl];exact h.lt e (Cf e he) hj)
  (fun e he hj=>by rw[show H3.next=H0.next from by rw[<-Ll];rfl];exact h.zS e (aB.1 (v3.mem_iff.1 he)).1 hj) (by rw[<-jy,<-Ll];exact h.nx) (fun u x hx=>?_) fun d i hi=>?_
 ·have hx:H.aA[u]? =some x:=by rw[<-jy]at hx;exact hx
  have ui:=h.unit u x hx;have u7:∀e∈hv H,(0<=e.put\/4<=e.j)->e∈hv H':=fun e he hh=>by
   rw[v2.mem_iff,aB];have :c_ e∉cn H a.toNat:=fun hm=>by
    have :=sN e he hm;omega
   exact⟨he,by rw[decide_eq_false this];rfl⟩
  refine⟨fun p hp=>?_,ui.pn,fun g hg=>?_,ui.gn⟩
  ·obtain⟨a1,a2,e,a3,a4,a5,a6⟩:=ui.aO p hp;exact⟨fun hh=>by rw[bE k1];exact a1 (by rw[hh,hid]),by rw[hid];exact a2,e,u7 e a3 (.inl ae),by rw[fm k1 hid];exact a4,a5,a6⟩
  ·obtain⟨i,a1,e,a2,a3,a4⟩:=ui.bf g hg;exact⟨i,by rw[bE k1];exact a1,e,u7 e a2 (.inr ae),a3,a4⟩
 ·have e5:cn H' d=if d=a.toNat then[]else cn H d:=by
   rw[<-jy];unfold cn;exact jn ae _ _ _
  rw[e5]at hi;split at hi
  ·cases hi
  ·rename_i hd;obtain⟨y,hy,a1,a2⟩:=h.bin d i hi;refine⟨y,yB.mem_iff.2 (vt.mem_iff.2 (aB.2 ⟨h.o7.mem_iff.1 hy,?_⟩)),a1,a2⟩;have :nH y∉cn H a.toNat:=fun hm=>by
    obtain⟨e,he,rfl⟩:=ay.1 hy;exact hd (a1.symm.trans (sN e (aB.1 he).1 hm).1)
   rw[decide_eq_false this];rfl
theorem HI.T7(h:HI k H D H0){a num:Int}(hp:lX H a num≠0\/dV H D≠0):HI k (Dd H D a num) (FQ H D a num) H0:=by
 unfold Dd FQ;by_cases h1:lX H a num≠0
 ·rw[if_pos h1,if_pos h1];exact h
 ·rw[if_neg h1,if_neg h1];have hp:dV H D≠0:=hp.resolve_left h1;unfold oJ;rw[if_neg hp];have hr:=bX.1 (rG K6).1;refine h.fail ?_ (NV _) hp;have :=(wP (k:=a) ⟨hr.1,hr.2.1⟩).size;omega
theorem uG{a num:Int}{l:List Ms}(h:Dg H a num l=true):cb H a=true/\H.down=false/\num=dc H a.toNat+1/\iV l=none/\(∀m∈l,ky H m=false)/\CI H l=false:=by
 unfold Dg at h;rw[decide_eq_true_eq]at h;obtain⟨h1,h2⟩:=h;unfold rK at h1;split at h1
 ·cases h1
 ·rename_i g1;split at h1
  ·cases h1
  ·rename_i g2;split at h1
   ·rename_i g3;omega
   ·split at h1
    ·cases h1
    ·rename_i g4;split at h1
     ·cases h1
     ·rename_i g5;split at h1
      ·cases h1
      ·rename_i g6;have g7:iV l=none:=Decidable.byContradiction fun g=>g5 (.inl g)
       have g8:l.any (ky H)=false:=by
        cases hh:l.any (ky H)with
        |false=>rfl
        |true=>exact absurd (.inr hh) g5
       rw[List.any_eq_false]at g8;exact⟨by simpa using g1,by simpa using g2,by omega,g7,fun m hm=>by simpa using g8 m hm,by simpa using g6⟩
theorem CJ:∀(l:List Ms) (r:List (ak×Int)),∀t∈ec H l r,t=cz\/∃i,H.qI t=some i
 |[],_,t,h=>by cases h
 |m::l,r,t,h=>by
  unfold ec at h;split at h
  ·rcases aD.1 h with rfl|h
   ·exact .inl rfl
   ·exact CJ l r t h
  ·rename_i h1;rcases aD.1 h with rfl|h
   ·right;unfold toDead at h1;cases hq:H.qI m.queue with
    |none=>rw[hq]at h1;exact absurd rfl h1
    |some i=>exact⟨i,rfl⟩
   ·exact CJ l _ t h
theorem Hf{l:List Ms}(h:CI H l=false):(l.map (·.id)).Nodup/\∀m∈l,∀x∈H.aK,vM x.2 m.id=false:=by
 unfold CI at h;rw[List.any_eq_false]at h;have key:∀(i:Nat) m,l[i]? =some m->DC H l i m=false:=fun i m hm=>by
  have :=h (m,i) (List.mem_zipIdx_iff_getElem?.2 hm);simpa using this
 constructor
 ·rw[List.nodup_iff_pairwise_ne,List.pairwise_map,List.pairwise_iff_getElem];intro i j hi hj UD e;have :=key j l[j] (ao hj);unfold DC at this;rw[Bool.or_eq_false_iff,List.any_eq_false]at this;have h3:l[i]∈l.take j:=List.mem_take_iff_getElem.2 ⟨i,by omega,rfl⟩;have :=this.1 _ h3;unfold xO at this;simp[e]at this
 ·intro m hm x hx;obtain⟨i,hi,rfl⟩:=List.getElem_of_mem hm;have :=key i l[i] (ao hi);unfold DC at this;rw[Bool.or_eq_false_iff,List.any_eq_false]at this;have h8:=this.2;rw[List.any_eq_false]at h8;simpa using h8 x hx
theorem HI.NQ(h:HI k H D H0)(hb:kM c kb k (H,D))(hk:k<4)(hK:kb<=1000000000000){a num:Int}{l:List Ms}(hl:l.length<=250)(hw:Dg H a num l=true)(he:dV H D=0):
 ∃H3 P,HI k (rL H D a num l) (sY H D a num l) H3/\P.map (·.2)=l/\(∀y∈P,4<=y.1)/\(ny H3).bg.Perm (P++(ny H0).bg)/\H3.batch=H0.batch/\H3.cg=H0.cg/\H3.aM=H0.aM.set a.toNat (dc H0 a.toNat+1)/\H3.next=H0.next/\dc (rL H D a num l) a.toNat=dc H a.toNat+1:=by
 obtain⟨h1,-,h3,h4,h5,h6⟩:=uG hw;obtain⟨t1,t2⟩:=Hf h6;have hr:=bX.1 h1;have hB:=hb.B;dsimp only at hB;have Db:=(h.B0 hb hk hK).1;have hj:a.toNat<4:=by omega
 have e0:H0.id=H.id:=by rw[h.XI,h.hid]
 have eav:dc H0 a.toNat=dc H a.toNat:=by unfold dc;rw[h.av]
 have WL:=dx h4;have Le:=lJ (H:=H) WL [];have MT:=lp H l [];have htq:∀t∈ec H l [],∃i,H.qI t=some i:=fun t ht=>by
  rcases CJ l [] t ht with rfl|hh
  ·exact h.dead
  ·exact hh
 obtain⟨eL,-,-,-⟩:=jJ he (qT H a l);obtain⟨lE,dr⟩:=wO (k:=a) ⟨hr.1,hr.2.1⟩ h4 hl Le MT;have hz:∀x∈l.zip (ec H l []),((0<=x.1.pri/\x.1.pri<=9)/\0<=x.1.id/\x.1.id<=1099511627776)/\∃i,H.qI x.2=some i:=fun x hx=>by
  obtain⟨x1,x2⟩:=x;have h7:=List.of_mem_zip hx;obtain⟨m1,m2,m3,m4,-⟩:=bN (WL _ h7.1);exact⟨⟨⟨m3,m4⟩,m1,m2⟩,htq _ h7.2⟩
 have hBl:cF (300+c+250*H.used) {H with used:=H.used+1}:=by
  have :=hB.log (D:=D);rw[eL]at this;exact this
 obtain⟨H2,e2,p2,k2,n2,x2,s2,-⟩:=uA (l.zip (ec H l [])) hBl hz;obtain⟨H3,e3,p3,k3,n3,x3,s3,-⟩:=uA (l.zip (ec H l [])) Db fun x hx=>by
  obtain⟨b1,i,b2⟩:=hz x hx;exact⟨b1,i,by rw[bE h.keys];exact b2⟩
 have ek0:∀s,H0.qI s=H.qI s:=fun s=>bE h.keys s
 have ek2:∀s,({H with used:=H.used+1}:Ho).qI s=H.qI s:=fun s=>rfl
 have YK:((l.zip (ec H l [])).map fun x=>(⟨4+(H0.qI x.2).getD 0,x.1,-1,-1⟩:En))=(l.zip (ec H l [])).map fun x=>⟨4+(H.qI x.2).getD 0,x.1,-1,-1⟩:=by
  apply List.map_congr_left;intro p _;rw[ek0]
 rw[YK]at p3;have p2:(hv H2).Perm (((l.zip (ec H l [])).map fun x=>(⟨4+(H.qI x.2).getD 0,x.1,-1,-1⟩:En))++hv H):=p2;generalize hN:((l.zip (ec H l [])).map fun x=>(⟨4+(H.qI x.2).getD 0,x.1,-1,-1⟩:En))=N at p2 p3;have Cs:∀e∈N,e.put= -1/\e.ft= -1/\4<=e.j/\e.m∈l:=fun e he=>by
  rw[<-hN]at he;obtain⟨p,hp,rfl⟩:=ay.1 he;obtain⟨p1,p2⟩:=p;exact⟨rfl,rfl,by dsimp only;omega,(List.of_mem_zip hp).1⟩
 have J6:(l.zip (ec H l [])).map (·.1)=l:=List.map_fst_zip (by rw[MT];exact aF _)
 have hNm:N.map (·.m)=l:=by
  rw[<-hN,List.map_map];exact J6
 have WX:N.map c_=l.map (·.id):=by
  rw[<-hNm,List.map_map];rfl
 have UH:∀m∈l,∀e∈hv H,c_ e≠m.id:=fun m hm e he e5=>by
  have g1:=h5 m hm;unfold ky at g1;rw[Bool.or_eq_false_iff]at g1;have g2:m.id%4≠H.id:=by simpa using g1.2
  rcases Nat.lt_or_ge e.j 4 with h7|h7
  ·have :=h.wy e he h7;unfold c_ at e5;rw[e5,<-h.hid]at this;exact g2 this
  ·obtain⟨q,a1,x,a2,a3⟩:=BQ.1 he;unfold Ho.all at a1;rw[aY (by rw[hB.ways];exact h7),aG]at a1;obtain⟨z,b1,b2⟩:=Option.map_eq_some_iff.1 a1;have g3:=t2 m hm z (ax b1);rw[b2]at g3;unfold vM at g3;rw[List.any_eq_false]at g3;have :=g3 x a2;unfold IF at this;have g4:x.m.id=m.id:=by rw[<-e5,a3];rfl
   simp[g4]at this
 have q0:bY H0 (qT H a l)=({H3 with aM:=H0.aM.set a.toNat (dc H0 a.toNat+1)},true):=ve (by rw[tI e0];exact h1) h4 Le MT e3;have q1:bY {H with used:=H.used+1} (qT H a l)=({H2 with aM:=H.aM.set a.toNat (dc H a.toNat+1)},true):=ve (H:={H with used:=H.used+1}) h1 h4 Le MT e2;unfold rL sY;rw[if_pos hw,if_pos hw];unfold oJ;rw[if_pos he,eL,q1];dsimp only;have vt:((hv H3).map jX).Perm (N.map jX++(hv H0).map jX):=by rw[<-aN];exact p3.map jX
 have yB:(WB.hk H2).Perm ((hv H3).map jX):=by
  refine List.Perm.trans ?_ vt.symm;refine List.Perm.trans ?_ ((List.Perm.refl _).append h.o7);unfold WB.hk;refine((p2.filter _).map _).trans (List.Perm.of_eq ?_);rw[bU,aN,bo.2 (fun e he=>by unfold eb;simp[(Cs e he).1])]
 have lV:H2.id=H.id:=s2.id;have iF:bL H2=bL H:=k2;have fq:∀e∈hv H,e∈hv H2:=fun e he=>p2.mem_iff.2 (List.mem_append_right _ he)
 have qQ:∀e∈hv H2,(4<=e.j/\e.m∈l)\/e∈hv H:=fun e he=>by
  rcases aH.1 (p2.mem_iff.1 he)with g1|g1
  ·exact .inl ⟨(Cs e g1).2.2.1,(Cs e g1).2.2.2⟩
  ·exact .inr g1
 have pa:∀m∈l,m.id%4≠(k:Int):=fun m hm=>by
  have g1:=h5 m hm;unfold ky at g1;rw[Bool.or_eq_false_iff]at g1;rw[<-h.hid];simpa using g1.2
 refine⟨{H3 with aM:=H0.aM.set a.toNat (dc H0 a.toNat+1),used:=H0.used+1},N.map jX,?_,by rw[List.map_map];exact hNm,fun y hy=>?_,vt,s3.batch,s3.cg,rfl,x3,?_⟩
 ·refine h.B6 he (Nat.le_trans dr ai) (NU _ WL Le) lE q0 lV s2.used (by dsimp only;rw[n2];exact n3.trans h.names) (by show bL H3=bL H2;rw[iF];exact k3.trans h.keys) (by dsimp only;rw[s2.batch];exact s3.batch.trans h.bt) (by dsimp only;rw[s2.cg];exact s3.cg.trans h.sn) (by dsimp only;rw[eav,h.av]) iF
   (fun e he=>?_) yB ?_ (fun e he hj=>?_) (fun e he hj=>?_) (fun e he hj=>?_) (by dsimp only;rw[x3,x2];exact h.nx) (fun u x hx=>?_) fun d i hi=>?_
  ·rcases aH.1 (p3.mem_iff.1 he)with g1|g1
   ·exact⟨(Cs e g1).1,(Cs e g1).2.1⟩
   ·exact h.iA e g1
  ·refine(p2.map c_).nodup_iff.2 ?_;rw[aN,List.nodup_append,WX];refine⟨t1,h.kz,fun x hx y hy=>?_⟩;obtain⟨m,hm,rfl⟩:=ay.1 hx;obtain⟨e,he,rfl⟩:=ay.1 hy;exact fun e5=>UH m hm e he e5.symm
  ·rcases qQ e he with g1|g1
   ·omega
   ·exact h.wy e g1 hj
  ·rcases qQ e he with g1|g1
   ·exact absurd hj (pa _ g1.2)
   ·rw[show({H2 with aM:=H.aM.set a.toNat (dc H a.toNat+1)}:Ho).next=H.next from x2];exact h.lt e g1 hj
  ·rcases aH.1 (p3.mem_iff.1 he)with g1|g1
   ·exact absurd hj (pa _ (Cs e g1).2.2.2)
   ·rw[show({H3 with aM:=H0.aM.set a.toNat (dc H0 a.toNat+1)}:Ho).next=H0.next from x3];exact h.zS e g1 hj
  ·have hx:H.aA[u]? =some x:=by rw[<-show H2.aA=H.aA from s2.aA];exact hx
   have ui:=h.unit u x hx;refine UJ.same (H:=H2) ⟨fun p hp=>?_,ui.pn,fun g hg=>?_,ui.gn⟩ rfl rfl rfl
   ·obtain⟨a1,a2,e,a3,a4⟩:=ui.aO p hp;exact⟨fun hh=>by rw[bE iF];exact a1 (by rw[hh,lV]),by rw[lV];exact a2,e,fq e a3,by rw[fm iF lV];exact a4⟩
   ·obtain⟨i,a1,e,a2,a3⟩:=ui.bf g hg;exact⟨i,by rw[bE iF];exact a1,e,fq e a2,a3⟩
  ·have hi:i∈cn H d:=by unfold cn at hi ⊢;rw[<-show H2.batch=H.batch from s2.batch];exact hi
   obtain⟨y,hy,a1,a2⟩:=h.bin d i hi;exact⟨y,yB.mem_iff.2 (vt.mem_iff.2 (List.mem_append_right _ (h.o7.mem_iff.1 hy))),a1,a2⟩
 ·obtain⟨e,he,rfl⟩:=ay.1 hy;exact(Cs e he).2.2.1
 ·unfold dc;rw[show({H2 with aM:=H.aM.set a.toNat (H.aM.getD a.toNat 0+1)}:Ho).aM=H.aM.set a.toNat (H.aM.getD a.toNat 0+1)from rfl,jn (by rw[hB.aM];exact hj),if_pos rfl]
theorem HI.Zn(h:HI k H D H0){a num:Int}{l:List Ms}(hl:l.length<=250)(hp:Dg H a num l=false\/dV H D≠0):HI k (rL H D a num l) (sY H D a num l) H0:=by
 unfold rL sY;by_cases h1:Dg H a num l=true
 ·rw[if_pos h1,if_pos h1];rcases hp with hp|hp
  ·rw[hp]at h1;cases h1
  ·obtain⟨g1,-,-,h4,-,-⟩:=uG h1;have hr:=bX.1 g1;have WL:=dx h4;have Le:=lJ (H:=H) WL [];obtain⟨lE,dr⟩:=wO (k:=a) ⟨hr.1,hr.2.1⟩ h4 hl Le (lp H l []);unfold oJ;rw[if_neg hp];exact h.fail (Nat.le_trans dr ai) (NU _ WL Le) hp
 ·rw[if_neg h1,if_neg h1];exact h
end
def jm (H:Ho):List Ms:=H.aK.flatMap fun q=>cT q.2
theorem L8{H:Ho}(hn:(H.aK.map (·.1)).Nodup){i:Nat}{x:ak×Qu}(hx:H.aK[i]? =some x):H.qI x.1=some i/\H.dP i=x.2:=by
 have hi:=(au.1 hx).1;have Wy:=(au.1 hx).2;refine⟨?_,?_⟩
 ·unfold Ho.qI;rw[List.findIdx?_eq_some_iff_getElem];refine⟨hi,by rw[Wy];simp,fun j hj=>?_⟩;have h2:=List.pairwise_iff_getElem.1 hn j i fx (by simpa using hi) hj;simp only[List.getElem_map]at h2;rw[Wy]at h2;simpa using h2
 ·unfold Ho.dP;rw[aq,hx];rfl
theorem yQ{f g:ak×Qu->List Ms}:∀{l:List (ak×Qu)},(∀x∈l,f x=g x)->l.flatMap f=l.flatMap g
 |[],_=>rfl
 |a::l,h=>by rw[aR,aR,h a aj,yQ fun x hx=>h x wF]
theorem JY{n:Nat}{H:Ho}(hB:cF n H){ns:List ak}(h:ns.Perm (H.aK.map (·.1))):((fc ns).flatMap (iK H)).Perm (jm H):=by
 have h1:=((q7 ns).trans h).flatMap_right (iK H);refine h1.trans (List.Perm.of_eq ?_);unfold jm;rw[List.flatMap_map];have key:∀x∈H.aK,iK H x.1=cT x.2:=fun x hx=>by
  obtain⟨i,hi,rfl⟩:=List.getElem_of_mem hx;obtain⟨a,b⟩:=L8 hB.nodup (ao hi);unfold iK;rw[a];dsimp only;rw[b]
 exact yQ key
def pJ (W:Wo) (k dst:Nat):Bool:=decide (cn (W.H k) dst≠[]/\W.is dst=true/\cb (W.H k) dst=true/\dz (W.H k) dst<=(if cb (W.H dst) k=true then dc (W.H dst) k else 0))
def gL (W:Wo) (k dst:Nat):List Ms:=if cb (W.H k) dst=true then(cT ((W.H k).iq dst)).filter fun m=> !pJ W k dst|| !decide (m.id∈cn (W.H k) dst)else[]
def tT (W:Wo) (k:Nat):List Ms:=jm (W.H k)++(List.range 4).flatMap (gL W k)
def JV (W:Wo):List Ms:=(List.range W.hs.length).flatMap (tT W)
theorem tJ(q:Qu):(cT q).length<=q.l.length:=by
 unfold cT;rw[aW];exact List.length_filter_le _ _
theorem GK{n:Nat}{H:Ho}(hB:cF n H):(jm H).length<=H.aK.length *n:=by
 unfold jm;have key:∀l:List (ak×Qu),(∀x∈l,x∈H.aK)->(l.flatMap fun q=>cT q.2).length<=l.length *n:=by
  intro l
  induction l with
  |nil=>intro _;simp
  |cons a l ih=>
   intro hl;have h1:=ih fun x hx=>hl x wF
   have h2:(cT a.2).length<=n:=by
    obtain⟨i,hi,e⟩:=List.getElem_of_mem (hl a aj);obtain⟨c,d⟩:=L8 hB.nodup (ao hi);have h3:=(hB.qa hi).len;rw[d,e]at h3;exact Nat.le_trans (tJ _) h3
   rw[aR,aX,List.length_cons,Nat.succ_mul];omega
 exact key _ fun _ h=>h
theorem Gp{c kb:Nat}{W:Wo}(h:dC c kb W)(hc:c<=4000){k:Nat}(hk:k<W.hs.length)(dst:Nat):(gL W k dst).length<=80000:=by
 unfold gL;split
 ·rename_i hr;obtain⟨x,hx,e1,e2⟩:=iY hk;have hB:cF 79600 x.1:=(h.hs k x hx).B.le (by have :=(h.hs k x hx).B.used;omega);obtain⟨h0,h4,-⟩:=bX.1 hr;have h1:=(hB.w (j:=dst) ae).len;rw[e1];refine Nat.le_trans (List.length_filter_le _ _) (Nat.le_trans (tJ _) ae)
 ·simp
theorem AL{n:Nat}{q:Qu}(h:QB n q):∀m∈cT q,0<=m.id/\m.id<=1099511627776:=fun m hm=>by
 unfold cT at hm;obtain⟨e,he,rfl⟩:=ay.1 hm;exact h.ids e (aB.1 he).1
theorem GL{n:Nat}{H:Ho}(hB:cF n H):∀m∈jm H,0<=m.id/\m.id<=1099511627776:=fun m hm=>by
 unfold jm at hm;obtain⟨a,ha,hm⟩:=List.mem_flatMap.1 hm;obtain⟨i,hi,e⟩:=List.getElem_of_mem ha;obtain⟨c,d⟩:=L8 hB.nodup (ao hi);have h3:=hB.qa hi;rw[d,e]at h3;exact AL h3 m hm
theorem ME{c kb:Nat}{W:Wo}(h:dC c kb W)(hc:c<=4000):∀m∈JV W,0<=m.id/\m.id<=1099511627776:=fun m hm=>by
 unfold JV at hm;obtain⟨k,hk,hm⟩:=List.mem_flatMap.1 hm;have hk:=aZ.1 hk;obtain⟨x,hx,e1,e2⟩:=iY hk;have hB:cF 79600 x.1:=(h.hs k x hx).B.le (by have :=(h.hs k x hx).B.used;omega);unfold tT at hm;rw[e1]at hm;rcases aH.1 hm with hm|hm
 ·exact GL hB m hm
 ·obtain⟨j,hj,hm⟩:=List.mem_flatMap.1 hm;have hj:=aZ.1 hj;unfold gL at hm;rw[e1]at hm;split at hm
  ·exact AL (hB.w hj) m (aB.1 hm).1
  ·cases hm
def XD (k n:Nat):List Nm:=[⟨kS,gU,((k:Int)+1)%n⟩,⟨gU,⟨#[]⟩,-1⟩,⟨gK,⟨#[]⟩,-1⟩]
def CC (C0:Nat->Ho):Nat->Cr:=fun k=>ny (C0 k)
def zP (C0:Nat->Ho) (k:Nat) (H:Ho):Nat->Ho:=fun i=>if i=k then H else C0 i
structure GI (n:Nat) (W:Wo) (C0:Nat->Ho) (T:List Ms):Prop where
 hn:W.hs.length=n
 hi:∀(k:Nat) x,W.hs[k]? =some x->HI k x.1 x.2 (C0 k)
 gc:GC n (CC C0) W.dQ T
 fresh:∀(k:Nat) x,W.hs[k]? =some x->∀(u:Nat) y,x.1.aA[u]? =some y->∀p∈y.aO,p.1.id∉T.map (·.id)
 jk:∀(k:Nat) x,W.hs[k]? =some x->x.1.names=XD k n
theorem OO(C0:Nat->Ho)(k:Nat)(H:Ho):CC (zP C0 k H)=ef (CC C0) k (ny H):=by
 funext i;unfold CC zP ef;by_cases e:i=k
 ·rw[if_pos e,if_pos e]
 ·rw[if_neg e,if_neg e]
theorem As(C0:Nat->Ho)(k:Nat):zP C0 k (C0 k)=C0:=by
 funext i;unfold zP;by_cases e:i=k
 ·rw[if_pos e,e]
 ·rw[if_neg e]
theorem BV{W:Wo}{k i:Nat}{x y:Ho×Dk}(h:(W.cy k x).hs[i]? =some y):(i=k/\y=x)\/(i≠k/\W.hs[i]? =some y):=by
 unfold Wo.cy at h;dsimp only at h;rw[List.getElem?_set]at h;by_cases e:k=i
 ·rw[if_pos e]at h;split at h
  ·simp only[az]at h;exact .inl ⟨e.symm,h.symm⟩
  ·cases h
 ·rw[if_neg e]at h;exact .inr ⟨fun e2=>e e2.symm,h⟩
section
variable {c kb n:Nat} {W:Wo} {C0:Nat->Ho} {T:List Ms}
theorem GI.set(g:GI n W C0 T){k:Nat}{H' H3:Ho}{D':Dk}{T':List Ms}(hi:HI k H' D' H3)(gc:GC n (ef (CC C0) k (ny H3)) W.dQ T')(pA:H'.names=XD k n)(fr:∀(u:Nat) y,H'.aA[u]? =some y->∀p∈y.aO,p.1.id∉T'.map (·.id))(fro:∀(i:Nat) x,i≠k->W.hs[i]? =some x->∀(u:Nat) y,x.1.aA[u]? =some y->∀p∈y.aO,p.1.id∉T'.map (·.id)):
 GI n (W.cy k (H',D')) (zP C0 k H3) T':=by
 refine⟨by rw[gF];exact g.hn,fun i x hx=>?_,by rw[OO];exact gc,fun i x hx=>?_,fun i x hx=>?_⟩
 ·unfold zP;rcases BV hx with⟨rfl,rfl⟩|⟨gh,hx⟩
  ·rw[if_pos rfl];exact hi
  ·rw[if_neg gh];exact g.hi i x hx
 ·rcases BV hx with⟨rfl,rfl⟩|⟨gh,hx⟩
  ·exact fr
  ·exact fro i x gh hx
 ·rcases BV hx with⟨rfl,rfl⟩|⟨gh,hx⟩
  ·exact pA
  ·exact g.jk i x hx
theorem Js(C0:Nat->Ho)(k:Nat):ef (CC C0) k (ny (C0 k))=CC C0:=by rw[<-OO,As]
theorem GI.same(g:GI n W C0 T){k:Nat}{H':Ho}{D':Dk}(hi:HI k H' D' (C0 k))(pA:H'.names=XD k n)(fr:∀(u:Nat) y,H'.aA[u]? =some y->∀p∈y.aO,p.1.id∉T.map (·.id)):GI n (W.cy k (H',D')) C0 T:=by
 have :=g.set (T':=T) hi (by rw[Js];exact g.gc) pA fr (fun i x _ hx=>g.fresh i x hx);rw[As]at this;exact this
theorem GI.aA(g:GI n W C0 T){k:Nat}{x:Ho×Dk}(hx:W.hs[k]? =some x){H':Ho}(hu:H'.aA=x.1.aA):∀(u:Nat) y,H'.aA[u]? =some y->∀p∈y.aO,p.1.id∉T.map (·.id):=fun u y hy=>g.fresh k x hx u y (by rw[<-hu];exact hy)
theorem GI.dQ(g:GI n W C0 T){LA:List Gm}{lost:Int}(hw:∀m∈LA,m∈W.dQ\/K8 n (CC C0) m):GI n {W with dQ:=LA,lost:=lost} C0 T:=
 ⟨g.hn,g.hi,g.gc.sub hw,g.fresh,g.jk⟩
theorem GI.Pb(g:GI n W C0 T){m:Gm}(hm:K8 n (CC C0) m):GI n (tx W m) C0 T:=by
 unfold tx;split
 ·exact g.dQ fun m hm=>.inl hm
 ·have :GI n {W with dQ:=W.dQ++[m],lost:=W.lost} C0 T:=g.dQ fun m' zX=>by
   rcases aH.1 zX with h|h
   ·exact .inl h
   ·simp at h;subst h;exact .inr hm
  exact this
theorem GI.Dm(g:GI n W C0 T){dst:Int}{f:Fr}{l:List Ms}(hm:K8 n (CC C0) ⟨dst,f,l⟩):GI n (j0 W dst f l) C0 T:=by
 unfold j0;split
 ·exact g.Pb hm
 ·exact g
theorem GI.out(g:GI n W C0 T)(i:Nat):GI n (qx W i) C0 T:=by
 have :GI n {W with dQ:=W.dQ.eraseIdx i,lost:=W.lost} C0 T:=g.dQ fun m hm=>.inl ((List.eraseIdx_sublist _ _).subset hm)
 exact this
theorem QJ(H:Ho)(p:Nat×Ms->Bool):((hk H).filter p).map (·.2)=H.all.zipIdx.flatMap fun x=>(cT x.1).filter fun m=>p (x.2,m):=by
 unfold hk hv vw;rw[List.filter_flatMap,List.map_flatMap,List.filter_flatMap,List.map_flatMap];congr 1;funext x;unfold Ln cT;rw[List.filter_map,List.filter_map,List.filter_map,List.map_map,List.map_map,List.filter_map,bm,bm];rfl
theorem Rg{α:Type}{l:List α}(h:l.length=4):∃a b c d,l=[a,b,c,d]:=by
 match l,h with
 |[a,b,c,d],_=>exact⟨a,b,c,d,rfl⟩
theorem xd{α β:Type}(f:Nat->α->List β)(g:α->List β):∀(l:List α) (s:Nat),(∀j,s<=j->∀x,f j x=g x)->((l.zipIdx s).flatMap fun x=>f x.2 x.1)=l.flatMap g
 |[],_,_=>rfl
 |a::l,s,h=>by rw[List.zipIdx_cons,aR,aR,h s (aF _),xd f g l (s+1) fun j hj=>h j ae]
theorem EI{H:Ho}(h4:H.ways.length=4)(p:Nat×Ms->Bool):((hk H).filter p).map (·.2)=((List.range 4).flatMap fun j=>(cT (H.iq j)).filter fun m=>p (j,m))++((H.aK.map (·.2)).zipIdx 4).flatMap fun x=>(cT x.1).filter fun m=>p (x.2,m):=by
 rw[QJ];unfold Ho.all Ho.iq;obtain⟨a,b,c,d,e⟩:=Rg h4;rw[e]
 show(([a,b,c,d]++H.aK.map (·.2)).zipIdx).flatMap _=_
 rw[List.zipIdx_append,List.flatMap_append];congr 1
theorem Yk{H:Ho}(h4:H.ways.length=4){j:Nat}(hj:j<4)(p:Ms->Bool):((hk H).filter fun y=>decide (y.1=j)&&p y.2).map (·.2)=(cT (H.iq j)).filter p:=by
 rw[EI h4];have h2:(((H.aK.map (·.2)).zipIdx 4).flatMap fun x=>(cT x.1).filter fun m=>decide (x.2=j)&&p m)=(H.aK.map (·.2)).flatMap fun _=>([]:List Ms):=by
  refine xd (fun i q=>(cT q).filter fun m=>decide (i=j)&&p m) (fun _=>[]) _ 4 fun i hi x=>?_
  rw[List.filter_eq_nil_iff];intro m _;have :i≠j:=by omega
  simp[this]
 have h3:((H.aK.map (·.2)).flatMap fun _=>([]:List Ms))=[]:=by simp
 dsimp only at h2 ⊢;rw[h2,h3,List.append_nil];have :∀i,((cT (H.iq i)).filter fun m=>decide (i=j)&&p m)=if i=j then(cT (H.iq j)).filter p else[]:=fun i=>by
  by_cases e:i=j
  ·subst e;simp
  ·rw[if_neg e,List.filter_eq_nil_iff];intro m _;simp[e]
 simp only[this];have EK:j=0\/j=1\/j=2\/j=3:=by omega
 rcases EK with rfl|rfl|rfl|rfl<;>simp[List.range_succ]
theorem qH{α β:Type}{f g:α->List β}:∀{l:List α},(∀x∈l,f x=g x)->l.flatMap f=l.flatMap g
 |[],_=>rfl
 |a::l,h=>by rw[aR,aR,h a aj,qH fun x hx=>h x wF]
theorem MD(hw:dC c kb W)(g:GI n W C0 T){k:Nat}(hk:k<n):(tT W k).Perm (view n (CC C0) k):=by
 have hn:=g.hn;have vX:=hw.n1;obtain⟨x,hx,e1,e2⟩:=iY (W:=W) (j:=k) ae;have h:=g.hi k x hx;have hB:=(hw.hs k x hx).B;unfold view;rw[show(CC C0 k).bg=(hv (C0 k)).map jX from rfl];refine List.Perm.trans ?_ ((h.o7.filter _).map _);rw[EI hB.ways];have hq:(((x.1.aK.map (·.2)).zipIdx 4).flatMap fun y=>(cT y.1).filter fun m=>gu n (CC C0) k (y.2,m))=jm x.1:=by
  have :(((x.1.aK.map (·.2)).zipIdx 4).flatMap fun y=>(fun(j:Nat) (q:Qu)=>(cT q).filter fun m=>gu n (CC C0) k (j,m)) y.2 y.1)=(x.1.aK.map (·.2)).flatMap cT:=by
   refine xd (fun(j:Nat) (q:Qu)=>(cT q).filter fun m=>gu n (CC C0) k (j,m)) cT _ 4 fun j hj q=>?_
   rw[bo];intro m _;unfold gu;simp[hj]
  refine this.trans ?_;unfold jm;rw[List.flatMap_map]
 rw[hq];unfold tT;rw[e1];refine List.perm_append_comm.trans (List.Perm.of_eq ?_);congr 1;refine qH fun j hj=>?_
 have hj:=aZ.1 hj;unfold gL;rw[e1];have qR:cn (C0 k) j=cn x.1 j:=by unfold cn;rw[h.bt]
 have C_:dz (C0 k) j=dz x.1 j:=by unfold dz;rw[h.sn]
 have hr:cb x.1 (j:Int)=decide (j≠k):=by
  unfold cb;rw[h.hid];by_cases e:j=k
  ·subst e;simp
  ·have :(j:Int)≠(k:Int):=fun e2=>e ae
   simp[e,this];omega
 have Cp:j≠k->vB n (CC C0) k j=pJ W k j:=fun IL=>by
  unfold vB pJ;rw[e1,hr]
  show decide (cn (C0 k) j≠[]/\j<n/\dz (C0 k) j<=dc (C0 j) k)=_
  rw[qR,C_];by_cases Lg:j<n
  ·obtain⟨y,hy,f1,-⟩:=iY (W:=W) (j:=j) ae;have h2:=g.hi j y hy;have hrr:cb y.1 (k:Int)=true:=by
    rw[bX,h2.hid];refine⟨by omega,by omega,fun e=>IL ae⟩
   have IS:dc (C0 j) k=dc y.1 k:=by unfold dc;rw[h2.av]
   rw[f1,if_pos hrr,IS];have :W.is (j:Int)=true:=by unfold Wo.is;rw[decide_eq_true_eq];omega
   simp[IL,Lg,this]
  ·have :W.is (j:Int)=false:=by unfold Wo.is;rw[decide_eq_false_iff_not];omega
   simp[Lg,this]
 rw[hr];by_cases IL:j=k
 ·rw[if_neg (by simp[IL]),eq_comm,List.filter_eq_nil_iff];intro m _;unfold gu;have :¬4<=j:=by omega
  simp[this,IL];omega
 ·rw[if_pos (by simp[IL])];apply List.filter_congr;intro m _;unfold gu;rw[Cp IL]
  show _=(decide (4<=j)||(decide (j≠k)&& !(pJ W k j&&decide (m.id∈cn (C0 k) j))))
  rw[qR];have :¬4<=j:=by omega
  simp[this,IL,Bool.not_and]
theorem GI.JW(g:GI n W C0 T)(hw:dC c kb W):(JV W).Perm T:=by
 refine List.Perm.trans ?_ g.gc.JW;unfold JV vR;rw[g.hn];have key:∀l:List Nat,(∀k∈l,k<n)->(l.flatMap (tT W)).Perm (l.flatMap (view n (CC C0))):=by
  intro l
  induction l with
  |nil=>intro _;exact .refl _
  |cons a l ih=>
   intro h;rw[aR,aR];exact(MD hw g (h a aj)).append (ih fun k hk=>h k (by simp[hk]))
 exact key _ fun k hk=>aZ.1 hk
end
theorem EA{H H1:Ho}{m:Ms}(h:fC H m=some H1):H1.names=H.names:=by
 unfold fC at h;dsimp only at h;split at h
 ·simp only[az]at h;subst h;rfl
 ·split at h
  ·cases h
  ·simp only[az]at h;subst h;rfl
theorem mg:∀(l:List Ms) (H:Ho),(eW H l).1.names=H.names
 |[],H=>rfl
 |m::l,H=>by
  unfold eW;cases hp:fC H m with
  |none=>rfl
  |some H1=>exact(mg l H1).trans (EA hp)
theorem vj:∀(l:List ak) (H:Ho),(gk H l).1.names=H.names
 |[],H=>rfl
 |s::l,H=>by
  unfold gk;cases hp:gN H s with
  |none=>rfl
  |some H1=>
   refine(vj l H1).trans ?_;unfold gN at hp;split at hp
   ·cases hp
   ·split at hp
    ·cases hp
    ·split at hp
     ·simp only[az]at hp;subst hp;rfl
     ·cases hp
theorem EP(H:Ho)(s:ak):(eI H s).1.names=H.names:=by
 unfold eI;split
 ·rfl
 ·split
  ·rfl
  ·rename_i l hl;split
   ·exact mg l H
   ·split
    ·exact mg l H
    ·exact(vj _ _).trans (mg l H)
theorem EF(H:Ho)(s:ak):(gM H s).1.names=H.names:=by
 unfold gM;split
 ·split<;>rfl
 ·rfl
theorem Cl(H:Ho)(s:ak):(eG H s).1.names=H.names:=by
 unfold eG;split
 ·split<;>rfl
 ·rfl
theorem oh:∀(l:List (Ms×ak)) (H:Ho),(dS H l).1.names=H.names
 |[],H=>rfl
 |(m,t)::l,H=>by
  unfold dS;split
  ·rfl
  ·exact oh l _
theorem ES(H:Ho)(s:ak):(gO H s).1.names=H.names:=by
 unfold gO;split
 ·split
  ·split
   ·split
    ·exact oh _ _
    ·exact oh _ _
   ·rfl
  ·rfl
 ·rfl
theorem tt(H:Ho)(D:Dk){c:UInt8}{s:ak}(hc:c=97\/c=98\/c=114):(oJ H D (b_ c++b_ 58++s)).names=H.names:=by
 unfold oJ;split
 ·refine Eq.trans ?_ (m_ H D).2.2.1;unfold bY;rw[l7 (by rcases hc with rfl|rfl|rfl<;>decide)];rcases hc with rfl|rfl|rfl
  ·dsimp only;rw[if_neg ai,if_neg ai,if_neg ai,if_neg ai,if_pos rfl];exact Cl _ _
  ·dsimp only;rw[if_neg ai,if_neg ai,if_neg ai,if_pos rfl];exact EF _ _
  ·dsimp only;rw[if_neg ai,if_neg ai,if_neg ai,if_neg ai,if_neg ai,if_pos rfl];exact ES _ _
 ·exact(m_ H D).2.2.1
theorem By(H:Ho)(D:Dk)(u:Int):(oU H D u).names=H.names:=by
 unfold oU;split
 ·rfl
 ·split
  ·exact(m_ H D).2.2.1
  ·exact(EP _ _).trans (m_ H D).2.2.1
theorem BE(H:Ho)(D:Dk)(a:Int):(mJ H D a).names=H.names:=by
 unfold mJ;split
 ·exact tt H D (.inr (.inl rfl))
 ·rfl
theorem BB(H:Ho)(D:Dk)(a m:Int):(Dd H D a m).names=H.names:=by
 unfold Dd;split
 ·rfl
 ·exact tt H D (.inl rfl)
theorem BJ(H:Ho)(D:Dk)(a m:Int)(l:List Ms):(rL H D a m l).names=H.names:=by
 unfold rL;split
 ·exact tt H D (.inr (.inr rfl))
 ·rfl
theorem Gb(H:Ho)(u:Int)(s:ak)(pri:Int)(body:ak):(gv H u s pri body).names=H.names:=by
 unfold gv;split
 ·exact nU _ _
 ·rfl
theorem G1(H:Ho)(u:Int)(s:ak):(g_ H u s).names=H.names:=by
 unfold g_;split<;>rfl
theorem KI(H:Ho)(u:Int):(rH H u).names=H.names:=by
 unfold rH;split<;>rfl
theorem uC(H:Ho)(D:Dk)(a:Int):(mJ H D a).aA=H.aA:=by
 unfold mJ;split
 ·exact(r6 _ _ _).2
 ·rfl
theorem uB(H:Ho)(D:Dk)(a m:Int):(Dd H D a m).aA=H.aA:=by
 unfold Dd;split
 ·rfl
 ·exact(r6 _ _ _).2
theorem qp(H:Ho)(D:Dk)(a m:Int)(l:List Ms):(rL H D a m l).aA=H.aA:=by
 unfold rL;split
 ·exact(r6 _ _ _).2
 ·rfl
section
variable {c kb n:Nat} {W:Wo} {C0:Nat->Ho} {T:List Ms}
theorem GI.at(g:GI n W C0 T){k:Nat}(hk:k<n):∃x,W.hs[k]? =some x/\W.H k=x.1/\W.D k=x.2/\HI k x.1 x.2 (C0 k):=by
 obtain⟨x,hx,e1,e2⟩:=iY (W:=W) (j:=k) (by rw[g.hn];exact hk);exact⟨x,hx,e1,e2,g.hi k x hx⟩
theorem GI.ID(g:GI n W C0 T){k:Nat}(hk:k<n){y:Nat×Ms}(hy:y∈WB.hk (W.H k))(h4:4<=y.1):y.2∈T:=by
 obtain⟨x,hx,e1,-,h⟩:=g.at hk;rw[e1]at hy;rw[<-g.gc.JW.mem_iff];unfold vR view;refine List.mem_flatMap.2 ⟨k,aZ.2 hk,cO (aB.2 ⟨h.o7.mem_iff.1 hy,?_⟩)⟩;unfold gu;simp[h4]
theorem GI.IU(g:GI n W C0 T){k:Nat}(hk:k<n){u:Nat}{y:ox}(hy:(W.H k).aA[u]? =some y):∀i∈y.bf.map (·.1),i∈T.map (·.id):=fun i hi=>by
 obtain⟨x,hx,e1,-,h⟩:=g.at hk;rw[e1]at hy;obtain⟨p,hp,rfl⟩:=ay.1 hi;obtain⟨i,-,e,he,hj,hid,zU,-⟩:=(h.unit u y hy).bf p hp
 have :e.m∈T:=g.ID hk (y:=(e.j,e.m)) (by
  rw[e1];unfold WB.hk
  exact ay.2 ⟨e,aB.2 ⟨he,by unfold eb;simpa using zU⟩,rfl⟩) gV
 exact ay.2 ⟨e.m,this,hid⟩
theorem GI.put(g:GI n W C0 T)(hw:dC c kb W){k u:Nat}(hk:k<n)(hu:u<5){s:ak}{pri:Int}{body:ak}(he:gY (W.H k) u s pri body=0):GI n (W.cy k (gv (W.H k) u s pri body,W.D k)) C0 T:=by
 obtain⟨x,hx,e1,e2,h⟩:=g.at hk;rw[e1]at he ⊢;rw[e2];have hB:=(hw.hs k x hx).B;obtain⟨h1,hid⟩:=h.put hB hu he;refine g.same h1 (by rw[Gb];exact g.jk k x hx) fun v y hy p hp=>?_
 have iy:(gv x.1 u s pri body).aA=x.1.aA.set u ⟨(x.1.fa u).aO++[(eA x.1 s pri body,(jA x.1 s).2.1)],(x.1.fa u).bf⟩:=by
  unfold gv;rw[if_pos he];unfold cM;dsimp only;rw[gG,aE]
 have lN:=fW hB hu;rw[iy]at hy;rcases fR Oz hy with⟨rfl,rfl⟩|⟨gh,hy⟩
 ·rcases aH.1 hp with hp|hp
  ·exact g.fresh k x hx v _ lN p hp
  ·simp at hp;subst hp;dsimp only;intro hm;obtain⟨m,hm,e⟩:=ay.1 hm;obtain⟨o,ho,a,b⟩:=g.gc.TP m hm;have vX:=hw.n1;rw[g.hn]at vX;have :o=k:=by rw[e,hid]at a;omega
   subst this;have h2:=h.nx;have b:m.id/4<(C0 o).next:=b
   rw[e,hid]at b;omega
 ·exact g.fresh k x hx v y hy p hp
theorem GI.get(g:GI n W C0 T)(hw:dC c kb W){k u:Nat}(hk:k<n)(hu:u<5){s:ak}(he:iU (W.H k) u s=0):GI n (W.cy k (g_ (W.H k) u s,W.D k)) C0 T/\getM (W.H k) u s∈T:=by
 obtain⟨x,hx,e1,e2,h⟩:=g.at hk;rw[e1]at he ⊢;rw[e2];have hB:=(hw.hs k x hx).B;obtain⟨h1,i,hid,h4⟩:=h.get hB hu he;refine⟨g.same h1 (by rw[G1];exact g.jk k x hx) fun v y hy p hp=>?_,g.ID hk (y:=(i,_)) (by rw[e1];exact hid) h4⟩;have iy:(g_ x.1 u s).aA=x.1.aA.set u ⟨(x.1.fa u).aO,(x.1.fa u).bf++[((gI (x.1.dP ((x.1.qI s).getD 0))).id,s)]⟩:=by
  unfold g_;rw[if_pos he];rfl
 have lN:=fW hB hu;rw[iy]at hy;rcases fR Oz hy with⟨rfl,rfl⟩|⟨gh,hy⟩
 ·exact g.fresh k x hx v _ lN p hp
 ·exact g.fresh k x hx v y hy p hp
theorem GI.back(g:GI n W C0 T)(hw:dC c kb W){k u:Nat}(hk:k<n)(hu:u<5)(he:BF (W.H k) u=0):GI n (W.cy k (rH (W.H k) u,W.D k)) C0 T:=by
 obtain⟨x,hx,e1,e2,h⟩:=g.at hk;rw[e1]at he ⊢;rw[e2];have hB:=(hw.hs k x hx).B;refine g.same (h.back hB hu he) (by rw[KI];exact g.jk k x hx) fun v y hy p hp=>?_
 have iy:(rH x.1 u).aA=x.1.aA.set u cN:=by
  unfold rH;rw[if_pos he];rfl
 rw[iy]at hy;rcases fR Oz hy with⟨rfl,rfl⟩|⟨gh,hy⟩
 ·cases hp
 ·exact g.fresh k x hx v y hy p hp
theorem GI.CH(g:GI n W C0 T)(hw:dC c kb W){k u:Nat}(hk:k<n)(hu:u<5)(he:vA (W.H k) (W.D k) u≠0):GI n (W.cy k (oU (W.H k) (W.D k) u,qn (W.H k) (W.D k) u)) C0 T:=by
 obtain⟨x,hx,e1,e2,h⟩:=g.at hk;rw[e1,e2]at he ⊢;refine g.same (h.CH (hw.hs k x hx) hu he) (by rw[By];exact g.jk k x hx) (g.aA hx ?_);rw[qm,if_neg he]
def Is (T:List Ms) (x:ox):List Ms:=(x.aO.map (·.1)++T).filter fun m=> !decide (m.id∈x.bf.map (·.1))
theorem GI.uz(g:GI n W C0 T)(hw:dC c kb W)(hK:kb<=1000000000000)(hc:c<=250){k u:Nat}(hk:k<n)(hu:u<5)(he:vA (W.H k) (W.D k) u=0):
 ∃C1,GI n (W.cy k (oU (W.H k) (W.D k) u,qn (W.H k) (W.D k) u)) C1 (Is T ((W.H k).fa u)):=by
 obtain⟨x,hx,e1,e2,h⟩:=g.at hk;rw[e1,e2]at he ⊢;have hb:=hw.hs k x hx;have vX:=hw.n1;rw[g.hn]at vX;obtain⟨H3,h1,h2,h3,h4,h5,h6,h7⟩:=h.uz hb ae hK hc hu he;have lN:=fW hb.B hu;have iy:=qm (H:=x.1) (D:=x.2) (u:Int);rw[if_pos he,aE]at iy;generalize hy:x.1.fa u=y at h2 h7 lN ⊢;have ui:=h.unit u y lN;obtain⟨zE,-⟩:=hb.aA y (ax lN);have hPm:(y.aO.map fun p=>(qy x.1 p.1,p.1)).map (·.2)=y.aO.map (·.1):=by rw[List.map_map];rfl
 have hPi:(y.aO.map fun p=>(qy x.1 p.1,p.1)).map nH=y.aO.map fun p=>p.1.id:=by rw[List.map_map];rfl
 have OY:=g.fresh k x hx u y lN;have SO:=GC.uz (c:=ny H3) g.gc hk (P:=y.aO.map fun p=>(qy x.1 p.1,p.1)) (G:=y.bf.map (·.1)) h2
  (by show cn H3=cn (C0 k);funext d;unfold cn;rw[h3]) (by show dz H3=dz (C0 k);funext d;unfold dz;rw[h4]) (by show dc H3=dc (C0 k);funext d;unfold dc;rw[h5]) h6
  (fun z hz=>by
   obtain⟨p,hp,rfl⟩:=ay.1 hz;obtain⟨-,a,-⟩:=ui.aO p hp;obtain⟨-,-,-,-,-,-,m7,m8⟩:=bN (zE.aO p hp);refine⟨?_,by rw[<-h.hid];exact a,h7 p hp⟩;dsimp only;unfold qy;split
   ·rename_i hh;right;intro e;have :=h.hid;exact hh ae
   ·left;omega)
  (by rw[hPi];exact ui.pn)
  (fun z hz=>by
   obtain⟨p,hp,rfl⟩:=ay.1 hz
   exact OY p hp)
  (fun z hz=>by
   obtain⟨p,hp,rfl⟩:=ay.1 hz;obtain⟨-,-,e,OZ,-,ei,Kl⟩:=ui.aO p hp;intro hm;obtain⟨w,tg,tY⟩:=ay.1 hm;obtain⟨e',Gy,rfl⟩:=ay.1 tg;obtain⟨e4,a1,a2,a3,a4⟩:=h.T_ Gy;have a5:e4.m.id=p.1.id:=by rw[a3];exact tY
   have :e4=e:=eB h.kz a1 OZ (by unfold c_;rw[ei];exact a5)
   rw[this,Kl]at a4;omega)
  (fun i hi=>by
   obtain⟨p,hp,rfl⟩:=ay.1 hi;obtain⟨i,-,e,a1,a2,a3,a4,-⟩:=ui.bf p hp;obtain⟨e',b1,b2,b3⟩:=h.to0 a1 a4
   exact⟨jX e',cO b1,by show 4<=e'.j;omega,by rw[<-a3];show e'.m.id=e.m.id;rw[b3]⟩)
 rw[hPm]at SO;have Cf:∀q,q∉T.map (·.id)->q∉(y.aO.map fun p=>p.1.id)->q∉(Is T y).map (·.id):=fun q hq1 Qx hm=>by
  unfold Is at hm;obtain⟨m,hm5,rfl⟩:=ay.1 hm;rcases aH.1 (aB.1 hm5).1 with h8|h8
  ·obtain⟨p,hp,rfl⟩:=ay.1 h8;exact Qx (List.mem_map_of_mem (f:=fun p:Ms×Int=>p.1.id) hp)
  ·exact hq1 (List.mem_map_of_mem (f:=(·.id)) h8)
 refine⟨_,g.set h1 SO (by rw[By];exact g.jk k x hx) (fun v z hz p hp=>?_) fun i x' gh Qk v z hz p hp=>?_⟩
 ·rw[iy]at hz;rcases fR (by rw[hb.B.aA];exact hu) hz with⟨rfl,rfl⟩|⟨gh,hz⟩
  ·cases hp
  ·refine Cf _ (g.fresh k x hx v z hz p hp) fun hm=>?_
   obtain⟨q,hq,e⟩:=ay.1 hm;obtain⟨-,-,e3,a1,-,a2,a3⟩:=(h.unit v z hz).aO p hp;obtain⟨-,-,e4,b1,-,b2,b3⟩:=ui.aO q hq;have :e3=e4:=eB h.kz a1 b1 (by unfold c_;rw[a2,b2];exact e.symm);rw[this,b3]at a3;exact gh ae
 ·refine Cf _ (g.fresh i x' Qk v z hz p hp) fun hm=>?_
  obtain⟨q,hq,e⟩:=ay.1 hm;have a1:=((g.hi i x' Qk).unit v z hz).aO p hp |>.2.1
  have b1:=(ui.aO q hq).2.1;rw[(g.hi i x' Qk).hid]at a1;rw[h.hid]at b1;have e:q.1.id=p.1.id:=e;exact gh ae
end
section
variable {c kb n:Nat} {W:Wo} {C0:Nat->Ho} {T:List Ms}
theorem nT{W:Wo}{k:Nat}{x:Ho×Dk}(i:Nat):(W.cy k x).H i=if i=k/\k<W.hs.length then x.1 else W.H i:=by
 unfold Wo.H Wo.at' Wo.cy;dsimp only;rw[aq,aq,List.getElem?_set];by_cases e:k=i
 ·subst e;by_cases h:k<W.hs.length
  ·rw[if_pos rfl,if_pos h,if_pos ⟨rfl,h⟩];rfl
  ·rw[if_pos rfl,if_neg h,if_neg (fun x=>h x.2),bH ae]
 ·rw[if_neg e,if_neg (fun x=>e x.1.symm)]
def fy (W W':Wo):Prop:= ∀i,(W'.H i).aA=(W.H i).aA
theorem fy.refl(W:Wo):fy W W:=fun _=>rfl
theorem fy.trans{A B C:Wo}(h:fy A B)(g:fy B C):fy A C:=fun i=>(g i).trans (h i)
theorem fy.set{k:Nat}{x:Ho×Dk}(h:x.1.aA=(W.H k).aA):fy W (W.cy k x):=fun i=>by
 rw[nT];split
 ·rename_i h1;rw[h1.1];exact h
 ·rfl
theorem fy.hs{W W':Wo}(h:W'.hs=W.hs):fy W W':=fun i=>by unfold Wo.H Wo.at';rw[h]
theorem fy.Pb(W:Wo)(g:Gm):fy W (tx W g):=fy.hs (Ig _ _)
theorem fy.Dm(W:Wo)(dst:Int)(f:Fr)(l:List Ms):fy W (j0 W dst f l):=fy.hs (xr _ _ _ _)
theorem fy.se(W:Wo)(k dst:Int):fy W (DK W k dst):=by
 unfold DK;split
 ·have h1:fy W (q_ W k dst):=by unfold q_;exact fy.set (uC _ _ _)
  split
  ·exact h1.trans (fy.Dm _ _ _ _)
  ·exact h1
 ·exact fy.refl W
theorem fy.cm(W:Wo)(g:Gm):fy W (E9 W g):=by
 unfold E9;split
 ·exact fy.set (uB _ _ _ _)
 ·split
  ·exact(fy.set (qp _ _ _ _ _)).trans (fy.Dm _ _ _ _)
  ·exact fy.set (qp _ _ _ _ _)
theorem fy.out(W:Wo)(i:Nat):fy W (qx W i):=fy.hs rfl
theorem fy.de(W:Wo)(i:Int):fy W (v7 W i):=by
 unfold v7;split
 ·exact(fy.out W _).trans (fy.cm _ _)
 ·exact fy.refl W
theorem fy.lo(W:Wo)(i:Int):fy W (Qb W i):=by
 unfold Qb;split
 ·exact fy.out W _
 ·exact fy.refl W
theorem fy.tw(W:Wo)(i:Int):fy W (Pm W i):=by
 unfold Pm;split
 ·exact fy.Pb _ _
 ·exact fy.refl W
theorem fy.kD:∀(f:Nat) (W:Wo),fy W (kD f W)
 |0,W=>fy.refl W
 |f+1,W=>by
  unfold WB.kD;split
  ·exact fy.refl W
  ·exact(fy.de W 0).trans (fy.kD f _)
theorem fy.Zb(W:Wo):fy W (oT W):=fy.kD _ W
theorem fy.qo(W:Wo)(k dst:Nat):fy W (qo W k dst):=by
 unfold WB.qo;split
 ·exact(fy.se W k dst).trans (fy.Zb _)
 ·exact fy.se W k dst
theorem fy.fold{α:Type}{f:Wo->α->Wo}(h:∀W a,fy W (f W a)):∀(l:List α) (W:Wo),fy W (l.foldl f W)
 |[],W=>fy.refl W
 |a::l,W=>by rw[List.foldl_cons];exact(h W a).trans (fy.fold h l _)
theorem fy.y_(m:Nat)(W:Wo)(k:Nat):fy W (y_ m W k):=fy.fold (fun W a=>fy.qo W k a) _ W
theorem GI.cut(g:GI n W C0 T){k:Nat}(hk:k<n)(t m:Int):GI n (W.cy k ({W.H k with cZ:=t},cu (W.D k) m)) C0 T:=by
 obtain⟨x,hx,e1,e2,h⟩:=g.at hk;rw[e1,e2];exact g.same ((h.cZ t).cut m) (g.jk k x hx) (g.aA hx rfl)
theorem GI.Zi(g:GI n W C0 T){k:Nat}(hk:k<n)(m:Int):GI n (W.cy k (W.H k,cu (W.D k) m)) C0 T:=by
 obtain⟨x,hx,e1,e2,h⟩:=g.at hk;rw[e1,e2];exact g.same (h.cut m) (g.jk k x hx) (g.aA hx rfl)
theorem GI.AJ(g:GI n W C0 T){k:Nat}(hk:k<n):GI n (AJ W k) C0 T/\((AJ W k).H k).aA=List.replicate 5 ⟨[],[]⟩:=by
 obtain⟨x,hx,e1,e2,h⟩:=g.at hk;unfold WB.AJ;rw[e2];have h1:=(h.cut (-1)).L5;rw[(h.cut (-1)).opened];have hu:=h.BR;refine⟨g.same h1 (by rw[h.names];exact g.jk k x hx) (fun u y hy p hp=>?_),?_⟩
 ·rw[hu]at hy;have :=List.eq_of_mem_replicate (ax hy);subst this;cases hp
 ·rw[nT,if_pos ⟨rfl,by rw[g.hn];exact hk⟩];exact hu
theorem Jw{k d:Int}(h:F6 W k d=0):W.is k=true/\W.is d=true/\uD (W.H k.toNat) (W.D k.toNat) d=0:=by
 unfold F6 at h;split at h
 ·rename_i h1;exact⟨h1.1,h1.2,h⟩
 ·cases h
theorem KG{H:Ho}{D:Dk}{a:Int}(h:uD H D a=0):mI H a=0/\(fu H a=true->dV H D=0):=by
 unfold uD at h;by_cases h1:mI H a≠0
 ·rw[if_pos h1]at h;exact absurd h h1
 ·rw[if_neg h1]at h;refine⟨by simpa using h1,fun h2=>?_⟩;rw[if_pos h2]at h;exact h
theorem Hc{H:Ho}{a:Int}(h:mI H a=0):cb H a=true:=by
 unfold mI at h;split at h
 ·cases h
 ·rename_i h1;simpa using h1
theorem Ry{H0 H:Ho}{D:Dk}{k m:Nat}(h:HI k H D H0)(hB:cF m H){d:Nat}(hd:d<4):((cT (H.iq d)).filter (MO (cn H d))).Perm (rI (ny H0) d):=by
 rw[<-Yk hB.ways hd];unfold rI;refine(h.o7.filter _).map _ |>.trans (List.Perm.of_eq ?_)
 have e:cn H0 d=cn H d:=by unfold cn;rw[h.bt]
 congr 2;funext y;unfold pK MO;rw[show(ny H0).bt d=cn H0 d from rfl,e];rfl
theorem GI.se(g:GI n W C0 T)(hw:dC c kb W)(hK:kb<=1000000000000)(k d:Int):∃C1,GI n (DK W k d) C1 T:=by
 unfold DK;split
 ·rename_i hh;have hk:=qZ hh.1;have hd:=qZ hh.2;have hn:=g.hn;have vX:=hw.n1;obtain⟨x,hx,e1,e2,h⟩:=g.at (k:=k.toNat) ae;have hb:=hw.hs _ x hx;have qR:=hb.bt d;have pA:=g.jk _ x hx;have zY:((k.toNat:Nat):Int)=k:=by omega
  have hdd:((d.toNat:Nat):Int)=d:=by omega
  have QP:d.toNat<4:=by omega
  have key:∃C1,GI n (q_ W k d) C1 T/\HI k.toNat (mJ x.1 x.2 d) (tk x.1 x.2 d) (C1 k.toNat)/\(∀i,i≠k.toNat->C1 i=C0 i):=by
   unfold q_;rw[e1,e2];by_cases hN:fu x.1 d=true/\dV x.1 x.2=0
   ·obtain⟨H3,h1,h2,h3,h4,h5,h6,h7,h8,-⟩:=h.made hb hN.1 hN.2;have hr:=bX.1 (mr hN.1).1;have h0:cn (C0 k.toNat) d.toNat=[]:=by
     have :=(mr hN.1).2.2.1;unfold cn at this ⊢;rw[h.bt];exact this
    have Db:=(h.B0 hb ae hK).1;have SO:=GC.made (c:=ny H3) g.gc (k:=k.toNat) (d:=d.toNat) ae ae (by have :=h.hid;omega) QP h7 h0 h8 (by unfold ny;rw[h2];rfl)
     (fun b=>by show cn H3 b=_;unfold cn;rw[h3,jn (by rw[Db.batch];exact QP)];rfl)
     (fun b=>by show dz H3 b=_;unfold dz;rw[h4,jn (by rw[Db.cg];exact QP)];rfl)
     (by show dc H3=dc (C0 k.toNat);funext b;unfold dc;rw[h5]) h6
    refine⟨zP C0 k.toNat H3,g.set h1 SO (by rw[BE];exact pA) (g.aA hx (uC _ _ _)) (fun i x _ hx=>g.fresh i x hx),?_,fun i hi=>?_⟩
    ·unfold zP;rw[if_pos rfl];exact h1
    ·unfold zP;rw[if_neg hi]
   ·have h1:=h.XF hb (a:=d) (by
     by_cases h2:fu x.1 d=true
     ·exact .inr fun h3=>hN ⟨h2,h3⟩
     ·exact .inl Xi)
    exact⟨C0,g.same h1 (by rw[BE];exact pA) (g.aA hx (uC _ _ _)),h1,fun _ _=>rfl⟩
  obtain⟨C1,g1,h1,hC⟩:=key;split
  ·rename_i WC;obtain⟨-,-,SX⟩:=Jw WC;rw[e1,e2]at SX;obtain⟨hp,-⟩:=KG SX;have hr:=bX.1 (Hc hp);have gh:k.toNat≠d.toNat:=by have :=h.hid;omega
   refine⟨C1,g1.Dm ⟨k.toNat,d.toNat,zY.symm,hdd.symm,by omega,by omega,gh,(fun hh=>by cases hh),fun _=>?_⟩⟩;dsimp only;rw[e1,e2];have hN:I6 x.1 x.2 d=dz (C1 k.toNat) d.toNat:=by
    unfold I6;rw[if_pos SX];unfold dz;rw[h1.sn]
   have hL:(Ab x.1 x.2 d).Perm (rI (ny (C1 k.toNat)) d.toNat):=by
    unfold Ab;rw[if_pos SX];exact Ry h1 qR.B QP
   rw[hN];refine⟨Int.le_refl _,fun _ h2=>⟨fun h3=>?_,hL⟩⟩;have :=(g1.gc.pr k.toNat d.toNat ae ae gh).2.2 h3;have h2:dc (C1 d.toNat) k.toNat<dz (C1 k.toNat) d.toNat:=h2;have this:dc (C1 d.toNat) k.toNat=dz (C1 k.toNat) d.toNat:=this;omega
  ·exact⟨C1,g1⟩
 ·exact⟨C0,g⟩
theorem GI.cm(g:GI n W C0 T)(hw:dC c kb W)(hK:kb<=1000000000000){m:Gm}(hm:K8 n (CC C0) m)(X_:GmB W.hs.length m):∃C1,GI n (E9 W m) C1 T:=by
 obtain⟨a,b,f1,f2,ha,hb,vu,f3,f4⟩:=hm.ok;have hn:=g.hn;have vX:=hw.n1;have hbn:m.dto.toNat=b:=by rw[f2];rfl
 have han:m.f.ik.toNat=a:=by rw[f1];rfl
 obtain⟨x,hx,e1,e2,h⟩:=g.at (k:=b) hb;have hxb:=hw.hs _ x hx;have pA:=g.jk _ x hx;have Db:=(h.B0 hxb ae hK).1;have ha4:a<4:=by omega
 unfold E9;rw[hbn,e1,e2];split
 ·rename_i hack;by_cases hc:lX x.1 m.f.ik m.f.num=0/\dV x.1 x.2=0
  ·obtain⟨q1,-,q3,q4⟩:=rG hc.1;obtain⟨H3,h1,h2,h3,h4,h5,h6⟩:=h.known hxb ae hK hc.1 hc.2;rw[han]at h2 h3 q3 q4;have hfa:=f3 hack;have ebt:cn (C0 b) a=cn x.1 a:=by unfold cn;rw[h.bt]
   have esn:dz (C0 b) a=dz x.1 a:=by unfold dz;rw[h.sn]
   have SO:=GC.known (c:=ny H3) g.gc (k:=b) (d:=a) hb ha (fun e=>vu e.symm) ae (by show cn (C0 b) a≠[];rw[ebt];exact q3) (by show dz (C0 b) a<=dc (C0 a) b;have :m.f.num<=dc (C0 a) b:=hfa;omega) h2
    (fun d=>by show cn H3 d=_;unfold cn;rw[h3,jn (by rw[Db.batch];exact ha4)];rfl)
    (by show dz H3=dz (C0 b);funext d;unfold dz;rw[h4]) (by show dc H3=dc (C0 b);funext d;unfold dc;rw[h5]) h6
   exact⟨_,g.set h1 SO (by rw[BB];exact pA) (g.aA hx (uB _ _ _ _)) (fun i x _ hx=>g.fresh i x hx)⟩
  ·have h1:=h.T7 (a:=m.f.ik) (num:=m.f.num) (by
    by_cases h2:lX x.1 m.f.ik m.f.num=0
    ·exact .inr fun h3=>hc ⟨h2,h3⟩
    ·exact .inl h2)
   exact⟨C0,g.same h1 (by rw[BB];exact pA) (g.aA hx (uB _ _ _ _))⟩
 ·rename_i hack;have hack:m.f.zk=false:=by simpa using hack
  obtain⟨f5,f6⟩:=f4 hack;have hl:m.l.length<=250:=by have :=X_.ok;unfold okF at this;omega
  have key:∃C1,GI n (W.cy b (rL x.1 x.2 m.f.ik m.f.num m.l,sY x.1 x.2 m.f.ik m.f.num m.l)) C1 T/\HI b (rL x.1 x.2 m.f.ik m.f.num m.l) (sY x.1 x.2 m.f.ik m.f.num m.l) (C1 b):=by
   by_cases hc:Dg x.1 m.f.ik m.f.num m.l=true/\dV x.1 x.2=0
   ·obtain⟨q1,-,q3,-⟩:=uG hc.1;obtain⟨H3,P,h1,h2,h3,h4,h5,h6,h7,h8,-⟩:=h.NQ hxb ae hK hl hc.1 hc.2;rw[han]at h7 q3;have eav:dc (C0 b) a=dc x.1 a:=by unfold dc;rw[h.av]
    have Qy:=g.gc.pr a b ha hb vu;have p1:dc (C0 b) a<=dz (C0 a) b/\dz (C0 a) b<=dc (C0 b) a+1:=⟨Qy.1,Qy.2.1⟩;have f5':m.f.num<=dz (C0 a) b:=f5;have C_:dz (C0 a) b=dc (C0 b) a+1:=by omega
    obtain⟨q5,q6⟩:=f6 (show m.f.num=dz (C0 a) b by omega) (show dc (C0 b) a<m.f.num by omega);have SO:=GC.NQ (c:=ny H3) g.gc (k:=a) (d:=b) ha hb vu ae h3 q5 C_ (by rw[h2];exact q6) h4
     (by
      have :=h1.Gv;unfold ny
      rw[List.map_map];exact this)
     (by show cn H3=cn (C0 b);funext d;unfold cn;rw[h5]) (by show dz H3=dz (C0 b);funext d;unfold dz;rw[h6])
     (fun d=>by show dc H3 d=_;unfold dc;rw[h7,jn (by rw[Db.aM];exact ha4)];rfl) h8
    refine⟨_,g.set h1 SO (by rw[BJ];exact pA) (g.aA hx (qp _ _ _ _ _)) (fun i x _ hx=>g.fresh i x hx),?_⟩;unfold zP;rw[if_pos rfl];exact h1
   ·have h1:=h.Zn (a:=m.f.ik) (num:=m.f.num) hl (by
     by_cases h2:Dg x.1 m.f.ik m.f.num m.l=true
     ·exact .inr fun h3=>hc ⟨h2,h3⟩
     ·exact .inl Xi)
    exact⟨C0,g.same h1 (by rw[BJ];exact pA) (g.aA hx (qp _ _ _ _ _)),h1⟩
  obtain⟨C1,g1,h1⟩:=key;split
  ·rename_i GU;refine⟨C1,g1.Dm ⟨b,a,f2,f1,hb,ha,fun e=>vu e.symm,fun _=>?_,fun hh=>by cases hh⟩⟩;dsimp only
   show sX x.1 x.2 m.f.ik m.f.num m.l<=dc (C1 b) a
   unfold sX;rw[if_pos GU,han];unfold dc;rw[h1.av];exact Int.le_refl _
  ·exact⟨C1,g1⟩
theorem GI.de(g:GI n W C0 T)(hw:dC c kb W)(hK:kb<=1000000000000)(i:Int):∃C1,GI n (v7 W i) C1 T:=by
 unfold v7;split
 ·rename_i h0;obtain⟨h1,h2⟩:=Ie h0;have hm:=ax (oi (W:=W) (i:=i.toNat) ae);exact(g.out i.toNat).cm (hw.out i.toNat) hK (g.gc.fr _ hm) (hw.dQ _ hm)
 ·exact⟨C0,g⟩
theorem GI.lo(g:GI n W C0 T)(i:Int):GI n (Qb W i) C0 T:=by
 unfold Qb;split
 ·exact g.out _
 ·exact g
theorem GI.tw(g:GI n W C0 T)(i:Int):GI n (Pm W i) C0 T:=by
 unfold Pm;split
 ·rename_i h0;obtain⟨h1,h2⟩:=Ie h0;have hm:=ax (oi (W:=W) (i:=i.toNat) ae);exact g.Pb (g.gc.fr _ hm)
 ·exact g
theorem GI.kD:∀(f:Nat) {kb:Nat} {W:Wo} {C0:Nat->Ho},GI n W C0 T->dC c kb W->kb+2*f<=1000000000000->∃C1,GI n (kD f W) C1 T
 |0,_,_,C0,g,_,_=>⟨C0,g⟩
 |f+1,kb,W,C0,g,hw,hK=>by
  unfold WB.kD;split
  ·exact⟨C0,g⟩
  ·obtain⟨C1,g1⟩:=g.de hw ae 0;exact GI.kD f g1 (hw.de 0) ae
theorem GI.Zb(g:GI n W C0 T)(hw:dC c kb W)(hK:kb+400<=1000000000000):∃C1,GI n (oT W) C1 T:=g.kD _ hw (by have :=BN hw;omega)
theorem GI.qo(g:GI n W C0 T)(hw:dC c kb W)(hK:kb+402<=1000000000000)(k d:Nat):∃C1,GI n (qo W k d) C1 T:=by
 obtain⟨C1,g1⟩:=g.se hw ae k d;unfold WB.qo;split
 ·exact g1.Zb (hw.se k d) ae
 ·exact⟨C1,g1⟩
theorem GI.fold{α:Type}{f:Wo->α->Wo}{b:Nat}(h:∀W a kb C0,GI n W C0 T->dC c kb W->kb+b<=1000000000000->dC c (kb+b) (f W a)/\∃C1,GI n (f W a) C1 T):∀(l:List α) {kb:Nat} {W:Wo} {C0:Nat->Ho},GI n W C0 T->dC c kb W->kb+b *l.length<=1000000000000->∃C1,GI n (l.foldl f W) C1 T
 |[],_,_,C0,g,_,_=>⟨C0,g⟩
 |a::l,kb,W,C0,g,hw,hK=>by
  rw[List.length_cons,Nat.mul_succ]at hK;obtain⟨h1,C1,g1⟩:=h W a kb C0 g hw ae;rw[List.foldl_cons];exact GI.fold h l g1 h1 ae
theorem GI.y_(g:GI n W C0 T)(hw:dC c kb W)(hK:kb+1608<=1000000000000)(k:Nat){m:Nat}(hm:m<=4):∃C1,GI n (y_ m W k) C1 T:=
 g.fold (f:=fun W d=>WB.qo W k d) (b:=402) (fun W a kb C0 g hw hK=>⟨hw.qo k a,g.qo hw hK k a⟩) (List.range m) hw Y27
theorem GI.oo(g:GI n W C0 T){k:Nat}(hk:k<n):GI n (oo W k) C0 T:=by
 unfold WB.oo;have g1:=g.Zi hk (-1);split
 ·exact(g1.AJ hk).1
 ·exact g1
theorem GI.Ha:∀(l:List Nat) {W:Wo},GI n W C0 T->(∀k∈l,k<n)->GI n (l.foldl WB.oo W) C0 T
 |[],_,g,_=>g
 |k::l,W,g,h=>GI.Ha l (g.oo (h k aj)) fun j hj=>h j (by simp[hj])
theorem GI.zK(g:GI n W C0 T)(hw:dC c kb W)(hK:kb+400<=1000000000000):∃C1,GI n (zK W) C1 T:=by
 have hn:=g.hn;unfold WB.zK;exact(GI.Ha _ g fun k hk=>by rw[<-hn];exact aZ.1 hk).Zb (dC.Ha ae _ W hw fun k hk=>aZ.1 hk) ae
theorem GI.y9(g:GI n W C0 T)(hw:dC c kb W)(hK:kb+10000<=1000000000000):∃C1,GI n (y9 W) C1 T:=by
 have hn:=hw.n1;obtain⟨C1,g1⟩:=g.zK hw ae;unfold WB.y9;exact g1.fold (b:=1608) (fun W' a Lc C0 g hw hK=>⟨hw.y_ a hn.2,g.y_ hw hK a hn.2⟩) (List.range W.hs.length) (hw.zK ae) Y27
theorem GI.calm:∀(r:Nat) {kb:Nat} {W:Wo} {C0:Nat->Ho},GI n W C0 T->dC c kb W->kb+10000*r<=1000000000000->∃C1,GI n (calm r W) C1 T/\dC c (kb+10000*r) (calm r W)
 |0,_,_,C0,g,hw,_=>⟨C0,g,hw⟩
 |r+1,kb,W,C0,g,hw,hK=>by
  rw[Nat.mul_succ]at hK ⊢;have hz:∀z:Nat,kb+(z+10000)<=1000000000000->kb+10000<=1000000000000/\kb<=1000000000000/\kb+10000+z<=1000000000000/\kb+10000+z<=kb+(z+10000):=fun z h=>by omega
  obtain⟨hK1,hK2,hK3,hK4⟩:=hz _ hK;obtain⟨C1,g1⟩:=g.y9 hw hK1;have tg:=hw.y9 hK2;obtain⟨C2,g2,h2⟩:=GI.calm r g1 tg hK3;exact⟨C2,g2,h2.mono (aF _) hK4⟩
theorem Kz(g:GI n W C0 T){k:Nat}(hk:k<n)(i:Nat):((oo W k).H i).aA=if i=k/\(W.H k).down=true then List.replicate 5 ⟨[],[]⟩else(W.H i).aA:=by
 have hn:=g.hn;unfold WB.oo;have u1:fy W (W.cy k (W.H k,cu (W.D k) (-1))):=fy.set rfl;split
 ·rename_i hd;by_cases e:i=k
  ·subst e;rw[if_pos ⟨rfl,hd⟩];exact((g.Zi hk (-1)).AJ hk).2
  ·rw[if_neg (fun x=>e x.1)];unfold AJ;rw[nT,if_neg (fun x=>e x.1)];exact u1 i
 ·rename_i hd;rw[if_neg (fun x=>hd x.2)];exact u1 i
theorem NL{k:Nat}(i:Nat)(hi:i≠k):((oo W k).H i).down=(W.H i).down:=by
 unfold WB.oo;split
 ·unfold AJ;rw[nT,if_neg (fun x=>hi x.1),nT,if_neg (fun x=>hi x.1)]
 ·rw[nT,if_neg (fun x=>hi x.1)]
theorem zb:∀(l:List Nat) {W:Wo},GI n W C0 T->(∀k∈l,k<n)->l.Nodup->∀i,((l.foldl WB.oo W).H i).aA=if i∈l/\(W.H i).down=true then List.replicate 5 ⟨[],[]⟩else(W.H i).aA
 |[],_,_,_,_,i=>by simp
 |k::l,W,g,h,sK,i=>by
  rw[bJ]at sK;rw[List.foldl_cons,zb l (g.oo (h k aj)) (fun j hj=>h j (by simp[hj])) sK.2 i,Kz g (h k aj) i];by_cases e:i=k
  ·subst e;rw[if_neg (fun x=>sK.1 x.1)];simp
  ·rw[NL i e];by_cases hd:(W.H i).down=true<;>by_cases hm:i∈l<;>simp[e,hd,hm]
theorem Ky(g:GI n W C0 T){i:Nat}(hi:i<n):((y9 W).H i).aA=if(W.H i).down=true then List.replicate 5 ⟨[],[]⟩else(W.H i).aA:=by
 have hn:=g.hn;unfold WB.y9;rw[fy.fold (fun W a=>fy.y_ _ W a) _ _ i];unfold WB.zK;rw[fy.Zb _ i,zb _ g (fun k hk=>by rw[<-hn];exact aZ.1 hk) List.nodup_range i];have :i∈List.range W.hs.length:=aZ.2 ae;simp[this]
end
open Go Go.RowKit
structure Ia where
 vH:Int
 k:Int
 n:Int
 m:Int
 unit:Int
def nB (x:Ia):List Value:=[.int .i64 x.vH,.int .i64 x.k,.int .i64 x.n,.int .i64 x.m,.int .i64 x.unit]
def iC (x:Int):List Value:=[.int .i64 x]
structure Hs where
 i:Nat
 bh:Nat
 H:Ho
 H0:Ho
 D:Dk
 R:List ak
 T:List Int
 us:List Value
 P:List (List Int)
 vs:List Value
 G:List (List Int)
structure ah_ (c:Nat) (s:Hs):Prop where
 L:dU LB 0 c s.H s.H0 s.D s.R s.T (fun u=>s.P.getD u []) (fun u=>s.G.getD u [])
 us:s.us.length=5
 P:s.P.length=5
 vs:s.vs.length=5
 G:s.G.length=5
def qOf (k:Nat):ak:=if k=0 then gU else gK
theorem kM.put{c kb k:Nat}{x:Ho×Dk}(h:kM c kb k x)(u:Int)(s:ak)(pri:Int)(body:ak)(hm:∀y∈x.1.aA,y.aO.length+y.bf.length<=600):kM (c+1) kb k (gv x.1 u s pri body,x.2):=by
 by_cases he:gY x.1 u s pri body=0
 ·obtain⟨kB,vV,zW,-⟩:=L9 he;obtain⟨hj,-,-⟩:=tK h.B kB;have hB:=h.B.put u s pri body;have e1:gv x.1 u s pri body=cM {x.1.eo (jV x.1 s) (cP (x.1.r4 (jV x.1 s)) (eA x.1 s pri body) u)with next:=x.1.next+1} u.toNat ⟨(x.1.fa u.toNat).aO++[(eA x.1 s pri body,(jA x.1 s).2.1)],(x.1.fa u.toNat).bf⟩:=by
   unfold gv;rw[if_pos he];unfold mA;rw[if_pos vV]
  rw[e1]at hB ⊢;refine⟨(wL _ _).trans h.id,hB.le (by show _<=300+(c+1)+250*(x.1.eo _ _).used;rw[mU];omega),h.len,h.left,h.size,h.lQ,fun y hy=>?_,?_,?_⟩
  ·have hy:y∈(x.1.eo (jV x.1 s) (cP (x.1.r4 (jV x.1 s)) (eA x.1 s pri body) u)).aA.set u.toNat ⟨(x.1.fa u.toNat).aO++[(eA x.1 s pri body,(jA x.1 s).2.1)],(x.1.fa u.toNat).bf⟩:=hy;rw[gG]at hy;rcases bj hy with h1|rfl
   ·exact⟨(h.aA y h1).1,by have :=(h.aA y h1).2;omega⟩
   ·rcases Nat.lt_or_ge u.toNat x.1.aA.length with hu|hu
    ·have h2:=fW h.B (u:=u.toNat) (by have :=h.B.aA;omega);have h3:=ax h2;obtain⟨a,b⟩:=h.aA _ h3;have h4:=hm _ h3;refine⟨⟨fun p hp=>?_,a.bf,by dsimp only;simp;omega⟩,by dsimp only;simp;omega⟩;rcases aH.1 hp with hp|hp
     ·exact a.aO p hp
     ·simp at hp;subst hp;exact zW
    ·have :(x.1.fa u.toNat)=⟨[],[]⟩:=by unfold Ho.fa;rw[aq,bH hu];rfl
     rw[this];refine⟨⟨fun p hp=>?_,(fun g hg=>by cases hg),by simp⟩,by simp⟩;simp at hp;subst hp;exact zW
  ·refine WR.of (H:=x.1.eo (jV x.1 s) (cP (x.1.r4 (jV x.1 s)) (eA x.1 s pri body) u)) ?_ rfl;unfold Ho.eo;split
   ·rename_i h4;refine h.ways.iI fun e he=>?_
    rcases AK he with rfl|he
    ·exact zW
    ·rw[Zt h.B.ways h4]at he;exact h.ways.at' _ e he
   ·exact h.ways.of rfl
  ·have h1:(x.1.eo (jV x.1 s) (cP (x.1.r4 (jV x.1 s)) (eA x.1 s pri body) u)).aK.length=x.1.aK.length:=AE _ _;have h2:(x.1.eo (jV x.1 s) (cP (x.1.r4 (jV x.1 s)) (eA x.1 s pri body) u)).used=x.1.used:=mU _ _
   show(x.1.eo _ _).aK.length<=2+(x.1.eo _ _).used
   rw[h1,h2];exact h.ql
 ·have :gv x.1 u s pri body=x.1:=by unfold gv;rw[if_neg he]
  rw[this];exact h.mono (Nat.le_succ c) (aF _)
theorem U6{H:Ho}{u:Int}{s:ak}(he:iU H u s=0):∃i,H.qI s=some i/\hI (H.dP i)=0/\H.down=false/\(s=cz\/fb H.names s=true):=by
 have h0:=he;unfold iU at h0;split at h0
 ·cases h0
 ·cases hq:H.qI s with
  |none=>rw[hq]at h0;cases h0
  |some i=>
   rw[hq]at h0;dsimp only at h0;split at h0
   ·cases h0
   ·rename_i h1;split at h0
    ·cases h0
    ·rename_i h2;refine⟨i,rfl,h0,by simpa using h2,?_⟩;by_cases hd:s=cz
     ·exact .inl hd
     ·cases hl:fb H.names s with
      |true=>exact .inr rfl
      |false=>exact absurd ⟨hd,hl⟩ h1
theorem kM.get{c kb k:Nat}{x:Ho×Dk}(h:kM c kb k x)(u:Int){s:ak}(hs:c6 s=true)(hm:∀y∈x.1.aA,y.aO.length+y.bf.length<=600):kM (c+1) kb k (g_ x.1 u s,x.2):=by
 by_cases he:iU x.1 u s=0
 ·obtain⟨i,A3,vV,-,-⟩:=U6 he;have hB:=h.B.get u s;obtain⟨q,Nd⟩:∃q,oB (x.1.dP i)=some q:=by
   unfold hI at vV;split at vV
   ·cases vV
   ·rename_i q Ba;exact⟨q,Ba⟩
  obtain⟨ru,-,-⟩:=List.findIdx?_eq_some_iff_getElem.1 Nd;have Co:gI (x.1.dP i)=((x.1.dP i).l[q]).m:=by unfold gI;rw[Nd];dsimp only;rw[iE (ao ru)]
  have lV:=(h.B.qa (ji A3).1).ids _ (List.getElem_mem ru);rw[<-Co]at lV;have e1:g_ x.1 u s=cM (x.1.eP i (fT (x.1.dP i) u)) u.toNat ⟨(x.1.fa u.toNat).aO,(x.1.fa u.toNat).bf++[((gI (x.1.dP i)).id,s)]⟩:=by
   unfold g_;rw[if_pos he,A3];rfl
  rw[e1]at hB ⊢;refine⟨h.id,hB.le (by show _<=300+(c+1)+250*x.1.used;omega),h.len,h.left,h.size,h.lQ,fun y hy=>?_,h.ways.of rfl,by show(x.1.eP _ _).aK.length<=_;rw[xK];exact h.ql⟩;have hy:y∈x.1.aA.set u.toNat ⟨(x.1.fa u.toNat).aO,(x.1.fa u.toNat).bf++[((gI (x.1.dP i)).id,s)]⟩:=hy;rcases bj hy with h1|rfl
  ·exact⟨(h.aA y h1).1,by have :=(h.aA y h1).2;omega⟩
  ·rcases Nat.lt_or_ge u.toNat x.1.aA.length with hu|hu
   ·have h2:=fW h.B (u:=u.toNat) (by have :=h.B.aA;omega);have h3:=ax h2;obtain⟨a,b⟩:=h.aA _ h3;have h4:=hm _ h3;refine⟨⟨a.aO,fun g hg=>?_,by dsimp only;simp;omega⟩,by dsimp only;omega⟩;rcases aH.1 hg with hg|hg
    ·exact a.bf g hg
    ·simp at hg;subst hg;exact⟨lV.1,lV.2,hs⟩
   ·have :(x.1.fa u.toNat)=⟨[],[]⟩:=by unfold Ho.fa;rw[aq,bH hu];rfl
    rw[this];refine⟨⟨(fun p hp=>by cases hp),fun g hg=>?_,by simp⟩,by simp⟩;simp at hg;subst hg;exact⟨lV.1,lV.2,hs⟩
 ·have :g_ x.1 u s=x.1:=by unfold g_;rw[if_neg he]
  rw[this];exact h.mono (Nat.le_succ c) (aF _)
theorem kM.bk{c kb k:Nat}{x:Ho×Dk}(h:kM c kb k x)(u:Int):kM c kb k (rH x.1 u,x.2):=by
 have hB:=h.B.bk u;unfold rH at hB ⊢;split
 ·rename_i h0;rw[if_pos h0]at hB;refine⟨h.id,hB.le (by show _<=300+c+250*x.1.used;omega),h.len,h.left,h.size,h.lQ,fun y hy=>?_,fun q hq=>?_,by show(cK x.1 u).aK.length<=2+x.1.used;unfold cK;simpa using h.ql⟩
  ·have hy:y∈x.1.aA.set u.toNat cN:=hy;rcases bj hy with h1|rfl
   ·exact h.aA y h1
   ·exact⟨⟨(fun p hp=>by cases hp),(fun g hg=>by cases hg),by decide⟩,aV _⟩
  ·have hq:q∈x.1.ways.map fun q=>c8 q u true:=hq
   obtain⟨q0,h1,rfl⟩:=ay.1 hq;intro e he;unfold c8 at he;split at he
   ·exact h.ways q0 h1 e he
   ·obtain⟨e0,h2,rfl⟩:=ay.1 he;exact h.ways q0 h1 e0 (aB.1 h2).1
 ·exact h
theorem kM.cm{c kb k:Nat}{x:Ho×Dk}(h:kM c kb k x)(hc:c<=240){u:Nat}(hu:u<5):kM c (kb+1) k (oU x.1 x.2 u,qn x.1 x.2 u):=by
 have lN:=fW h.B hu;have XS:=ax lN;obtain⟨zE,WH⟩:=h.aA _ XS;have lE:fF 250 (ku (x.1.fa u)):=zE.TH ae;have hw:=h.write lE (sW zE);by_cases h1:lI x.1 u≠0
 ·unfold oU qn;rw[if_pos h1,if_pos h1];exact h.mono (aF _) (Nat.le_succ _)
 by_cases h2:dV x.1 x.2≠0
 ·unfold oU qn;rw[if_neg h1,if_neg h1,if_pos h2,aE];unfold oJ at hw;rw[if_neg h2]at hw;exact hw
 have hB:=h.B.cm (D:=x.2) (u:Int) fun y hy=>(h.aA y hy).1
 have iy:=qm (H:=x.1) (D:=x.2) (u:Int);have h1':lI x.1 u=0:=by simpa using h1
 have h2':dV x.1 x.2=0:=by simpa using h2
 have he:vA x.1 x.2 u=0:=by unfold vA;rw[if_neg h1];exact h2'
 rw[if_pos he,aE]at iy;rw[aE]at hB;have eD:qn x.1 x.2 u=fY x.1 x.2 (ku (x.1.fa u)):=by unfold qn;rw[if_neg h1,aE]
 have eH:oU x.1 x.2 u=(eI (cM (cK (dD x.1 x.2) u) u cN) (nY (x.1.fa u))).1:=by
  unfold oU;rw[if_neg h1,if_neg h2,aE]
 obtain⟨eL,-,-,-⟩:=jJ h2' (ku (x.1.fa u));have eU:(oU x.1 x.2 u).used=x.1.used+1:=by
  rw[eH,(og _ _).used,eL];rfl
 refine⟨?_,hB.le (by dsimp only;rw[eU];omega),by dsimp only;rw[eD];exact hw.len,by dsimp only;rw[eD];exact hw.left,by dsimp only;rw[eD];exact hw.size,by dsimp only;rw[eD];exact hw.lQ,fun y hy=>?_,?_,?_⟩
 ·dsimp only;rw[eH,(og _ _).id,eL];exact h.id
 ·dsimp only at hy;rw[iy]at hy;rcases bj hy with h3|rfl
  ·exact h.aA y h3
  ·exact⟨⟨(fun p hp=>by cases hp),(fun g hg=>by cases hg),by decide⟩,aV _⟩
 ·dsimp only;rw[eH];refine ER ?_ _;intro q hq;have hq:q∈(dD x.1 x.2).ways.map fun q=>c8 q u true:=hq
  rw[AX]at hq;obtain⟨q0,h1,rfl⟩:=ay.1 hq;intro e he;unfold c8 at he;split at he
  ·exact h.ways q0 h1 e he
  ·obtain⟨e0,h2,rfl⟩:=ay.1 he;exact h.ways q0 h1 e0 (aB.1 h2).1
 ·dsimp only;rw[eU,eH,EO];have h3:(cM (cK (dD x.1 x.2) u) u cN).aK.length=x.1.aK.length:=by
   rw[eL];unfold cM cK;simp
  rw[h3];have :=h.ql;omega
theorem yL{κ β:Type}[DecidableEq κ]{m:List (κ×β)}(hn:(m.map (·.1)).Nodup){x:κ×β}(h:x∈m):en m x.1=some x.2:=by
 induction m with
 |nil=>cases h
 |cons y r ih=>
  rw[aJ,bJ]at hn;rcases aD.1 h with rfl|h
  ·rw[en,if_pos rfl]
  ·have gh:¬y.1=x.1:=fun e=>hn.1 (by rw[e];exact List.mem_map_of_mem (f:=(·.1)) h)
   rw[en,if_neg gh];exact ih hn.2 h
theorem DW{κ β:Type}[DecidableEq κ]{m:List (κ×β)}{k:κ}(h:k∉m.map (·.1))(v:β):fL m k v=m++[(k,v)]:=by
 induction m with
 |nil=>rfl
 |cons x r ih=>
  rw[aJ,aD,not_or]at h;rw[fL,if_neg fun e=>h.1 e.symm,ih h.2];rfl
theorem E6{κ β:Type}[DecidableEq κ]{m:List (κ×β)}(hn:(m.map (·.1)).Nodup)(k:κ):pH m k=m.filter fun x=> !decide (x.1=k):=by
 induction m with
 |nil=>rfl
 |cons x r ih=>
  rw[aJ,bJ]at hn;rw[pH,bT];by_cases e:x.1=k
  ·rw[if_pos e,if_neg (by simp[e]),bo.2];intro y hy;have :y.1≠k:=fun e2=>hn.1 (by rw[e,<-e2];exact List.mem_map_of_mem (f:=(·.1)) hy)
   simpa using this
  ·rw[if_neg e,if_pos (by simpa using e),ih hn.2]
structure pc where
 n:Nat
 W:Wo
 T:List (Int×Ms)
 P:List (List Ms)
 G:List (List Int)
 ks:List Int
 Ls:List (List Int)
 ok:Bool
def xS:ak:=⟨#[120]⟩
def uU (k:Nat):ak:=if k=0 then gU else if k=1 then gK else kS
def vP (ks:List Int) (x:Int):Option Nat:=ks.findIdx? fun k=>decide (k=x)
def D6 (ks:List Int) (x:Int):List Int:=match vP ks x with|some _=>ks|none=>ks++[x]
def D5 (ks:List Int) (Ls:List (List Int)) (x id:Int):List (List Int):=match vP ks x with|some i=>Ls.set i (Ls.getD i []++[id])|none=>Ls++[[id]]
structure OvS where
 T:List (Int×Ms)
 ks:List Int
 Ls:List (List Int)
def vO (k:Nat) (s:OvS) (m:Ms):OvS:=
 if m.ck≠(k:Int)then⟨fL s.T m.id m,D6 s.ks ((k:Int)*100+m.pri),D5 s.ks s.Ls ((k:Int)*100+m.pri) m.id⟩else⟨fL s.T m.id m,s.ks,s.Ls⟩
def K_ (s:List (Int×Ms)×Bool) (id:Int):List (Int×Ms)×Bool:=(pH s.1 id,s.2&&(en s.1 id).isSome)
def ix (k u:Nat):Nat:=k *5+u
def tC (S:pc) (k u:Nat):pc:=
 let o:=(S.P.getD (ix k u) []).foldl (vO k) ⟨S.T,S.ks,S.Ls⟩;let g:=(S.G.getD (ix k u) []).foldl K_ (o.T,S.ok)
 {S with T:=g.1,ks:=o.ks,Ls:=o.Ls,ok:=g.2,P:=S.P.set (ix k u) [],G:=S.G.set (ix k u) []}
def Ee {α:Type} (P:List (List α)) (k:Nat):List (List α):=(List.range 5).foldl (fun P u=>P.set (ix k u) []) P
def gD (S:pc) (k:Nat):pc:={S with P:=Ee S.P k,G:=Ee S.G k}
def nO (n k:Nat) (id pri:Int) (q:ak):Ms:=if q=kS then⟨id,pri,xS,gU,((k:Int)+1)%n⟩else⟨id,pri,xS,q,k⟩
def DF (S:pc) (k u:Nat) (q:ak) (pri:Int):pc:=
 let S1:={S with W:=S.W.cy k (gv (S.W.H k) u q pri xS,S.W.D k)}
 if gY (S.W.H k) u q pri xS=0 then {S1 with P:=S.P.set (ix k u) (S.P.getD (ix k u) []++[nO S.n k (sl (S.W.H k) u q pri xS) pri q])}else S1
def xD (S:pc) (k u:Nat) (q:ak):pc:=
 let m:=getM (S.W.H k) u q;let S1:={S with W:=S.W.cy k (g_ (S.W.H k) u q,S.W.D k)}
 if iU (S.W.H k) u q=0 then {S1 with ok:=S.ok&&decide ((en S.T m.id).getD lr=m),G:=S.G.set (ix k u) (S.G.getD (ix k u) []++[m.id])}else S1
def DG (S:pc) (k u:Nat):pc:=
 let S1:={S with W:=S.W.cy k (oU (S.W.H k) (S.W.D k) u,qn (S.W.H k) (S.W.D k) u)}
 if vA (S.W.H k) (S.W.D k) u=0 then tC S1 k u else S1
def LQ (S:pc) (k u:Nat):pc:=
 let S1:={S with W:=S.W.cy k (rH (S.W.H k) u,S.W.D k)}
 if BF (S.W.H k) u=0 then {S1 with P:=S.P.set (ix k u) [],G:=S.G.set (ix k u) []}else S1
def fH (S:pc) (k:Nat):pc:=if(S.W.H k).down=true then gD S k else S
def tD (S:pc):pc:={(List.range S.n).foldl fH S with W:=calm 1 S.W}
def Wr (S:pc) (x:Ia):Int:=if 0<S.W.dQ.length then pk x.n (S.W.dQ.length:Nat)else 0
def o5 (S:pc) (x:Ia):Nat:=(pk x.k (S.n:Nat)).toNat
def Ik (x:Ia):Nat:=(pk x.unit 5).toNat
def kt (S:pc) (x:Ia):pc:=
 if x.vH=0 then DF S (o5 S x) (Ik x) (uU (pk x.n 3).toNat) (pk x.m 3)
 else if x.vH=1 then xD S (o5 S x) (Ik x) (if pk x.m 5=0 then cz else uU (pk x.n 2).toNat)
 else if x.vH=2 then DG S (o5 S x) (Ik x)
 else if x.vH=3 then LQ S (o5 S x) (Ik x)
 else if x.vH=4 then {S with W:=DK S.W (o5 S x) (((o5 S x:Nat)+1)%(S.n:Int))}
 else if x.vH=5 then {S with W:=v7 S.W (Wr S x)}
 else if x.vH=6 then {S with W:=Qb S.W (Wr S x)}
 else if x.vH=7 then {S with W:=Pm S.W (Wr S x)}
 else if x.vH=8 then {S with W:=FZ S.W (o5 S x) (pk x.n 4) (pk x.m 150-1)}
 else if x.vH=9 then {gD S (o5 S x)with W:=OQ S.W (o5 S x)}
 else if x.vH=10 then tD S
 else S
section
variable {c kb n:Nat} {W W':Wo} {C0:Nat->Ho} {T T':List Ms}
theorem GI.perm(g:GI n W C0 T)(h:T.Perm T'):GI n W C0 T':=
 ⟨g.hn,g.hi,g.gc.perm h,fun k x hx u y hy p hp hm=>g.fresh k x hx u y hy p hp ((h.map _).mem_iff.2 hm),g.jk⟩
theorem p4{k:Nat}(h:k<W.hs.length):W.cy k (W.H k,W.D k)=W:=by
 unfold Wo.cy Wo.H Wo.D Wo.at';rw[aq,ao h]
 show({W with hs:=W.hs.set k (W.hs[k])}:Wo)=W
 rw[List.set_getElem_self]
def PT (W:Wo) (P:List (List Ms)):Prop:=P.length=20/\∀k u,k<4->u<5->P[ix k u]? =some (((W.H k).fa u).aO.map (·.1))
def GT (W:Wo) (G:List (List Int)):Prop:=G.length=20/\∀k u,k<4->u<5->G[ix k u]? =some (((W.H k).fa u).bf.map (·.1))
theorem k_{H H':Ho}(h:H'.aA=H.aA)(u:Nat):H'.fa u=H.fa u:=by unfold Ho.fa;rw[h]
theorem PT.same{P:List (List Ms)}(h:PT W P)(hu:fy W W'):PT W' P:=⟨h.1,fun k u hk Qp=>by rw[k_ (hu k)];exact h.2 k u hk Qp⟩
theorem GT.same{P:List (List Int)}(h:GT W P)(hu:fy W W'):GT W' P:=⟨h.1,fun k u hk Qp=>by rw[k_ (hu k)];exact h.2 k u hk Qp⟩
theorem wJ{W:Wo}{k i u v:Nat}{H':Ho}{D':Dk}{y:ox}(hk:k<W.hs.length)(hu:u<5)(h5:(W.H k).aA.length=5)(iy:H'.aA=(W.H k).aA.set u y):
 ((W.cy k (H',D')).H i).fa v=if i=k/\v=u then y else(W.H i).fa v:=by
 rw[nT];by_cases e:i=k
 ·subst e;rw[if_pos ⟨rfl,hk⟩];unfold Ho.fa;dsimp only;rw[iy,aq,aq,List.getElem?_set];by_cases e2:u=v
  ·rw[if_pos e2,if_pos ae,if_pos ⟨rfl,e2.symm⟩];rfl
  ·rw[if_neg e2,if_neg (fun x=>e2 x.2.symm)]
 ·rw[if_neg (fun x=>e x.1),if_neg (fun x=>e x.1)]
theorem tW{k u i v:Nat}(hu:u<5)(hv:v<5):ix i v=ix k u↔i=k/\v=u:=by unfold ix;omega
theorem PT.set{P:List (List Ms)}(h:PT W P){k u:Nat}(hk:k<W.hs.length)(oe:k<4)(hu:u<5){H':Ho}{D':Dk}{y:ox}(h5:(W.H k).aA.length=5)(iy:H'.aA=(W.H k).aA.set u y){l:List Ms}(hl:l=y.aO.map (·.1)):PT (W.cy k (H',D')) (P.set (ix k u) l):=by
 refine⟨by simpa using h.1,fun i v hi hv=>?_⟩;rw[wJ hk hu h5 iy,List.getElem?_set];by_cases e:i=k/\v=u
 ·rw[if_pos ((tW hu hv).2 e).symm,if_pos (by rw[h.1];unfold ix;omega),if_pos e,hl]
 ·rw[if_neg (fun x=>e ((tW hu hv).1 x.symm)),if_neg e];exact h.2 i v hi hv
theorem GT.set{P:List (List Int)}(h:GT W P){k u:Nat}(hk:k<W.hs.length)(oe:k<4)(hu:u<5){H':Ho}{D':Dk}{y:ox}(h5:(W.H k).aA.length=5)(iy:H'.aA=(W.H k).aA.set u y){l:List Int}(hl:l=y.bf.map (·.1)):GT (W.cy k (H',D')) (P.set (ix k u) l):=by
 refine⟨by simpa using h.1,fun i v hi hv=>?_⟩;rw[wJ hk hu h5 iy,List.getElem?_set];by_cases e:i=k/\v=u
 ·rw[if_pos ((tW hu hv).2 e).symm,if_pos (by rw[h.1];unfold ix;omega),if_pos e,hl]
 ·rw[if_neg (fun x=>e ((tW hu hv).1 x.symm)),if_neg e];exact h.2 i v hi hv
theorem PT.stay{P:List (List Ms)}(h:PT W P){k u:Nat}(hk:k<W.hs.length)(oe:k<4)(hu:u<5){H':Ho}{D':Dk}{y:ox}(h5:(W.H k).aA.length=5)(iy:H'.aA=(W.H k).aA.set u y)(hl:y.aO=((W.H k).fa u).aO):PT (W.cy k (H',D')) P:=by
 refine⟨h.1,fun i v hi hv=>?_⟩;rw[wJ hk hu h5 iy];split
 ·rename_i e;rw[hl,h.2 i v hi hv,e.1,e.2]
 ·exact h.2 i v hi hv
theorem GT.stay{P:List (List Int)}(h:GT W P){k u:Nat}(hk:k<W.hs.length)(oe:k<4)(hu:u<5){H':Ho}{D':Dk}{y:ox}(h5:(W.H k).aA.length=5)(iy:H'.aA=(W.H k).aA.set u y)(hl:y.bf=((W.H k).fa u).bf):GT (W.cy k (H',D')) P:=by
 refine⟨h.1,fun i v hi hv=>?_⟩;rw[wJ hk hu h5 iy];split
 ·rename_i e;rw[hl,h.2 i v hi hv,e.1,e.2]
 ·exact h.2 i v hi hv
theorem sw{α:Type}{P:List (List α)}(hP:P.length=20){k i v:Nat}(hk:k<4)(hi:i<4)(hv:v<5):(Ee P k)[ix i v]? =if i=k then some []else P[ix i v]? :=by
 have key:∀(l:List Nat) (P:List (List α)),P.length=20->(∀u∈l,u<5)->(l.foldl (fun P u=>P.set (ix k u) []) P)[ix i v]? =if i=k/\v∈l then some []else P[ix i v]? :=by
  intro l
  induction l with
  |nil=>intro P _ _;simp
  |cons a l ih=>
   intro P hP hl;have ha:=hl a aj;have iL:(P.set (ix k a) [])[ix i v]? =if i=k/\v=a then some []else P[ix i v]? :=by
    rw[List.getElem?_set];by_cases e:i=k/\v=a
    ·rw[if_pos ((tW ha hv).2 e).symm,if_pos (by rw[hP];unfold ix;omega),if_pos e]
    ·rw[if_neg (fun x=>e ((tW ha hv).1 x.symm)),if_neg e]
   rw[List.foldl_cons,ih _ (by simpa using hP) (fun u hu=>hl u (by simp[hu])),iL];by_cases e1:i=k<;>by_cases e2:v=a<;>by_cases e3:v∈l<;>simp[e1,e2,e3]
 unfold Ee;rw[key _ _ hP (fun u hu=>aZ.1 hu)];by_cases e:i=k
 ·rw[if_pos ⟨e,aZ.2 hv⟩,if_pos e]
 ·rw[if_neg (fun x=>e x.1),if_neg e]
theorem sv{α:Type}(P:List (List α))(k:Nat):(Ee P k).length=P.length:=by
 have key:∀(l:List Nat) (P:List (List α)),(l.foldl (fun P u=>P.set (ix k u) []) P).length=P.length:=by
  intro l
  induction l with
  |nil=>intro P;rfl
  |cons a l ih=>intro P;rw[List.foldl_cons,ih];simp
 exact key _ P
theorem pV{H:Ho}(h:H.aA=List.replicate 5 ⟨[],[]⟩)(u:Nat):H.fa u=⟨[],[]⟩:=by
 unfold Ho.fa;rw[h,aq,List.getElem?_replicate];split<;>rfl
theorem PT.nil{P:List (List Ms)}(h:PT W P){k:Nat}(oe:k<4)(h1:(W'.H k).aA=List.replicate 5 ⟨[],[]⟩)(h2:∀i,i≠k->(W'.H i).aA=(W.H i).aA):PT W' (Ee P k):=by
 refine⟨by rw[sv];exact h.1,fun i v hi hv=>?_⟩;rw[sw h.1 oe hi hv];by_cases e:i=k
 ·subst e;rw[if_pos rfl,pV h1];rfl
 ·rw[if_neg e,k_ (h2 i e)];exact h.2 i v hi hv
theorem GT.nil{P:List (List Int)}(h:GT W P){k:Nat}(oe:k<4)(h1:(W'.H k).aA=List.replicate 5 ⟨[],[]⟩)(h2:∀i,i≠k->(W'.H i).aA=(W.H i).aA):GT W' (Ee P k):=by
 refine⟨by rw[sv];exact h.1,fun i v hi hv=>?_⟩;rw[sw h.1 oe hi hv];by_cases e:i=k
 ·subst e;rw[if_pos rfl,pV h1];rfl
 ·rw[if_neg e,k_ (h2 i e)];exact h.2 i v hi hv
end
structure mL (c kb:Nat) (S:pc):Prop where
 n2:2<=S.n/\S.n<=4
 B:dC c kb S.W
 gi:∃C0,GI S.n S.W C0 (S.T.map (·.2))
 key:∀x∈S.T,x.1=x.2.id
 um:∀k,∀y∈(S.W.H k).aA,y.aO.length+y.bf.length<=c
 P:PT S.W S.P
 G:GT S.W S.G
 ok:S.ok=true
section
variable {c kb:Nat} {S:pc}
theorem mL.keys(h:mL c kb S):(S.T.map (·.1)).Nodup/\S.T.map (·.1)=(S.T.map (·.2)).map (·.id):=by
 obtain⟨C0,g⟩:=h.gi;have e:S.T.map (·.1)=(S.T.map (·.2)).map (·.id):=by
  rw[List.map_map];exact List.map_congr_left fun x hx=>h.key x hx
 exact⟨by rw[e];exact g.gc.tn,e⟩
theorem mL.find(h:mL c kb S){m:Ms}(hm:m∈S.T.map (·.2)):en S.T m.id=some m:=by
 obtain⟨x,hx,rfl⟩:=ay.1 hm;rw[<-h.key x hx];exact yL h.keys.1 hx
theorem mL.Wv(h:mL c kb S){W':Wo}{b:Nat}(hB:dC c (kb+b) W')(hu:fy S.W W')(g:∃C0,GI S.n W' C0 (S.T.map (·.2))):mL c (kb+b) {S with W:=W'}:=
 ⟨h.n2,hB,g,h.key,fun k y hy=>h.um k y (by rw[<-hu k];exact hy),h.P.same hu,h.G.same hu,h.ok⟩
theorem mL.mono(h:mL c kb S){c' Lc:Nat}(h1:c<=c')(h2:kb<=Lc):mL c' Lc S:=⟨h.n2,h.B.mono h1 h2,h.gi,h.key,fun k y hy=>Nat.le_trans (h.um k y hy) h1,h.P,h.G,h.ok⟩
theorem mL.hn(h:mL c kb S):S.W.hs.length=S.n:=by obtain⟨C0,g⟩:=h.gi;exact g.hn
theorem TQ{H:Ho}{k n:Nat}(hid:H.id=(k:Int))(hk:k<n)(hn:2<=n/\n<=4)(pA:H.names=XD k n){j:Nat}:jA H (uU j)=if uU j=kS then(gU,((k:Int)+1)%n,0)else(uU j,-1,0):=by
 unfold jA;rw[hid,pA];have oe:k=0\/k=1\/k=2\/k=3:=by omega
 have vX:n=2\/n=3\/n=4:=by omega
 have hq:uU j=gU\/uU j=gK\/uU j=kS:=by unfold uU;split;exact .inl rfl;split;exact .inr (.inl rfl);exact .inr (.inr rfl)
 rcases hq with hq|hq|hq<;>rw[hq]<;>rcases vX with rfl|rfl|rfl<;>rcases oe with rfl|rfl|rfl|rfl<;>first|(exact absurd hk ai)|decide+kernel
theorem nS{W:Wo}{k:Nat}{x:Ho×Dk}(hk:k<W.hs.length){i:Nat}{y:ox}(hy:y∈((W.cy k x).H i).aA):(i=k/\y∈x.1.aA)\/y∈(W.H i).aA:=by
 rw[nT]at hy;split at hy
 ·rename_i e;exact .inl ⟨e.1,hy⟩
 ·exact .inr hy
theorem mL.at(h:mL c kb S){k:Nat}(hk:k<S.n):∃x,S.W.hs[k]? =some x/\S.W.H k=x.1/\S.W.D k=x.2/\kM c kb k x/\x.1.names=XD k S.n/\(S.W.H k).aA.length=5:=by
 obtain⟨C0,g⟩:=h.gi;obtain⟨x,hx,e1,e2,hh⟩:=g.at hk;exact⟨x,hx,e1,e2,h.B.hs k x hx,g.jk k x hx,by rw[e1];exact(h.B.hs k x hx).B.aA⟩
theorem mL.put(h:mL c kb S)(hc:c<=200){k u j:Nat}(hk:k<S.n)(hu:u<5)(pri:Int):mL (c+1) kb (DF S k u (uU j) pri):=by
 obtain⟨x,hx,e1,e2,hb,pA,h5⟩:=h.at hk;have hn:=h.hn;have vX:=h.n2;unfold DF;dsimp only;have XS:∀y∈x.1.aA,y.aO.length+y.bf.length<=600:=fun y hy=>by
  have :=h.um k y (by rw[e1];exact hy);omega
 have gP:dC (c+1) kb (S.W.cy k (gv (S.W.H k) u (uU j) pri xS,S.W.D k)):=by
  rw[e1,e2];exact(h.B.mono (Nat.le_succ c) (aF _)).set (hb.put _ _ _ _ XS)
 split
 ·rename_i he;obtain⟨C0,g⟩:=h.gi;have g1:=g.put h.B hk hu he;have lN:=fW hb.B hu;have iy:(gv (S.W.H k) u (uU j) pri xS).aA=(S.W.H k).aA.set u ⟨((S.W.H k).fa u).aO++[(eA (S.W.H k) (uU j) pri xS,(jA (S.W.H k) (uU j)).2.1)],((S.W.H k).fa u).bf⟩:=by
   unfold gv;rw[if_pos he];unfold cM;dsimp only;rw[gG,aE]
  have hid:(S.W.H k).id=(k:Int):=by rw[e1];exact hb.id
  have hm:nO S.n k (sl (S.W.H k) u (uU j) pri xS) pri (uU j)=eA (S.W.H k) (uU j) pri xS:=by
   unfold sl nO eA;rw[if_pos he];have mG:=TQ hid hk vX (by rw[e1];exact pA) (j:=j);rw[mG];by_cases hq:uU j=kS
   ·rw[if_pos hq,if_pos hq];have :¬((k:Int)+1)%S.n<0:=by have :=Int.emod_nonneg ((k:Int)+1) (show(S.n:Int)≠0 by omega);omega
    dsimp only;rw[if_neg this]
   ·rw[if_neg hq,if_neg hq];dsimp only;rw[if_pos ai,hid]
  have YJ:=h.P.2 k u ae hu;have SZ:S.P.getD (ix k u) []=((S.W.H k).fa u).aO.map (·.1):=by rw[aq,YJ];rfl
  refine⟨h.n2,gP,⟨C0,g1⟩,h.key,fun i y hy=>?_,?_,?_,h.ok⟩
  ·rcases nS ae hy with⟨-,h1⟩|h1
   ·rw[iy]at h1;rcases bj h1 with h2|rfl
    ·have :=h.um k y h2;omega
    ·have :=h.um k _ (by rw[e1];exact ax lN);rw[e1];dsimp only;simp;omega
   ·have :=h.um i y h1;omega
  ·refine h.P.set ae ae hu h5 iy ?_;rw[SZ,hm];dsimp only;rw[aN];rfl
  ·exact h.G.stay ae ae hu h5 iy rfl
 ·rename_i he;have e3:gv (S.W.H k) u (uU j) pri xS=S.W.H k:=by unfold gv;rw[if_neg he]
  rw[e3,p4 ae];exact h.mono (Nat.le_succ c) (aF _)
theorem mL.get(h:mL c kb S)(hc:c<=200){k u:Nat}(hk:k<S.n)(hu:u<5){q:ak}(hq:c6 q=true):mL (c+1) kb (xD S k u q):=by
 obtain⟨x,hx,e1,e2,hb,pA,h5⟩:=h.at hk;have hn:=h.hn;have vX:=h.n2;unfold xD;dsimp only;have XS:∀y∈x.1.aA,y.aO.length+y.bf.length<=600:=fun y hy=>by
  have :=h.um k y (by rw[e1];exact hy);omega
 have gP:dC (c+1) kb (S.W.cy k (g_ (S.W.H k) u q,S.W.D k)):=by
  rw[e1,e2];exact(h.B.mono (Nat.le_succ c) (aF _)).set (hb.get _ hq XS)
 split
 ·rename_i he;obtain⟨C0,g⟩:=h.gi;obtain⟨g1,sN⟩:=g.get h.B hk hu he;have lN:=fW hb.B hu;have iy:(g_ (S.W.H k) u q).aA=(S.W.H k).aA.set u ⟨((S.W.H k).fa u).aO,((S.W.H k).fa u).bf++[((getM (S.W.H k) u q).id,q)]⟩:=by
   unfold g_ getM;rw[if_pos he,if_pos he];rfl
  have YO:=h.G.2 k u ae hu;have S0:S.G.getD (ix k u) []=((S.W.H k).fa u).bf.map (·.1):=by rw[aq,YO];rfl
  refine⟨h.n2,gP,⟨C0,g1⟩,h.key,fun i y hy=>?_,?_,?_,?_⟩
  ·rcases nS ae hy with⟨-,h1⟩|h1
   ·rw[iy]at h1;rcases bj h1 with h2|rfl
    ·have :=h.um k y h2;omega
    ·have :=h.um k _ (by rw[e1];exact ax lN);rw[e1];dsimp only;simp;omega
   ·have :=h.um i y h1;omega
  ·exact h.P.stay ae ae hu h5 iy rfl
  ·refine h.G.set ae ae hu h5 iy ?_;rw[S0];dsimp only;rw[aN];rfl
  ·dsimp only;rw[h.ok,h.find sN];simp
 ·rename_i he;have e3:g_ (S.W.H k) u q=S.W.H k:=by unfold g_;rw[if_neg he]
  rw[e3,p4 ae];exact h.mono (Nat.le_succ c) (aF _)
theorem mL.back(h:mL c kb S){k u:Nat}(hk:k<S.n)(hu:u<5):mL c kb (LQ S k u):=by
 obtain⟨x,hx,e1,e2,hb,pA,h5⟩:=h.at hk;have hn:=h.hn;have vX:=h.n2;unfold LQ;dsimp only;have gP:dC c kb (S.W.cy k (rH (S.W.H k) u,S.W.D k)):=by
  rw[e1,e2];exact h.B.set (hb.bk _)
 split
 ·rename_i he;obtain⟨C0,g⟩:=h.gi;have g1:=g.back h.B hk hu he;have iy:(rH (S.W.H k) u).aA=(S.W.H k).aA.set u cN:=by
   unfold rH;rw[if_pos he];rfl
  refine⟨h.n2,gP,⟨C0,g1⟩,h.key,fun i y hy=>?_,h.P.set ae ae hu h5 iy rfl,h.G.set ae ae hu h5 iy rfl,h.ok⟩;rcases nS ae hy with⟨-,h1⟩|h1
  ·rw[iy]at h1;rcases bj h1 with h2|rfl
   ·exact h.um k y h2
   ·exact aV _
  ·exact h.um i y h1
 ·rename_i he;have e3:rH (S.W.H k) u=S.W.H k:=by unfold rH;rw[if_neg he]
  rw[e3,p4 ae];exact h
theorem Me(k:Nat):∀(l:List Ms) (s:OvS),(s.T.map (·.1)++l.map (·.id)).Nodup->(l.foldl (vO k) s).T=s.T++l.map fun m=>(m.id,m)
 |[],s,_=>by simp
 |m::l,s,h=>by
  have h1:m.id∉s.T.map (·.1):=fun hm=>by
   rw[List.nodup_append]at h;exact h.2.2 _ hm m.id aj rfl
  have e:(vO k s m).T=s.T++[(m.id,m)]:=by
   unfold vO;split
   ·exact DW h1 m
   ·exact DW h1 m
  rw[List.foldl_cons,Me k l _ (by
   rw[e,aN,aL]
   exact h),e,aL]
  rfl
theorem wR:∀(l:List Int) (T:List (Int×Ms)) (b:Bool),(T.map (·.1)).Nodup->l.Nodup->(∀i∈l,i∈T.map (·.1))->l.foldl K_ (T,b)=(T.filter fun x=> !decide (x.1∈l),b)
 |[],T,b,_,_,_=>by rw[bo.2 (fun _ _=>by simp)];rfl
 |i::l,T,b,hn,hl,h=>by
  rw[bJ]at hl;have h1:(en T i).isSome=true:=by
   obtain⟨x,hx,e⟩:=ay.1 (h i aj);rw[<-e,yL hn hx];rfl
  rw[List.foldl_cons,K_];dsimp only;rw[h1,Bool.and_true,E6 hn,wR l _ b (hn.sublist (List.filter_sublist.map _)) hl.2 fun j hj=>?_]
  ·rw[bm];congr 1;apply List.filter_congr;intro x _;by_cases e1:x.1=i<;>by_cases e2:x.1∈l<;>simp[e1,e2]
  ·obtain⟨x,hx,e⟩:=ay.1 (h j (by simp[hj]));refine ay.2 ⟨x,aB.2 ⟨hx,?_⟩,e⟩;have :x.1≠i:=fun e2=>hl.1 (by rw[<-e2,e];exact hj)
   simpa using this
theorem mL.com(h:mL c kb S)(hc:c<=200)(hK:kb<=1000000000){k u:Nat}(hk:k<S.n)(hu:u<5):mL c (kb+1) (DG S k u):=by
 obtain⟨x,hx,e1,e2,hb,pA,h5⟩:=h.at hk;have hn:=h.hn;have vX:=h.n2;unfold DG;dsimp only;have gP:dC c (kb+1) (S.W.cy k (oU (S.W.H k) (S.W.D k) u,qn (S.W.H k) (S.W.D k) u)):=by
  rw[e1,e2];exact(h.B.mono (aF c) (Nat.le_succ _)).set (hb.cm ae hu)
 obtain⟨C0,g⟩:=h.gi;have J8:=qm (H:=S.W.H k) (D:=S.W.D k) (u:Int);split
 ·rename_i he;rw[if_pos he,aE]at J8;obtain⟨C1,g1⟩:=g.uz h.B ae ae hk hu he;obtain⟨pb,UB⟩:=h.keys;have lN:(S.W.H k).aA[u]? =some ((S.W.H k).fa u):=by rw[e1];exact fW hb.B hu
  have YJ:=h.P.2 k u ae hu;have SZ:S.P.getD (ix k u) []=((S.W.H k).fa u).aO.map (·.1):=by rw[aq,YJ];rfl
  have YO:=h.G.2 k u ae hu;have S0:S.G.getD (ix k u) []=((S.W.H k).fa u).bf.map (·.1):=by rw[aq,YO];rfl
  have QN:=g.IU hk lN;have J9:=(g.hi k x hx).unit u ((S.W.H k).fa u) (by rw[<-e1];exact lN);have OY:=g.fresh k x hx u ((S.W.H k).fa u) (by rw[<-e1];exact lN);generalize (S.W.H k).fa u=y at SZ S0 QN J9 OY g1;have sK:(S.T.map (·.1)++(y.aO.map (·.1)).map (·.id)).Nodup:=by
   rw[List.nodup_append,List.map_map];refine⟨pb,J9.pn,fun a ha b hb=>?_⟩;obtain⟨p,hp,rfl⟩:=ay.1 hb;rw[UB]at ha;exact fun e=>OY p hp (by rw[show p.1.id=a from e.symm];exact ha)
  unfold tC;dsimp only;rw[SZ,S0];have hT:=Me k (y.aO.map (·.1)) ⟨S.T,S.ks,S.Ls⟩ sK
  dsimp only at hT;rw[hT];have UX:((S.T++(y.aO.map (·.1)).map fun m=>(m.id,m)).map (·.1))=S.T.map (·.1)++(y.aO.map (·.1)).map (·.id):=by
   rw[aN,List.map_map];rfl
  rw[wR _ _ S.ok (by rw[UX];exact sK) J9.gn fun i hi=>by
   rw[UX];refine List.mem_append_left _ ?_
   rw[UB];exact QN i hi]
  dsimp only;have hTm:((S.T++(y.aO.map (·.1)).map fun m=>(m.id,m)).map (·.2))=S.T.map (·.2)++y.aO.map (·.1):=by
   rw[aN,List.map_map];congr 1;exact List.map_id _
  have Yi:∀z∈S.T++(y.aO.map (·.1)).map fun m=>(m.id,m),z.1=z.2.id:=fun z hz=>by
   rcases aH.1 hz with h1|h1
   ·exact h.key z h1
   ·obtain⟨m,-,rfl⟩:=ay.1 h1;rfl
  have hTf:(((S.T++(y.aO.map (·.1)).map fun m=>(m.id,m)).filter fun z=> !decide (z.1∈y.bf.map (·.1))).map (·.2))=(S.T.map (·.2)++y.aO.map (·.1)).filter fun m=> !decide (m.id∈y.bf.map (·.1)):=by
   rw[<-hTm,List.filter_map];congr 1;apply List.filter_congr;intro z hz;rw[Yi z hz];rfl
  refine⟨h.n2,gP,⟨C1,g1.perm ?_⟩,fun z hz=>Yi z (aB.1 hz).1,fun i z hz=>?_,h.P.set ae ae hu h5 J8 rfl,h.G.set ae ae hu h5 J8 rfl,h.ok⟩
  ·dsimp only;rw[hTf];unfold Is;exact List.perm_append_comm.filter _
  ·rcases nS ae hz with⟨-,h1⟩|h1
   ·dsimp only at h1;rw[J8]at h1;rcases bj h1 with h2|rfl
    ·exact h.um k z h2
    ·exact aV _
   ·exact h.um i z h1
 ·rename_i he;rw[if_neg he]at J8;exact h.Wv gP (fy.set J8) ⟨C0,g.CH h.B hk hu he⟩
theorem sc:∀(l:List Nat) (S:pc),S.P.length=20->S.G.length=20->(∀k∈l,k<4)->∃P G,l.foldl fH S={S with P:=P,G:=G}/\P.length=20/\G.length=20/\∀i v,i<4->v<5->(P[ix i v]? =if i∈l/\(S.W.H i).down=true then some []else S.P[ix i v]?)/\(G[ix i v]? =if i∈l/\(S.W.H i).down=true then some []else S.G[ix i v]?)
 |[],S,hP,hG,_=>⟨S.P,S.G,rfl,hP,hG,fun i v _ _=>by simp⟩
 |k::l,S,hP,hG,hl=>by
  have hk:=hl k aj;by_cases hd:(S.W.H k).down=true
  ·obtain⟨P,G,e,p,g,hh⟩:=sc l (gD S k) (by unfold gD;dsimp only;rw[sv];exact hP) (by unfold gD;dsimp only;rw[sv];exact hG) fun j hj=>hl j (by simp[hj])
   refine⟨P,G,by rw[List.foldl_cons,fH,if_pos hd,e];rfl,p,g,fun i v hi hv=>?_⟩;obtain⟨a,b⟩:=hh i v hi hv;unfold gD at a b;dsimp only at a b;rw[sw hP hk hi hv]at a;rw[sw hG hk hi hv]at b;rw[a,b];by_cases e1:i=k
   ·subst e1;simp[hd]
   ·by_cases e2:i∈l<;>by_cases e3:(S.W.H i).down=true<;>simp[e1,e2,e3]
  ·obtain⟨P,G,e,p,g,hh⟩:=sc l S hP hG fun j hj=>hl j (by simp[hj])
   refine⟨P,G,by rw[List.foldl_cons,fH,if_neg hd,e],p,g,fun i v hi hv=>?_⟩;obtain⟨a,b⟩:=hh i v hi hv;rw[a,b];by_cases e1:i=k
   ·subst e1;simp[hd]
   ·by_cases e2:i∈l<;>by_cases e3:(S.W.H i).down=true<;>simp[e1,e2,e3]
theorem zd(W:Wo):calm 1 W=y9 W:=rfl
theorem mL.calm(h:mL c kb S)(hK:kb<=1000000000):mL c (kb+10000) (tD S):=by
 have hn:=h.hn;have vX:=h.n2;obtain⟨C0,g⟩:=h.gi;obtain⟨C1,g1⟩:=g.y9 h.B ae;have gP:=h.B.y9 ae;obtain⟨P,G,e,p,gl,hh⟩:=sc (List.range S.n) S h.P.1 h.G.1 fun k hk=>by have :=aZ.1 hk;omega
 unfold tD;rw[e,zd];have hu:∀i,((y9 S.W).H i).aA=if i<S.n/\(S.W.H i).down=true then List.replicate 5 ⟨[],[]⟩else(S.W.H i).aA:=fun i=>by
  by_cases hi:i<S.n
  ·rw[Ky g hi];simp[hi]
  ·rw[if_neg (fun x=>hi x.1)];have h1:(S.W.H i)=bO 0:=by unfold Wo.H Wo.at';rw[aq,bH ae];rfl
   have h2:((y9 S.W).H i)=bO 0:=by unfold Wo.H Wo.at';rw[aq,bH (by rw[Zl];omega)];rfl
   rw[h1,h2]
 refine⟨h.n2,gP,⟨C1,g1⟩,h.key,fun i y hy=>?_,⟨p,fun i v hi hv=>?_⟩,⟨gl,fun i v hi hv=>?_⟩,h.ok⟩
 ·dsimp only at hy;rw[hu]at hy;split at hy
  ·have :=List.eq_of_mem_replicate hy;subst this;exact aV _
  ·exact h.um i y hy
 ·rw[(hh i v hi hv).1];have :i∈List.range S.n↔i<S.n:=aZ;by_cases e1:i<S.n/\(S.W.H i).down=true
  ·rw[if_pos ⟨this.2 e1.1,e1.2⟩,pV ((hu i).trans (if_pos e1))];rfl
  ·rw[if_neg (fun x=>e1 ⟨this.1 x.1,x.2⟩),k_ ((hu i).trans (if_neg e1))];exact h.P.2 i v hi hv
 ·rw[(hh i v hi hv).2];have :i∈List.range S.n↔i<S.n:=aZ;by_cases e1:i<S.n/\(S.W.H i).down=true
  ·rw[if_pos ⟨this.2 e1.1,e1.2⟩,pV ((hu i).trans (if_pos e1))];rfl
  ·rw[if_neg (fun x=>e1 ⟨this.1 x.1,x.2⟩),k_ ((hu i).trans (if_neg e1))];exact h.G.2 i v hi hv
theorem x5(j:Nat):c6 (uU j)=true:=by
 unfold uU;split
 ·decide+kernel
 ·split<;>decide+kernel
theorem mL.adB(h:mL c kb S)(hc:c<=200)(hK:kb<=100000000)(x:Ia):mL (c+1) (kb+10000) (kt S x):=by
 have hn:=h.hn;have vX:=h.n2;have hk:o5 S x<S.n:=by
  unfold o5;have :=jj x.k (n:=(S.n:Int)) ae;omega
 have hu:Ik x<5:=by
  unfold Ik;have :=jj x.unit (n:=5) ae;omega
 obtain⟨C0,g⟩:=h.gi;unfold kt;split
 ·exact(h.put hc hk hu _).mono (aF _) ae
 split
 ·refine(h.get hc hk hu ?_).mono (aF _) ae;split
  ·exact rD
  ·exact x5 _
 split
 ·exact(h.com hc ae hk hu).mono ae ae
 split
 ·exact(h.back hk hu).mono ae ae
 split
 ·exact(h.Wv (h.B.se _ _) (fy.se _ _ _) (g.se h.B ae _ _)).mono ae ae
 split
 ·exact(h.Wv (h.B.de _) (fy.de _ _) (g.de h.B ae _)).mono ae ae
 split
 ·exact(h.Wv (b:=0) (h.B.lo _) (fy.lo _ _) ⟨C0,g.lo _⟩).mono ae ae
 split
 ·exact(h.Wv (h.B.tw _) (fy.tw _ _) ⟨C0,g.tw _⟩).mono ae ae
 split
 ·have h4:=jj x.n (n:=4) ai;have QK:S.W.is (o5 S x:Nat)=true:=by unfold Wo.is;rw[decide_eq_true_eq];omega
  have hBc:=h.B.adG (o5 S x:Nat) (pk x.m 150-1) (n:=pk x.n 4) ae;have e:FZ S.W (o5 S x:Nat) (pk x.n 4) (pk x.m 150-1)=S.W.cy (o5 S x) ({S.W.H (o5 S x)with cZ:=pk x.m 150-1},cu (S.W.D (o5 S x)) (pk x.n 4)):=by
   unfold FZ;rw[if_pos QK,aE]
  rw[e]at hBc ⊢;exact(h.Wv (b:=0) hBc (fy.set rfl) ⟨C0,g.cut hk _ _⟩).mono ae ae
 split
 ·have QK:S.W.is (o5 S x:Nat)=true:=by unfold Wo.is;rw[decide_eq_true_eq];omega
  have hBr:=h.B.re ae (o5 S x:Nat);have e:OQ S.W (o5 S x:Nat)=AJ S.W (o5 S x):=by unfold OQ;rw[if_pos QK,aE]
  rw[e]at hBr ⊢;obtain⟨g1,hu1⟩:=g.AJ hk;have XT:∀i,i≠o5 S x->((AJ S.W (o5 S x)).H i).aA=(S.W.H i).aA:=fun i hi=>by
   unfold AJ;rw[nT,if_neg (fun x=>hi x.1)]
  have h1:mL c kb {gD S (o5 S x)with W:=AJ S.W (o5 S x)}:=by
   refine⟨h.n2,hBr,⟨C0,g1⟩,h.key,fun i y hy=>?_,h.P.nil ae hu1 XT,h.G.nil ae hu1 XT,h.ok⟩;dsimp only at hy;by_cases e:i=o5 S x
   ·rw[e,hu1]at hy;have :=List.eq_of_mem_replicate hy;subst this;exact aV _
   ·rw[XT i e]at hy;exact h.um i y hy
  exact h1.mono ae ae
 split
 ·exact(h.calm ae).mono ae ae
 ·exact h.mono ae ae
theorem mL.JW(h:mL c kb S):(JV S.W).Perm (S.T.map (·.2)):=by
 obtain⟨C0,g⟩:=h.gi;exact g.JW h.B
end
def BT (T:List (Int×Ms)):List (Int×Value):=T.map fun x=>(x.1,.agg (dh x.2).toArray)
theorem Pq(T:List (Int×Ms))(k:Int)(m:Ms):fL (BT T) k (.agg (dh m).toArray)=BT (fL T k m):=by
 unfold BT
 induction T with
 |nil=>rfl
 |cons x r ih=>
  rw[aJ,fL,fL];dsimp only;by_cases h:x.1=k
  ·rw[if_pos h,if_pos h];rfl
  ·rw[if_neg h,if_neg h,ih];rfl
theorem BS(T:List (Int×Ms))(k:Int):en (BT T) k=(en T k).map fun m=>.agg (dh m).toArray:=by
 unfold BT
 induction T with
 |nil=>rfl
 |cons x r ih=>
  rw[aJ,en,en];dsimp only;by_cases h:x.1=k
  ·rw[if_pos h,if_pos h];rfl
  ·rw[if_neg h,if_neg h,ih]
theorem Ps(T:List (Int×Ms))(k:Int):pH (BT T) k=BT (pH T k):=by
 unfold BT
 induction T with
 |nil=>rfl
 |cons x r ih=>
  rw[aJ,pH,pH];dsimp only;by_cases h:x.1=k
  ·rw[if_pos h,if_pos h]
  ·rw[if_neg h,if_neg h,ih];rfl
theorem Pr(T:List (Int×Ms)):(BT T).length=T.length:=by unfold BT;simp
theorem BL:∀(ks:List Int) (os:List Value) (x:Int),os.length=ks.length->en (ks.zip os) x=(vP ks x).bind fun i=>os[i]?
 |[],[],x,_=>rfl
 |k::ks,o::os,x,h=>by
  have ih:=BL ks os x H4;unfold vP at *;rw[List.zip_cons_cons,en,List.findIdx?_cons];dsimp only;by_cases e:k=x
  ·simp[e]
  ·simp only[e,decide_false,if_false];rw[ih];cases List.findIdx? (fun k=>decide (k=x)) ks<;>simp
theorem nJ:∀(ks:List Int) (os:List Value) (x:Int) (v:Value) (i:Nat),os.length=ks.length->vP ks x=some i->fL (ks.zip os) x v=ks.zip (os.set i v)
 |[],[],x,v,i,_,h=>by cases h
 |k::ks,o::os,x,v,i,hl,h=>by
  unfold vP at h;rw[List.findIdx?_cons]at h;rw[List.zip_cons_cons,fL];dsimp only;by_cases e:k=x
  ·simp only[e,decide_true,if_true,az]at h;subst h;rw[if_pos e];rfl
  ·simp only[e,decide_false,Bool.false_eq_true,if_false]at h;obtain⟨j,hj,rfl⟩:=Option.map_eq_some_iff.1 h;rw[if_neg e,nJ ks os x v j ZY hj];rfl
theorem nK:∀(ks:List Int) (os:List Value) (x:Int) (v:Value),os.length=ks.length->vP ks x=none->fL (ks.zip os) x v=(ks++[x]).zip (os++[v])
 |[],[],x,v,_,_=>rfl
 |k::ks,o::os,x,v,hl,h=>by
  unfold vP at h;rw[List.findIdx?_cons]at h;rw[List.zip_cons_cons,fL];dsimp only;by_cases e:k=x
  ·simp[e]at h
  ·simp only[e,decide_false,Bool.false_eq_true,if_false]at h
   rw[if_neg e,nK ks os x v ZY (by unfold vP;cases hh:List.findIdx? (fun k=>decide (k=x)) ks with
    |none=>rfl
    |some j=>rw[hh]at h;cases h)]
   rfl
theorem Iv{ks:List Int}{x:Int}{i:Nat}(h:vP ks x=some i):i<ks.length:=(List.findIdx?_eq_some_iff_getElem.1 h).1
structure nG (b:Nat) (ks:List Int) (Ls:List (List Int)):Prop where
 len:Ls.length=ks.length
 small:∀l∈Ls,l.length<=b
theorem nG.mono{b c:Nat}{ks:List Int}{Ls:List (List Int)}(h:nG b ks Ls)(hb:b<=c):nG c ks Ls:=⟨h.len,fun l hl=>Nat.le_trans (h.small l hl) hb⟩
theorem nG.add{b:Nat}{ks:List Int}{Ls:List (List Int)}(h:nG b ks Ls)(x id:Int):nG (b+1) (D6 ks x) (D5 ks Ls x id):=by
 unfold D6 D5;cases hi:vP ks x with
 |none=>
  refine⟨by simp[h.len],fun l hl=>?_⟩;rcases aH.1 hl with h1|h1
  ·have :=h.small l h1;omega
  ·simp at h1;subst h1;simp
 |some i=>
  have dt:=Iv hi;refine⟨by simp[h.len],fun l hl=>?_⟩;rcases bj hl with h1|rfl
  ·have :=h.small l h1;omega
  ·have :=h.small (Ls.getD i []) (by rw[aq,ao (by rw[h.len];exact dt)];exact List.getElem_mem _);rw[aX,List.length_singleton];omega
theorem nG.ovs{k:Nat}:∀(l:List Ms) {b:Nat} {s:OvS},nG b s.ks s.Ls->nG (b+l.length) (l.foldl (vO k) s).ks (l.foldl (vO k) s).Ls
 |[],_,_,h=>h
 |m::l,b,s,h=>by
  have h1:nG (b+1) (vO k s m).ks (vO k s m).Ls:=by
   unfold vO;split
   ·exact h.add _ _
   ·exact h.mono (Nat.le_succ b)
  rw[List.foldl_cons];exact(nG.ovs l h1).mono fx
theorem yM{α β:Type}{f:α->β->α}{l:List β}{j:Nat}{x:β}(hx:l[j]? =some x)(s:α):(l.take (j+1)).foldl f s=f ((l.take j).foldl f s) x:=by
 rw[bG hx,List.foldl_append];rfl
theorem Ed(us:List Value)(h:us.length=20){k:Nat}(hk:k<4)(z:Value):kR (k *5) [z,z,z,z,z] us=(List.range 5).foldl (fun P u=>P.set (ix k u) z) us:=by
 have oe:k=0\/k=1\/k=2\/k=3:=by omega
 match us,h with
 |[a0,a1,a2,a3,a4,a5,a6,a7,a8,a9,b0,b1,b2,b3,b4,b5,b6,b7,b8,b9],_=>
  rcases oe with rfl|rfl|rfl|rfl<;>rfl
theorem DV(a:List Value):∀(i:Nat) (vs b c:List Value),i+vs.length<=b.length->kR (a.length+i) vs (a++b++c)=a++kR i vs b++c:=fun i vs b c h=>by
 rw[<-p5 _ _ _ fx,<-p5 _ _ _ h];rw[aL a b c,List.take_append,List.drop_append,show a.length+i-a.length=i by omega,show a.length+i+vs.length-a.length=i+vs.length by omega,List.take_of_length_le ae,List.drop_eq_nil_of_le ae,List.take_append_of_le_length ae,List.drop_append_of_le_length h];simp
theorem Nv{α β:Type}{f:α->β->HP}{w0 w:World}{L:List HP}{ps:List α}{xs:List β}{i:Nat}{p:α}{x:β}(hi:i<ps.length)(hx:i<xs.length)(hn:∀L,St w0 L w->St w0 (f p x::L) w)(h:St w0 (bZ f ps xs::L) w):St w0 (bZ f (ps.set i p) (xs.set i x)::L) w:=by
 have h1:=dj (f:=f) (i:=i) (ao hi) (ao hx) h;exact ic hi hx (hn _ h1.drop)
theorem EY{α:Type}{f:Value->List α->HP}{w0 w:World}{L:List HP}{us:List Value}{P:List (List α)}{k:Nat}{z:Value}(hk:k<4)(hu:us.length=20)(hP:P.length=20)(hn:∀L,St w0 L w->St w0 (f z []::L) w)(h:St w0 (bZ f us P::L) w):St w0 (bZ f ((List.range 5).foldl (fun P u=>P.set (ix k u) z) us) (Ee P k)::L) w:=by
 have key:∀(l:List Nat) (us:List Value) (P:List (List α)),us.length=20->P.length=20->(∀u∈l,u<5)->St w0 (bZ f us P::L) w->St w0 (bZ f (l.foldl (fun P u=>P.set (ix k u) z) us) (l.foldl (fun P u=>P.set (ix k u) []) P)::L) w:=by
  intro l
  induction l with
  |nil=>intro us P _ _ _ h;exact h
  |cons a l ih=>
   intro us P h1 h2 h3 h;have ha:=h3 a aj;rw[List.foldl_cons,List.foldl_cons];exact ih _ _ K6 Xi (fun u hu=>h3 u (by simp[hu])) (Nv (by rw[h1];unfold ix;omega) (by rw[h2];unfold ix;omega) hn h)
 exact key _ us P hu hP (fun u hu=>aZ.1 hu) h
end WB
namespace Go.Proofs.YtjhogocabcdjbabGreatDoor
open Tryz
open Go Go.RowKit WB
structure FE where
 us:List Value
 vs:List Value
 os:List Value
 mT:Nat
 mO:Nat
def qJ (bw:Nat) (V:FE) (n:Nat):List Value:=[bp bw,.int .i64 (n:Nat),.map (some V.mT)]++V.us++(V.vs++[.map (some V.mO),.bool true])
abbrev Au (v:Value) (l:List Ms):HP:=SL 44 5 dh v l
abbrev iw (v:Value) (l:List Int):HP:=SL 3 1 iC v l
abbrev DE (bt bw:Nat) (V:FE) (S:pc) (L:List HP):List HP:=
 bI bt (.cells (qJ bw V S.n).toArray 62 (0,0))::bV (Value.int .i64) V.mT (BT S.T)::bV (Value.int .i64) V.mO (S.ks.zip V.os)::bZ iw V.os S.Ls::bZ Au V.us S.P::bZ iw V.vs S.G::L
structure OC (V:FE) (ks:List Int):Prop where
 us:V.us.length=20
 vs:V.vs.length=20
 os:V.os.length=ks.length
def lP (bt bw:Nat) (S:pc):HP:=ex fun V:FE=>sep (JF (OC V S.ks)) (gH (DE bt bw V S []))
theorem jF{w0 w:World}{bt bw:Nat}{S:pc}{L:List HP}(h:St w0 (lP bt bw S::L) w):∃V:{V:FE//OC V S.ks},St w0 (DE bt bw V.1 S L) w:=by
 obtain⟨V,h⟩:=h.Bp;obtain⟨hV,h⟩:=h.split.rf;exact⟨⟨V,hV⟩,by have :=h.splits;exact this⟩
theorem fG{w0 w:World}{bt bw:Nat}{S:pc}{L:List HP}(V:FE)(hV:OC V S.ks)(h:St w0 (DE bt bw V S L) w):St w0 (lP bt bw S::L) w:=
 St.zZ (F:=fun V:FE=>sep (JF (OC V S.ks)) (gH (DE bt bw V S []))) V (St.join (St.vN hV (St.Em (L:=DE bt bw V S []) h)))
theorem pX{bw n:Nat}{V:FE}(h1:V.us.length=20)(h2:V.vs.length=20):(qJ bw V n).length=45:=by unfold qJ;simp[h1,h2]
theorem LP{bw n i:Nat}{V:FE}{v:Value}(h:V.us[i]? =some v):(qJ bw V n)[3+i]? =some v:=by
 have hi:=(au.1 h).1;unfold qJ;rw[List.getElem?_append_left fx,aY aj,show 3+i-[bp bw,Value.int .i64 (n:Nat),Value.map (some V.mT)].length=i by simp];exact h
theorem LO{bw n i:Nat}{V:FE}{v:Value}(h1:V.us.length=20)(h:V.vs[i]? =some v):(qJ bw V n)[23+i]? =some v:=by
 have hi:=(au.1 h).1;unfold qJ;rw[aY (by(simp[h1];done)),List.getElem?_append_left (by(simp[h1];omega)),show 23+i-([bp bw,Value.int .i64 (n:Nat),Value.map (some V.mT)]++V.us).length=i by(simp[h1];done)];exact h
theorem Ty{bw n:Nat}{V:FE}(h1:V.us.length=20)(h2:V.vs.length=20):(qJ bw V n)[43]? =some (.map (some V.mO)):=by
 unfold qJ;rw[aY Dj,aY (by simp[h1,h2])];simp[h1,h2]
theorem Tx{bw n:Nat}{V:FE}(h1:V.us.length=20)(h2:V.vs.length=20):(qJ bw V n)[44]? =some (.bool true):=by
 unfold qJ;rw[aY Dj,aY (by simp[h1,h2])];simp[h1,h2]
theorem tF{bw n i:Nat}{V:FE}(hi:i<V.us.length)(v:Value):(qJ bw V n).set (3+i) v=qJ bw {V with us:=V.us.set i v} n:=by
 unfold qJ;rw[List.set_append_left _ _ fx,List.set_append_right _ _ aj];simp
theorem tE{bw n i:Nat}{V:FE}(h1:V.us.length=20)(hi:i<V.vs.length)(v:Value):(qJ bw V n).set (23+i) v=qJ bw {V with vs:=V.vs.set i v} n:=by
 unfold qJ;rw[List.set_append_right _ _ (by(simp[h1];done)),List.set_append_left _ _ (by(simp[h1];omega)),show 23+i-([bp bw,Value.int .i64 (n:Nat),Value.map (some V.mT)]++V.us).length=i by(simp[h1];done)]
def dn:Value:=.slice none 0 0
def Gh (us:List Value) (k:Nat):List Value:=(List.range 5).foldl (fun P u=>P.set (ix k u) dn) us
theorem su(us:List Value)(k:Nat):(Gh us k).length=us.length:=by
 have key:∀(l:List Nat) (P:List Value),(l.foldl (fun P u=>P.set (ix k u) dn) P).length=P.length:=by
  intro l
  induction l with
  |nil=>intro P;rfl
  |cons a l ih=>intro P;rw[List.foldl_cons,ih];simp
 exact key _ us
theorem Jm{bw n k:Nat}{V:FE}(h1:V.us.length=20)(hk:k<4):kR (3+k *5) [dn,dn,dn,dn,dn] (qJ bw V n)=qJ bw {V with us:=Gh V.us k} n:=by
 unfold qJ;have :=DV [bp bw,Value.int .i64 (n:Nat),Value.map (some V.mT)] (k *5) [dn,dn,dn,dn,dn] V.us (V.vs++[.map (some V.mO),.bool true]) (by(simp[h1];omega));rw[Ed _ h1 hk]at this;exact this
theorem Jl{bw n k:Nat}{V:FE}(h1:V.us.length=20)(h2:V.vs.length=20)(hk:k<4):kR (23+k *5) [dn,dn,dn,dn,dn] (qJ bw V n)=qJ bw {V with vs:=Gh V.vs k} n:=by
 unfold qJ;have :=DV ([bp bw,Value.int .i64 (n:Nat),Value.map (some V.mT)]++V.us) (k *5) [dn,dn,dn,dn,dn] V.vs [.map (some V.mO),.bool true] (by simp[h2];omega);rw[Ed _ h2 hk]at this;rw[<-aL,<-aL];rw[show 23+k *5=([bp bw,Value.int .i64 (n:Nat),Value.map (some V.mT)]++V.us).length+k *5 by simp[h1]];exact this
theorem Av(w0:World)(L:List HP)(bt bw k:Nat)(S:pc)(hk:k<4)(hP:S.P.length=20)(hG:S.G.length=20):
 KC prog 75 #[bp bt,.int .i64 (k:Nat)] w0 (lP bt bw S::L) (fun v M=>v=.tuple #[]/\M=lP bt bw (gD S k)::L):=by
 refine KC.mk (n:=16) func75 rfl ntmps75 aj ?_;refine K.cq (fun _ h=>jF h) ?_;rintro⟨V,hV⟩;dsimp only;obtain⟨h1,h2,h3⟩:=hV;have uf:=Jm (bw:=bw) (n:=S.n) h1 hk;have lg:=Jl (bw:=bw) (n:=S.n) (V:={V with us:=Gh V.us k}) (by dsimp only;rw[su];exact h1) h2 hk;have QI:=pX (bw:=bw) (n:=S.n) h1 h2;have zI:=pX (bw:=bw) (n:=S.n) (V:={V with us:=Gh V.us k}) (by dsimp only;rw[su];exact h1) h2;refine K.draw [.pure,.pure,.pure,.pure,.pure,.pure,.pure,.pure,.pure,.write,.pure,.pure,.pure,.write] [0,1,2,3,4,5,6,7,8,10,11,9,12,13] bC bC ?_;refine lK ?_;refine lK ?_;refine KO.Zp rfl (by intro w;go_simp;rfl) rfl ?_;refine KO.Zp rfl (by intro w;go_simp;rfl) rfl ?_;refine kr ?_;refine W_ ?_;refine kr ?_;refine KO.fw (off:=23) rfl runUnderlying62 rfl rfl sizeOf59 rfl ?_;refine KO.Il (b:=bt) (off:=3+k *5) (us:=[dn,dn,dn,dn,dn]) rfl rfl (by(simp only[Addr.add_lit];done)) rfl aP (by exact sizeOf57) aP bQ (by rw[QI];show _+5<=45;omega) uf ?_;refine KO.jP (i:=k) rfl rfl runUnderlying59 sizeOf36 rfl ae rfl ?_;refine KO.Il (b:=bt) (off:=23+k *5) (us:=[dn,dn,dn,dn,dn]) rfl rfl (by(simp only[Addr.add_lit];done)) rfl aP (by exact sizeOf36) aP bQ (by rw[zI];show _+5<=45;omega) lg ?_;refine KO.nil ?_
 refine KQ.jr rfl (fun w' aT=>⟨_,_,rfl,⟨rfl,rfl⟩,?_⟩);have oR:=EY (f:=Au) (z:=dn) hk h1 hP (fun L h=>cD h) (aT.pick (A:=bZ Au V.us S.P) bn);have Kb:=EY (f:=iw) (z:=dn) hk h2 hG (fun L h=>cD h) (oR.pick (A:=bZ iw V.vs S.G) bn);exact fG ⟨Gh V.us k,Gh V.vs k,V.os,V.mT,V.mO⟩ ⟨by dsimp only;rw[su];exact h1,by dsimp only;rw[su];exact h2,h3⟩ (Kb.all Y7)
theorem Po(w0:World)(L:List HP)(bt bw k u b:Nat)(S:pc)(hk:k<4)(hu:u<5)(hP:S.P.length=20)(hG:S.G.length=20)(hO:nG b S.ks S.Ls)(hb:b<=500000)(l:List Ms)(g:List Int)(YI:S.P[ix k u]? =some l)(YN:S.G[ix k u]? =some g)(hl:l.length<=1000)(hg:g.length<=1000)(Ur:∀m∈l,0<=m.pri/\m.pri<=9)(sK:(S.T.map (·.1)++l.map (·.id)).Nodup)(OX:g.Nodup)(hgi:∀i∈g,i∈S.T.map (·.1)):
 KC prog 68 #[bp bt,.int .i64 (k:Nat),.int .i64 (u:Nat)] w0 (lP bt bw S::L) (fun v M=>v=.tuple #[]/\M=lP bt bw (tC S k u)::L):=by
 have agD:ix k u<20:=by unfold ix;omega
 have SZ:S.P.getD (ix k u) []=l:=by rw[aq,YI];rfl
 have S0:S.G.getD (ix k u) []=g:=by rw[aq,YN];rfl
 refine KC.mk (n:=105) func68 rfl ntmps68 aj ?_;refine oW ?_;refine K.cq (fun _ h=>jF h) ?_;rintro⟨⟨us,vs,os,mT,mO⟩,hV⟩;dsimp only;obtain⟨h1,h2,h3⟩:=hV;dsimp only at h1 h2 h3;obtain⟨uv,huv⟩:∃e,us[ix k u]? =some e:=⟨us[ix k u],ao ae⟩;obtain⟨vv,hvv⟩:∃e,vs[ix k u]? =some e:=⟨vs[ix k u],ao ae⟩;refine VP ?_;refine K.fact (fun _ hs=>aU hs) ?_;rintro⟨a1,c1,rfl,qP⟩;refine VR ?_;refine K.fact (fun _ hs=>aU hs) ?_;rintro⟨a2,c2,rfl,Nf⟩;have hcu:=LP (bw:=bw) (n:=S.n) (V:=⟨us,vs,os,mT,mO⟩) huv;have hcv:=LO (bw:=bw) (n:=S.n) (V:=⟨us,vs,os,mT,mO⟩) h1 hvv;have UN:=Ty (bw:=bw) (n:=S.n) (V:=⟨us,vs,os,mT,mO⟩) h1 h2;have hlen:=pX (bw:=bw) (n:=S.n) (V:=⟨us,vs,os,mT,mO⟩) h1 h2;refine iX ?_;refine lq ?_;refine W_ ?_;refine Oq ?_;refine KO.db (i:=3+ix k u) rfl rfl isAgg49 bn O9 hcu rfl ?_;refine CU ?_;refine K.loop (fun s:Nat×List Value=>[(0,bp bt),(1,.int .i64 (k:Nat)),(2,.int .i64 (u:Nat)),(20,.slice a1 l.length c1),(21,.int .i64 (l.length:Nat)),(22,.int .i64 (s.1:Nat))])
  (fun s=>bV (Value.int .i64) mT (BT ((l.take s.1).foldl (vO k) ⟨S.T,S.ks,S.Ls⟩).T)::bV (Value.int .i64) mO (((l.take s.1).foldl (vO k) ⟨S.T,S.ks,S.Ls⟩).ks.zip s.2)::bZ iw s.2 ((l.take s.1).foldl (vO k) ⟨S.T,S.ks,S.Ls⟩).Ls::Au (.slice a1 l.length c1) l::bZ Au (us.eraseIdx (ix k u)) (S.P.eraseIdx (ix k u))::bI bt (.cells (qJ bw ⟨us,vs,os,mT,mO⟩ S.n).toArray 62 (0,0))::iw (.slice a2 g.length c2) g::bZ iw (vs.eraseIdx (ix k u)) (S.G.eraseIdx (ix k u))::L)
  (fun s=>s.1<=l.length/\s.2.length=((l.take s.1).foldl (vO k) ⟨S.T,S.ks,S.Ls⟩).ks.length) (fun s=>l.length-s.1) (0,os) ⟨aV _,h3⟩ ⟨rfl,rfl,rfl,rfl,rfl,rfl,trivial⟩ (fun w' aT=>by exact aT.all Y7) ?_
 rintro⟨j,FJ⟩ ⟨hj,Ci⟩;dsimp only at hj Ci ⊢;have QZ:=nG.ovs (k:=k) (l.take j) (s:=⟨S.T,S.ks,S.Ls⟩) hO;have hlj:(l.take j).length<=1000:=by rw[bA];omega
 refine hF ?_;refine K.br rfl (fun h4=>?_) (fun h4=>?_)
 ·obtain⟨m,hm⟩:∃e,l[j]? =some e:=⟨l[j],ao ae⟩;obtain⟨g1,rfl⟩:=qP ae;have dw:=yM (f:=vO k) hm ⟨S.T,S.ks,S.Ls⟩;have Qy:=Ur m (ax hm);generalize (l.take j).foldl (vO k) ⟨S.T,S.ks,S.Ls⟩=s at Ci QZ dw ⊢;obtain⟨sT,sk,sL⟩:=s;dsimp only at Ci QZ ⊢;have vY:l[j]? =some ⟨m.id,m.pri,m.body,m.queue,m.ck⟩:=hm;refine oY ?_;refine KO.eF (i:=j) rfl rfl runUnderlying49 sizeOf44 rfl ae rfl ?_;refine KO.vS (i:=j) (sz:=5) (cf:=dh) rfl rfl isAgg44 sizeOf44 bn (fun _=>rfl) vY rfl ?_;refine KO.alloc rfl zeroValue44 aP rfl ?_;intro b7;refine zn ?_;refine K.draw [.pure,.pure,.pure,.read,.pure,.read,.read,.write] [0,1,2,3,4,5,6,7] bC bC ?_;refine lq ?_;refine W7 ?_;refine HU ?_;refine CZ ?_;refine KO.Tt (v:=.agg (dh m).toArray) jN m.id rfl rfl rfl aP underlying56 underlying3 bn ?_;rw[Pq];refine wA ?_;refine N4 ?_;refine zL ?_;refine Z1 ?_;refine zp ?_;refine Z2 ?_;refine K.br rfl (fun h5=>?_) (fun h5=>?_)
  ·have Uu:vO k ⟨sT,sk,sL⟩ m=⟨fL sT m.id m,D6 sk ((k:Int)*100+m.pri),D5 sk sL ((k:Int)*100+m.pri) m.id⟩:=by unfold vO;rw[if_pos (by simpa using h5)]
   rw[Uu]at dw;refine jB ?_;refine KO.mul rfl rfl rfl ae rfl ?_;refine Vx ?_;refine KO.ld (v:=.int .i64 m.pri) rfl rfl isAgg3 bn aP rfl ?_;refine xc ?_;refine qE ?_;cases hi:vP sk ((k:Int)*100+m.pri)with
   |none=>
    have Ba:D6 sk ((k:Int)*100+m.pri)=sk++[(k:Int)*100+m.pri]:=by unfold D6;rw[hi]
    have hL1:D5 sk sL ((k:Int)*100+m.pri) m.id=sL++[[m.id]]:=by unfold D5;rw[hi]
    rw[Ba,hL1]at dw;have kC:(en (sk.zip FJ) ((k:Int)*100+m.pri)).getD (.slice none 0 0)=.slice none 0 0:=by rw[BL _ _ _ Ci,hi];rfl
    refine K.conv (fun w' hw'=>cD (E:=3) (sz:=1) (cf:=iC) hw') ?_
    refine K.I1 [.pure,.pure,.pure,.read,.pure,.pure,.pure,.pure,.read,.pure,.read,.pure,.read,.c7,.write,.write] [(3,14)] [[0,1,2,3,4,5,6,7,8,9,10,11,12,13,14,15],[0,1,2,4,5,6,7,8,9,10,11,12,13,14,3,15]] bC bC bC ⟨?_,?_,trivial⟩
    focus
     show KO _ _ _ _ _ _ _ _ _ _
     refine lq ?_;refine W9 ?_;refine rP ?_;refine W9 ?_;refine Z1 ?_;refine KO.Ek jN ((k:Int)*100+m.pri) rfl rfl rfl underlying60 underlying3 zeroValue23 bn rfl ?_;rw[kC];refine Hl ?_;refine KO.kL (z:=(Value.int .i64 0)) (sz:=1) (dI:=8) rfl rfl underlying23 bC aP aP ai ai rfl ?_;intro b55;refine KO.app (cf:=iC) (z:=Value.int .i64 0) (sz:=1) (dI:=8) (xs:=[]) rfl rfl rfl (.tail .head) .head underlying23 bC aP m.id rfl rfl rfl aj ai rfl ?_;intro LG;refine KO.fact (fun _ hs=>aU hs) ?_;rintro⟨a56,k56,Uk,-⟩;refine KO.Tt jN ((k:Int)*100+m.pri) rfl rfl rfl rfl underlying60 underlying3 bn ?_;rw[nK _ _ _ _ Ci hi];refine Ti ?_
    rotate_left
    focus
     show KO _ _ _ _ _ _ _ _ _ _
     refine lq ?_;refine KO.fw (off:=43) rfl runUnderlying62 rfl rfl sizeOf60 rfl ?_;refine rP ?_;refine W9 ?_;refine Z1 ?_;refine KO.Ek jN ((k:Int)*100+m.pri) rfl rfl rfl underlying60 underlying3 zeroValue23 bn rfl ?_;rw[kC];refine Hl ?_;refine KO.kL (z:=(Value.int .i64 0)) (sz:=1) (dI:=8) rfl rfl underlying23 bC aP aP ai ai rfl ?_;intro b55;refine KO.app (cf:=iC) (z:=Value.int .i64 0) (sz:=1) (dI:=8) (xs:=[]) rfl rfl rfl (.tail .head) .head underlying23 bC aP m.id rfl rfl rfl aj ai rfl ?_;intro LG;refine KO.fact (fun _ hs=>aU hs) ?_;rintro⟨a56,k56,Uk,-⟩;refine KO.db (i:=43) rfl rfl isAgg60 bn rfl UN rfl ?_;refine KO.Tt jN ((k:Int)*100+m.pri) rfl rfl rfl rfl underlying60 underlying3 bn ?_;rw[nK _ _ _ _ Ci hi];refine Ti ?_
    rotate_left
    all_goals (
     refine O6 ?_;refine KQ.round (j+1,FJ++[LG]) ⟨by dsimp only;omega,by dsimp only;rw[dw];simp[Ci]⟩ gV ⟨rfl,rfl,rfl,rfl,rfl,rfl,trivial⟩ (fun w' aT=>?_);dsimp only;rw[dw];have oR:=IY (f:=iw) (p:=LG) (x:=[m.id]) (by rw[Ci,QZ.len]) (aT.all (M:=iw LG [m.id]::bZ iw FJ sL::bV (Value.int .i64) mT (BT (fL sT m.id m))::bV (Value.int .i64) mO ((sk++[(k:Int)*100+m.pri]).zip (FJ++[LG]))::Au (.slice (some ⟨g1,0,none⟩) l.length c1) l::bZ Au (us.eraseIdx (ix k u)) (S.P.eraseIdx (ix k u))::bI bt (.cells (qJ bw ⟨us,vs,os,mT,mO⟩ S.n).toArray 62 (0,0))::iw (.slice a2 g.length c2) g::bZ iw (vs.eraseIdx (ix k u)) (S.G.eraseIdx (ix k u))::L) Y5)
     exact oR.all Y7)
   |some i=>
    have oG:=Iv hi;obtain⟨ov,X8⟩:∃e,FJ[i]? =some e:=⟨_,ao (show i<FJ.length by omega)⟩;obtain⟨Li,hLi⟩:∃e,sL[i]? =some e:=⟨_,ao (show i<sL.length by have :=QZ.len;omega)⟩;have hLs:=QZ.small Li (ax hLi);have Ba:D6 sk ((k:Int)*100+m.pri)=sk:=by unfold D6;rw[hi]
    have hL1:D5 sk sL ((k:Int)*100+m.pri) m.id=sL.set i (Li++[m.id]):=by unfold D5;rw[hi];dsimp only;rw[aq,hLi];rfl
    rw[Ba,hL1]at dw;refine K.conv (fun w' hw'=>dj X8 hLi (hw'.pick (A:=bZ iw FJ sL) bn)) ?_
    refine K.fact (fun _ hs=>aU hs) ?_;rintro⟨a3,c3,rfl,UG⟩;have kC:(en (sk.zip FJ) ((k:Int)*100+m.pri)).getD (.slice none 0 0)=.slice a3 Li.length c3:=by rw[BL _ _ _ Ci,hi];simp[X8]
    refine K.I1 [.pure,.pure,.pure,.read,.pure,.pure,.pure,.pure,.read,.pure,.read,.pure,.read,.c7,.write,.write] [(3,14)] [[0,1,2,3,4,5,6,7,8,9,10,11,12,13,14,15],[0,1,2,4,5,6,7,8,9,10,11,12,13,14,3,15]] bC bC bC ⟨?_,?_,trivial⟩
    focus
     show KO _ _ _ _ _ _ _ _ _ _
     refine lq ?_;refine W9 ?_;refine rP ?_;refine W9 ?_;refine Z1 ?_;refine KO.Ek jN ((k:Int)*100+m.pri) rfl rfl rfl underlying60 underlying3 zeroValue23 bn rfl ?_;rw[kC];refine Hl ?_;refine KO.kL (z:=(Value.int .i64 0)) (sz:=1) (dI:=8) rfl rfl underlying23 bC aP aP ai ai rfl ?_;intro b55;refine KO.app (cf:=iC) (z:=Value.int .i64 0) (sz:=1) (dI:=8) (xs:=Li) rfl rfl rfl (.tail .head) .head underlying23 bC aP m.id rfl rfl rfl ae ai rfl ?_;intro LG;refine KO.fact (fun _ hs=>aU hs) ?_;rintro⟨a56,k56,Uk,-⟩;refine KO.Tt jN ((k:Int)*100+m.pri) rfl rfl rfl rfl underlying60 underlying3 bn ?_;rw[nJ _ _ _ _ _ Ci hi];refine Ti ?_
    rotate_left
    focus
     show KO _ _ _ _ _ _ _ _ _ _
     refine lq ?_;refine KO.fw (off:=43) rfl runUnderlying62 rfl rfl sizeOf60 rfl ?_;refine rP ?_;refine W9 ?_;refine Z1 ?_;refine KO.Ek jN ((k:Int)*100+m.pri) rfl rfl rfl underlying60 underlying3 zeroValue23 bn rfl ?_;rw[kC];refine Hl ?_;refine KO.kL (z:=(Value.int .i64 0)) (sz:=1) (dI:=8) rfl rfl underlying23 bC aP aP ai ai rfl ?_;intro b55;refine KO.app (cf:=iC) (z:=Value.int .i64 0) (sz:=1) (dI:=8) (xs:=Li) rfl rfl rfl (.tail .head) .head underlying23 bC aP m.id rfl rfl rfl ae ai rfl ?_;intro LG;refine KO.fact (fun _ hs=>aU hs) ?_;rintro⟨a56,k56,Uk,-⟩;refine KO.db (i:=43) rfl rfl isAgg60 bn rfl UN rfl ?_;refine KO.Tt jN ((k:Int)*100+m.pri) rfl rfl rfl rfl underlying60 underlying3 bn ?_;rw[nJ _ _ _ _ _ Ci hi];refine Ti ?_
    rotate_left
    all_goals (
     refine O6 ?_;refine KQ.round (j+1,FJ.set i LG) ⟨by dsimp only;omega,by dsimp only;rw[dw];simp[Ci]⟩ gV ⟨rfl,rfl,rfl,rfl,rfl,rfl,trivial⟩ (fun w' aT=>?_);dsimp only;rw[dw];have oR:=ic (f:=iw) (ps:=FJ) (xs:=sL) (i:=i) (p:=LG) (x:=Li++[m.id]) ae (by have :=QZ.len;omega) (aT.all (M:=iw LG (Li++[m.id])::bZ iw (FJ.eraseIdx i) (sL.eraseIdx i)::bV (Value.int .i64) mT (BT (fL sT m.id m))::bV (Value.int .i64) mO (sk.zip (FJ.set i LG))::Au (.slice (some ⟨g1,0,none⟩) l.length c1) l::bZ Au (us.eraseIdx (ix k u)) (S.P.eraseIdx (ix k u))::bI bt (.cells (qJ bw ⟨us,vs,os,mT,mO⟩ S.n).toArray 62 (0,0))::iw (.slice a2 g.length c2) g::bZ iw (vs.eraseIdx (ix k u)) (S.G.eraseIdx (ix k u))::L) Y5)
     exact oR.all Y7)
  ·have Uu:vO k ⟨sT,sk,sL⟩ m=⟨fL sT m.id m,sk,sL⟩:=by unfold vO;rw[if_neg (by simpa using h5)]
   rw[Uu]at dw;refine qF ?_;refine KQ.round (j+1,FJ) ⟨by dsimp only;omega,by dsimp only;rw[dw];exact Ci⟩ gV ⟨rfl,rfl,rfl,rfl,rfl,rfl,trivial⟩ (fun w' aT=>?_);dsimp only;rw[dw];exact aT.all Y5
 obtain rfl:j=l.length:=by omega
 rw[List.take_length]at Ci QZ ⊢;have O1:=Me k l ⟨S.T,S.ks,S.Ls⟩ sK;dsimp only at O1;have UX:((l.foldl (vO k) ⟨S.T,S.ks,S.Ls⟩).T.map (·.1))=S.T.map (·.1)++l.map (·.id):=by
  rw[O1,aN,List.map_map];rfl
 have Uu:tC S k u={S with T:=(g.foldl K_ ((l.foldl (vO k) ⟨S.T,S.ks,S.Ls⟩).T,S.ok)).1,ks:=(l.foldl (vO k) ⟨S.T,S.ks,S.Ls⟩).ks,Ls:=(l.foldl (vO k) ⟨S.T,S.ks,S.Ls⟩).Ls,ok:=(g.foldl K_ ((l.foldl (vO k) ⟨S.T,S.ks,S.Ls⟩).T,S.ok)).2,P:=S.P.set (ix k u) [],G:=S.G.set (ix k u) []}:=by
  unfold tC;rw[SZ,S0]
 rw[Uu];generalize l.foldl (vO k) ⟨S.T,S.ks,S.Ls⟩=s at Ci QZ UX ⊢;obtain⟨sT,sk,sL⟩:=s;dsimp only at Ci QZ UX ⊢;have hTn:(sT.map (·.1)).Nodup:=by rw[UX];exact sK
 have hTg:∀i∈g,i∈sT.map (·.1):=fun i hi=>by rw[UX];exact List.mem_append_left _ (hgi i hi)
 refine Z9 ?_;refine iX ?_;refine lq ?_;refine Zu ?_;refine Oo ?_;refine KO.db (i:=23+ix k u) rfl rfl isAgg23 bn O9 hcv rfl ?_;refine rV ?_;refine mK ?_;refine K.loop (fun j:Nat=>[(0,bp bt),(1,.int .i64 (k:Nat)),(2,.int .i64 (u:Nat)),(65,.slice a2 g.length c2),(66,.int .i64 (g.length:Nat)),(67,.int .i64 (j:Nat))])
  (fun j=>bV (Value.int .i64) mT (BT ((g.take j).foldl K_ (sT,S.ok)).1)::bV (Value.int .i64) mO (sk.zip FJ)::bZ iw FJ sL::Au (.slice a1 l.length c1) l::bZ Au (us.eraseIdx (ix k u)) (S.P.eraseIdx (ix k u))::bI bt (.cells (qJ bw ⟨us,vs,os,mT,mO⟩ S.n).toArray 62 (0,0))::iw (.slice a2 g.length c2) g::bZ iw (vs.eraseIdx (ix k u)) (S.G.eraseIdx (ix k u))::L)
  (fun j=>j<=g.length) (fun j=>g.length-j) 0 (aV _) ⟨rfl,rfl,rfl,rfl,rfl,rfl,trivial⟩ (fun w' aT=>by exact aT.all nI) ?_
 intro j hj;refine hF ?_;refine K.br rfl (fun h5=>?_) (fun h5=>?_)
 ·obtain⟨y,hy⟩:∃e,g[j]? =some e:=⟨g[j],ao ae⟩;obtain⟨g2,rfl⟩:=Nf ae;have dw:=yM (f:=K_) hy (sT,S.ok);have hgt:(g.take j).Nodup/\y∉g.take j:=by
   have h6:(g.take (j+1)).Nodup:=OX.sublist (List.take_sublist _ _);rw[bG hy,List.nodup_append]at h6;exact⟨h6.1,fun hm=>h6.2.2 y hm y aj rfl⟩
  have hTj:=wR (g.take j) sT S.ok hTn hgt.1 (fun i hi=>hTg i (List.mem_of_mem_take hi));obtain⟨m,hmT⟩:∃m,en ((g.take j).foldl K_ (sT,S.ok)).1 y=some m:=by
   obtain⟨x,hx,e⟩:=ay.1 (hTg y (ax hy));refine⟨x.2,?_⟩;rw[hTj,<-e];refine yL (hTn.sublist (List.filter_sublist.map _)) (aB.2 ⟨hx,?_⟩);rw[e,decide_eq_false hgt.2];rfl
  have XZ:((g.take (j+1)).foldl K_ (sT,S.ok)).1=pH ((g.take j).foldl K_ (sT,S.ok)).1 y:=by rw[dw];rfl
  generalize ((g.take j).foldl K_ (sT,S.ok)).1=tj at hmT XZ ⊢;have Co:en (BT tj) y=some (.agg (dh m).toArray):=by rw[BS,hmT];rfl
  refine oY ?_;refine KO.eF rfl rfl runUnderlying23 sizeOf3 aP ae rfl ?_;refine KO.ia rfl rfl isAgg3 bn (fun _=>rfl) tr aP aP rfl ?_;refine uN ?_;refine W7 ?_;refine Z1 ?_;refine KO.AY jN y rfl rfl rfl underlying56 underlying3 zeroValue44 bQ rfl ?_;rw[Co];refine Fh ?_;refine KO.alloc rfl zeroValue44 aP rfl ?_;intro b11;refine Jc ?_;refine lL ?_;refine oV ?_;refine Hj ?_;refine FD ?_;refine kX ?_;refine W7 ?_;refine Z1 ?_;refine KO.adC jN y rfl rfl rfl underlying56 underlying3 bn ?_;rw[Ps];refine s8 ?_;refine KQ.round (j+1) ae ae ⟨rfl,rfl,rfl,rfl,rfl,rfl,trivial⟩ (fun w' aT=>?_);rw[XZ];exact aT.all Y5
 obtain rfl:j=g.length:=by omega
 rw[List.take_length];have jY:(g.foldl K_ (sT,S.ok)).2=S.ok:=by rw[wR g sT S.ok hTn OX hTg]
 have acN:=tF (bw:=bw) (n:=S.n) (V:=⟨us,vs,os,mT,mO⟩) (i:=ix k u) gV dn;have acM:=tE (bw:=bw) (n:=S.n) (V:=⟨us.set (ix k u) dn,vs,os,mT,mO⟩) (i:=ix k u) K6 gV dn;have pD:=pX (bw:=bw) (n:=S.n) (V:=⟨us.set (ix k u) dn,vs,os,mT,mO⟩) K6 h2;refine R8 ?_;refine ZN ?_;refine oZ ?_;refine lq ?_;refine W_ ?_;refine Oq ?_;refine kr ?_;refine Zu ?_;refine KO.fX (v:=dn) (b:=bt) (i:=3+ix k u) rfl rfl aP rfl Y43 rfl bn O9 (by rw[hlen];omega) ?_;rw[acN];refine Oo ?_;refine KO.fX (v:=dn) (b:=bt) (i:=23+ix k u) rfl rfl aP rfl Z_ rfl bQ O9 (by rw[pD];omega) ?_;rw[acM];refine KO.nil ?_;refine KQ.jr rfl (fun w' aT=>⟨_,_,rfl,⟨rfl,rfl⟩,?_⟩);have oR:=ic (f:=Au) (ps:=us) (xs:=S.P) (i:=ix k u) (p:=dn) (x:=[]) ae ae (cD (aT.pick (A:=bZ Au (us.eraseIdx (ix k u)) (S.P.eraseIdx (ix k u))) bn));have Kb:=ic (f:=iw) (ps:=vs) (xs:=S.G) (i:=ix k u) (p:=dn) (x:=[]) ae ae (cD (oR.pick (A:=bZ iw (vs.eraseIdx (ix k u)) (S.G.eraseIdx (ix k u))) bn));refine fG ⟨us.set (ix k u) dn,vs.set (ix k u) dn,FJ,mT,mO⟩ ⟨by simpa using h1,by simpa using h2,Ci⟩ (Kb.all Y5)
end Go.Proofs.YtjhogocabcdjbabGreatDoor
