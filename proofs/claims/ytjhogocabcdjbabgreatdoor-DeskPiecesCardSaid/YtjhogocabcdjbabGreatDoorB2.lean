import Derived.Maps.OwnOps
import Derived.Lib.SliceRun
import Derived.Lib.CutLaws
import Derived.Lib.Strings
import Derived.Recover
import Derived.Lib.AppendStr
import Derived.Lib.AtoiAllCases
import Derived.Lib.ParseIntBTie
import Derived.Maps.RangeRun
import Derived.Shelf.SlSortFuncK.WholeK
import Derived.Shelf.GgSortFunc.Tiny
import Derived.Lib.AppendIntMem
import Derived.Sort.EncStr
import Derived.Test.YtjhogocabcdjbabGreatDoorB1
set_option linter.unusedSimpArgs false
set_option linter.unusedVariables false
set_option maxRecDepth 100000
set_option maxHeartbeats 8000000
namespace Go.Proofs.YtjhogocabcdjbabGreatDoor
open Tryz
open Go Go.RowKit WB
def R6 (L:List HP) (s:ak) (u:Value) (M:List HP):Prop:=
 match qZ s with
 |some xs=> ∃v,u=.tuple #[v,.nilIface]/\M=SL 44 5 dN v xs::L
 |none=>u=.tuple #[.slice none 0 0,cz 70 3]/\M=L
def Rn (x y z:Int):Nat->List Value
 |0=>[.int .i64 0,.int .i64 0,.int .i64 0,.int .i64 0,.int .i64 0]
 |1=>[.int .i64 x,.int .i64 0,.int .i64 0,.int .i64 0,.int .i64 0]
 |2=>[.int .i64 x,.int .i64 y,.int .i64 0,.int .i64 0,.int .i64 0]
 |_=>[.int .i64 x,.int .i64 y,.int .i64 0,.int .i64 0,.int .i64 z]
def L2 (b4 b3 b2:Nat) (v e:Value) (xs:List Ms):List HP:=[bD b4 (.cells [v].toArray 49 (0,0)),bD b3 (.cells [e].toArray 31 (0,0)),bD b2 (.cells [.slice none 0 0].toArray 49 (0,0)),SL 44 5 dN v xs]
def rdC (s:ak) (b4 b3 b2:Nat) (k:Nat) (M:List HP):Prop:= ∃v xs,M=L2 b4 b3 b2 v .nilIface xs/\ei ((cH 43 s).take k)=some xs
def rdX (s:ak) (b4 b3 b2:Nat) (M:List HP):Prop:=(∃v xs,M=L2 b4 b3 b2 v (cz 70 3) xs)/\ei (cH 43 s)=none
theorem Mr:(prog.info? 44).map (fun i=>(i.zero,i.size,i.bytes))=some (some (Value.agg #[.int .i64 0,.int .i64 0,.string ⟨#[]⟩,.string ⟨#[]⟩,.int .i64 0]),5,56):=by kernel_rfl
theorem oa(w0:World)(L:List HP)(s:ak)(hs:s.size<=90000)(DT:nI w0)(Gl:oB w0):KE prog 160 #[.string s] w0 L (R6 L s):=by
 refine KE.mkM (n:=74) func160 rfl ntmps160 aj ?_;intro w hw;have hT:=DT.ext (Ext.bB hw.below);have hM:=Gl.ext (Ext.bB hw.below);unfold R6;refine Z2 ?_;refine KO.alloc rfl zeroValue49 aL rfl ?_;intro b2;refine KO.alloc rfl zeroValue31 aL rfl ?_;intro b3;refine Z0 ?_;by_cases h0:s=⟨#[]⟩
 ·have e0:qZ s=some []:=by unfold qZ;rw[if_pos h0]
  rw[e0];refine Z7 ?_;refine yv ?_;refine Z5 ?_;refine K.cA rfl XG ?_;refine Z2 ?_;refine Ti ?_;refine Z3 ?_;refine KQ.T6 rfl rfl rfl isAgg49 isAgg31 aX bE (fun w' hs=>⟨_,_,rfl,⟨_,rfl,rfl⟩,?_,hs.below⟩);exact cL (hw.aA hs.below)
 refine Z7 ?_;refine yv ?_;refine Z5 ?_;refine K.cP rfl XG ?_;refine oR ?_;refine KO.alloc rfl zeroValue49 aL rfl ?_;intro b4;refine oy ?_;refine KO.ce (cp:=[]) rfl rfl rfl call113 rfl (Sg w _ s ⟨#[43]⟩) ?_;rintro v' L' ⟨i4,i3,i5,rfl,rfl⟩;refine KO.nil ?_;refine KQ.next ?_
 refine K.block ?_;refine K.conv (L':=uE i4 i3 i5 s ⟨#[43]⟩++L2 b4 b3 b2 (.slice none 0 0) .nilIface []) (fun w hw=>?_) ?_
 ·simp only[L2,uE,bn,List.nil_append]at hw ⊢;exact(cL hw).all Y3
 have hlen:(cH 43 s).length<=s.size+1:=by unfold cH;rw[aV,fR];have :=List.count_le_length (a:=43) (l:=s.data.toList);rw[jE];omega
 refine K.CJ (rdC s b4 b3 b2) (rdX s b4 b3 b2) (G2:=fun q=>[(5,.string q),(0,.string s),(2,.pointer (some ⟨b2,0,none⟩)),(3,.pointer (some ⟨b3,0,none⟩)),(4,.pointer (some ⟨b4,0,none⟩))]) rfl rfl ae ⟨_,_,rfl,rfl⟩ ?_ ?_ ?_ ?_
 ·intro l N q;refine KR.FA bm (fun a w h=>by exact h) ?_;refine oz ?_;exact KQ.qc () trivial ⟨rfl,rfl,rfl,rfl,rfl,trivial⟩ (fun _ h=>h)
 ·rintro k q M l N RQ hq ⟨v,xs,rfl,oc⟩ og Xm MY;have qd:xs.length<100000:=by have :=qV oc;rw[bp]at this;omega
  have hqs:q.size<=90000:=by have :=gK (ax hq);omega
  simp only[L2,bn,List.nil_append]
  repeat(first|(with_reducible refine KR.seq ?_)|(with_reducible refine KR.block ?_))
  refine BF ?_;refine KO.ce (cp:=[]) rfl rfl rfl call133 rfl (kS w _ q 32 ae hM) ?_;rintro v' L' ⟨bq,rfl,rfl⟩;refine y7 ?_;by_cases h5:(cH 32 q).length=5
  case neg=>
   refine BF ?_;refine N1 ?_;refine EJ ?_;refine KR.cA rfl fV ?_;refine EI ?_;refine rC ?_;refine Ti ?_;refine KO.nil ?_;refine Z81 ?_;refine MY _ _ ⟨⟨_,_,rfl⟩,ko (p:=q) ?_ (ax hq)⟩;unfold fB;split
   ·rename_i h;rw[h]at h5;exact absurd rfl h5
   ·rfl
  refine BF ?_;refine N1 ?_;refine EJ ?_;refine KR.cP rfl fV ?_
  repeat(first|(with_reducible refine KR.seq ?_)|(with_reducible refine KQ.r_ ?_)|(with_reducible refine KR.skip ?_))
  obtain⟨wa,wb,wc,wd,we,rG⟩:∃wa wb wc wd we,cH 32 q=[wa,wb,wc,wd,we]:=by
   generalize cH 32 q=l at h5
   match l,h5 with
   |[a,b,c,d,e],_=>exact⟨a,b,c,d,e,rfl⟩
  have OJ:∀x∈[wa,wb,wc,wd,we],x.size<=100000000:=fun x hx=>by have :=gK (c:=32) (s:=q) (p:=x) (by rw[rG];exact hx);omega
  rw[rG];refine K5 ?_;refine KO.alloc rfl zeroValue333 aL rfl ?_;intro b7;refine XD ?_;refine K5 ?_;refine KO.bld rfl (by intro w;go_simp;rfl) rfl ?_;refine Z69 ?_
  repeat(first|(with_reducible refine KQ.r_ ?_)|(with_reducible refine KR.block ?_))
  obtain⟨x,hx⟩:∃x,x=(dM wa).getD 0:=⟨_,rfl⟩;obtain⟨y,hy⟩:∃x,x=(dM wb).getD 0:=⟨_,rfl⟩;obtain⟨z,hz⟩:∃x,x=(dM we).getD 0:=⟨_,rfl⟩;refine KR.loop (fun i:Nat=>[(26,.int .i64 (i:Nat)),(25,.agg [.int .i64 0,.int .i64 1,.int .i64 4].toArray),(7,.pointer (some ⟨b7,0,none⟩)),(6,.slice (some ⟨bq,0,none⟩) 5 5),(5,.string q),(0,.string s),(2,.pointer (some ⟨b2,0,none⟩)),(3,.pointer (some ⟨b3,0,none⟩)),(4,.pointer (some ⟨b4,0,none⟩))])
   (fun i=>bD b7 (.cells (Rn x y z i).toArray 333 (0,0))::iR (.slice (some ⟨bq,0,none⟩) 5 5) [wa,wb,wc,wd,we]::(L2 b4 b3 b2 v .nilIface xs++N))
   (fun i=>i<=3/\(0<i->dM wa=some x)/\(1<i->dM wb=some y)/\(2<i->dM we=some z)) (fun i=>3-i) 0
   ⟨by omega,fun h=>by omega,fun h=>by omega,fun h=>by omega⟩ ⟨rfl,rfl,rfl,rfl,rfl,rfl,rfl,rfl,rfl,trivial⟩ (fun w hw=>hw.all mH) ?_
  rintro i ⟨hi,mD,kJ,hp3⟩;have qC:i=0\/i=1\/i=2\/i=3:=by omega
  simp only[L2,bn,List.nil_append];rcases qC with rfl|rfl|rfl|rfl
  ·
   refine EI ?_;refine vz ?_;refine XD ?_;refine Wz ?_;refine K5 ?_;refine KO.MO (cs:=[.int .i64 0,.int .i64 1,.int .i64 4]) (i:=0) rfl rfl underlying334 isAgg3 sizeOf3 rfl ai rfl rfl ?_;refine y7 ?_;cases hn:dM wa with
   |none=>
    refine aaO ?_;refine Wq ?_;refine KO.ce (cp:=[]) rfl rfl rfl call136 rfl (fH w _ wa (OJ wa aj) hM) ?_;rintro v' L' ⟨hR,rfl⟩;unfold ia at hR;rw[hn]at hR;obtain⟨xx,TT,yy,rfl⟩:=hR;refine N2 ?_;refine y7 ?_;refine BF ?_;refine zc ?_;refine EJ ?_;refine KR.cA rfl rfl ?_;refine EI ?_;refine rC ?_;refine Ti ?_;refine KO.nil ?_;refine Z81 ?_;refine MY _ _ ⟨⟨_,_,rfl⟩,ko (p:=q) ?_ (ax hq)⟩;unfold fB;rw[rG];simp only[];rw[hn]
    all_goals (cases dM wa<;>cases dM wb<;>cases dM we<;>rfl)
   |some vv=>
    have YG:vv=x:=by rw[hx,hn];rfl
    refine aaO ?_;refine Wq ?_;refine KO.ce (cp:=[]) rfl rfl rfl call136 rfl (fH w _ wa (OJ wa aj) hM) ?_;rintro v' L' ⟨hR,rfl⟩;unfold ia at hR;rw[hn]at hR;subst hR;refine N2 ?_;refine y7 ?_;refine BF ?_;refine qo ?_;refine EJ ?_;refine Wr ?_;refine EB ?_;refine KO.mC (i:=0) rfl rfl runUnderlying333 sizeOf3 rfl ai rfl ?_;refine KO.iA (i:=0) rfl rfl rfl aL AB rfl bE (by rfl) (by simp[Rn]) ?_;refine Wp ?_;refine K5 ?_;refine Z76 ?_;subst YG;refine KQ.round 1 ⟨by omega,fun h=>?_,fun h=>?_,fun h=>?_⟩ ai ⟨rfl,rfl,rfl,rfl,rfl,rfl,rfl,rfl,rfl,trivial⟩ (fun w hw=>hw.all mH)
    all_goals first|omega|rfl
  ·
   refine EI ?_;refine vz ?_;refine XD ?_;refine Wz ?_;refine K5 ?_;refine KO.MO (cs:=[.int .i64 0,.int .i64 1,.int .i64 4]) (i:=1) rfl rfl underlying334 isAgg3 sizeOf3 rfl ai rfl rfl ?_;refine y7 ?_;cases hn:dM wb with
   |none=>
    refine EB ?_;refine abf ?_;refine KO.ce (cp:=[]) rfl rfl rfl call136 rfl (fH w _ wb (OJ wb aj) hM) ?_;rintro v' L' ⟨hR,rfl⟩;unfold ia at hR;rw[hn]at hR;obtain⟨xx,TT,yy,rfl⟩:=hR;refine N2 ?_;refine y7 ?_;refine BF ?_;refine zc ?_;refine EJ ?_;refine KR.cA rfl rfl ?_;refine EI ?_;refine rC ?_;refine Ti ?_;refine KO.nil ?_;refine Z81 ?_;refine MY _ _ ⟨⟨_,_,rfl⟩,ko (p:=q) ?_ (ax hq)⟩;unfold fB;rw[rG];simp only[];rw[hn]
    all_goals (cases dM wa<;>cases dM wb<;>cases dM we<;>rfl)
   |some vv=>
    have YG:vv=y:=by rw[hy,hn];rfl
    refine EB ?_;refine abf ?_;refine KO.ce (cp:=[]) rfl rfl rfl call136 rfl (fH w _ wb (OJ wb aj) hM) ?_;rintro v' L' ⟨hR,rfl⟩;unfold ia at hR;rw[hn]at hR;subst hR;refine N2 ?_;refine y7 ?_;refine BF ?_;refine qo ?_;refine EJ ?_;refine Wr ?_;refine EB ?_;refine KO.mC (i:=1) rfl rfl runUnderlying333 sizeOf3 rfl ai rfl ?_;refine KO.iA (i:=1) rfl rfl rfl aL AB rfl bE (by rfl) (by simp[Rn]) ?_;refine Wp ?_;refine K5 ?_;refine Z76 ?_;subst YG;refine KQ.round 2 ⟨by omega,fun h=>?_,fun h=>?_,fun h=>?_⟩ ai ⟨rfl,rfl,rfl,rfl,rfl,rfl,rfl,rfl,rfl,trivial⟩ (fun w hw=>hw.all mH)
    all_goals first|omega|rfl|exact mD ae
  ·
   refine EI ?_;refine vz ?_;refine XD ?_;refine Wz ?_;refine K5 ?_;refine KO.MO (cs:=[.int .i64 0,.int .i64 1,.int .i64 4]) (i:=2) rfl rfl underlying334 isAgg3 sizeOf3 rfl ai rfl rfl ?_;refine y7 ?_;cases hn:dM we with
   |none=>
    refine EB ?_;refine abe ?_;refine KO.ce (cp:=[]) rfl rfl rfl call136 rfl (fH w _ we (OJ we aj) hM) ?_;rintro v' L' ⟨hR,rfl⟩;unfold ia at hR;rw[hn]at hR;obtain⟨xx,TT,yy,rfl⟩:=hR;refine N2 ?_;refine y7 ?_;refine BF ?_;refine zc ?_;refine EJ ?_;refine KR.cA rfl rfl ?_;refine EI ?_;refine rC ?_;refine Ti ?_;refine KO.nil ?_;refine Z81 ?_;refine MY _ _ ⟨⟨_,_,rfl⟩,ko (p:=q) ?_ (ax hq)⟩;unfold fB;rw[rG];simp only[];rw[hn]
    all_goals (cases dM wa<;>cases dM wb<;>cases dM we<;>rfl)
   |some vv=>
    have YG:vv=z:=by rw[hz,hn];rfl
    refine EB ?_;refine abe ?_;refine KO.ce (cp:=[]) rfl rfl rfl call136 rfl (fH w _ we (OJ we aj) hM) ?_;rintro v' L' ⟨hR,rfl⟩;unfold ia at hR;rw[hn]at hR;subst hR;refine N2 ?_;refine y7 ?_;refine BF ?_;refine qo ?_;refine EJ ?_;refine Wr ?_;refine EB ?_;refine KO.mC (i:=4) rfl rfl runUnderlying333 sizeOf3 rfl ai rfl ?_;refine KO.iA (i:=4) rfl rfl rfl aL AB rfl bE (by rfl) (by simp[Rn]) ?_;refine Wp ?_;refine K5 ?_;refine Z76 ?_;subst YG;refine KQ.round 3 ⟨by omega,fun h=>?_,fun h=>?_,fun h=>?_⟩ ai ⟨rfl,rfl,rfl,rfl,rfl,rfl,rfl,rfl,rfl,trivial⟩ (fun w hw=>hw.all mH)
    all_goals first|rfl|exact mD ae|exact kJ ae
  ·refine EI ?_;refine vz ?_;refine XD ?_;refine KR.cP rfl rfl ?_
   repeat(first|(with_reducible refine KQ.r_ ?_)|(with_reducible refine KQ.iZ ?_)|(with_reducible refine KQ.kD ?_)|(with_reducible refine KR.exit ?_))
   refine KR.draw [.read,.pure,.read,.pure,.read,.pure,.pure,.read,.pure,.pure,.read,.pure,.read,.pure,.cx,.write,.write] [0,1,2,3,4,5,6,7,8,9,10,11,12,13,14,15,16] bm bm bm (fun a w h=>by exact og a w h) ?_;refine N9 ?_;refine KO.mC (i:=0) rfl rfl runUnderlying333 sizeOf3 rfl ai rfl ?_;refine vG ?_;refine KO.mC (i:=1) rfl rfl runUnderlying333 sizeOf3 rfl ai rfl ?_;refine vG ?_;refine Z1 ?_;refine KO.eN (i:=2) rfl rfl runUnderlying115 sizeOf9 rfl ai rfl ?_;refine aaS ?_;refine Z1 ?_;refine KO.eN (i:=3) rfl rfl runUnderlying115 sizeOf9 rfl ai rfl ?_;refine KO.fJ (i:=3) (sz:=1) (cf:=fI) (e:=wd) rfl rfl isAgg9 aX (fun _=>rfl) rfl aL aL rfl ?_;refine KO.mC (i:=4) rfl rfl runUnderlying333 sizeOf3 rfl ai rfl ?_;refine vG ?_;refine Z64 ?_;refine KO.iN (z:=(Value.agg #[.int .i64 0,.int .i64 0,.string ⟨#[]⟩,.string ⟨#[]⟩,.int .i64 0])) (sz:=5) (cV:=56) rfl rfl underlying49 bm aL aL ai ai rfl ?_;intro b58;refine KO.app (z:=Value.agg #[.int .i64 0,.int .i64 0,.string ⟨#[]⟩,.string ⟨#[]⟩,.int .i64 0]) (sz:=5) (cV:=56) rfl rfl rfl aX bE underlying49 Mr rfl (⟨x,y,wc,wd,z⟩:Ms) aL aL aL ae ai rfl ?_;intro v';refine KO.fact (fun w hw=>aN hw) ?_;rintro⟨sa,cp,rfl,_⟩
   refine KO.lC rfl rfl rfl aL Y47 aL aX aL ?_;refine yD ?_;refine KQ.conv (fun w hw=>hw.all (M:=L2 b4 b3 b2 (.slice sa (xs++[(⟨x,y,wc,wd,z⟩:Ms)]).length cp) .nilIface (xs++[(⟨x,y,wc,wd,z⟩:Ms)])++N) Y5) ?_
   have hpm:fB q=some ⟨x,y,wc,wd,z⟩:=by
    unfold fB;rw[rG];simp only[];rw[mD ae,kJ ae,hp3 ae]
   refine Xm _ _ ⟨_,_,rfl,?_⟩;rw[bA hq,uy oc,hpm];rfl
 ·rintro b M ⟨v,xs,rfl,oc⟩;rw[List.take_length]at oc;have qd:xs.length<=100000:=by have :=qV oc;omega
  have UT:∀m∈xs,m.body.size<=maxLen/\m.queue.size<=maxLen:=fun m hm=>by
   have :=uz (B:=90000) oc (fun p hp=>by have :=gK hp;omega) m hm;unfold maxLen;omega
  have Dz:qZ s=if iX xs=none/\bL xs=s then some xs else none:=by unfold qZ;rw[if_neg h0,oc]
  rw[Dz];simp only[L2];refine aaV ?_;refine K.fact (fun w hw=>aN (hw.pick (.tail (.tail (.tail (.tail .head)))))) ?_;rintro⟨sa,cp,rfl,_⟩;cases hb:iX xs with
  |some kb=>
   rw[if_neg aj];refine dC ?_;refine N9 ?_;refine KO.ce (cp:=[]) rfl rfl rfl call60 rfl (jv w _ _ xs (fun w' hw'=>oS.tf (fun _=>rfl) aX hw') hT UT qd) ?_;rintro v' L' hR;unfold K8 at hR;rw[hb]at hR;obtain⟨be,rfl,rfl⟩:=hR;unfold atV;refine Ha ?_;refine rD ?_;refine sL ?_;refine Z2 ?_;refine rC ?_;refine Ti ?_;refine Z3 ?_;refine KQ.vS aX rfl rfl rfl isAgg49 isAgg31 aX bE (fun w' hs=>⟨_,_,rfl,⟨aL,rfl⟩,hw.aA hs.below,hs.below⟩)
  |none=>
   by_cases rG:bL xs=s
   ·rw[if_pos ⟨rfl,rG⟩];refine dC ?_;refine N9 ?_;refine KO.ce (cp:=[]) rfl rfl rfl call60 rfl (jv w _ _ xs (fun w' hw'=>oS.tf (fun _=>rfl) aX hw') hT UT qd) ?_;rintro v' L' hR;unfold K8 at hR;rw[hb]at hR;obtain⟨rfl,rfl⟩:=hR;refine jY ?_;refine Oa ?_;refine Ez ?_;refine K.cP rfl (by simp[rG]) ?_;refine oR ?_;refine N9 ?_;refine Ti ?_;refine Z4 ?_;refine KQ.vS aX rfl rfl rfl isAgg49 isAgg31 aX bE (fun w' hs=>⟨_,_,rfl,⟨_,rfl,rfl⟩,?_,hs.below⟩);exact hw.stack (M:=[SL 44 5 dN (.slice sa xs.length cp) xs]) (hs.all Y4)
   ·rw[if_neg (fun h=>rG h.2)];refine dC ?_;refine N9 ?_;refine KO.ce (cp:=[]) rfl rfl rfl call60 rfl (jv w _ _ xs (fun w' hw'=>oS.tf (fun _=>rfl) aX hw') hT UT qd) ?_;rintro v' L' hR;unfold K8 at hR;rw[hb]at hR;obtain⟨rfl,rfl⟩:=hR;refine jY ?_;refine Oa ?_;refine Ez ?_;refine K.cA rfl (by simp[rG]) ?_;refine Z2 ?_;refine rC ?_;refine Ti ?_;refine Z3 ?_;refine KQ.vS aX rfl rfl rfl isAgg49 isAgg31 aX bE (fun w' hs=>⟨_,_,rfl,⟨aL,rfl⟩,hw.aA hs.below,hs.below⟩)
 ·rintro b M ⟨⟨v,xs,rfl⟩,hx⟩;have Dz:qZ s=none:=by unfold qZ;rw[if_neg h0,hx]
  rw[Dz];simp only[L2]
  repeat(first|(with_reducible refine KQ.mQ ?_)|(with_reducible refine KQ.wo ?_))
  refine KQ.vS bE rfl rfl rfl isAgg49 isAgg31 aX aX (fun w' hs=>⟨_,_,rfl,⟨aL,rfl⟩,hw.aA hs.below,hs.below⟩)
end Go.Proofs.YtjhogocabcdjbabGreatDoor
namespace WB
open Go Go.RowKit Go.ChangeMaps Go.MapKept
theorem List.oE(s v:Value):∀(l:List MapEntry) (j:Nat),(l.modify j fun e=>{e with key:=s,val:=v}).map (·.born)=l.map (·.born)
 |[],_=>by simp
 |_::_,0=>by simp
 |_::l,j+1=>by simp[List.oE s v l j]
structure KeyLaw {κ:Type} (d:TypeDesc) (kv:κ->Value):Prop where
 isKey:∀k,IsKey d (kv k)
 inj:∀a b,kv a=kv b->a=b
theorem fj:KeyLaw (κ:=ak) .string Value.string:=⟨fun _=>⟨⟩,fun _ _ h=>by cases h;rfl⟩
section
variable {κ:Type} [DecidableEq κ]
def gC {β:Type} (m:List (κ×β)) (k:κ):Option β:=match m with
 |[]=>none
 |x::r=>if x.1=k then some x.2 else gC r k
def kj {β:Type} (m:List (κ×β)) (k:κ) (v:β):List (κ×β):=match m with
 |[]=>[(k,v)]
 |x::r=>if x.1=k then(x.1,v)::r else x::kj r k v
def Gx {β:Type} (m:List (κ×β)) (k:κ):List (κ×β):=match m with
 |[]=>[]
 |x::r=>if x.1=k then r else x::Gx r k
theorem tQ{β:Type}(s t:κ)(v:β):∀m:List (κ×β),gC (kj m s v) t=if s=t then some v else gC m t
 |[]=>rfl
 |x::r=>by
  unfold kj;by_cases h:x.1=s
  ·rw[if_pos h,gC,gC,h];by_cases h2:s=t<;>simp[h2]
  ·rw[if_neg h,gC,gC,tQ s t v r];by_cases h2:x.1=t
   ·have :¬s=t:=fun e=>h (h2.trans e.symm)
    simp[h2,this]
   ·simp[h2]
variable {d:TypeDesc} {kv:κ->Value}
def JU (kv:κ->Value) (es:List MapEntry) (m:List (κ×Value)):Prop:=es.map (fun e=>(e.key,e.val))=m.map (fun x=>(kv x.1,x.2))
structure esB (kv:κ->Value) (es:List MapEntry) (gY:Nat) (m:List (κ×Value)):Prop where
 Vt:JU kv es m
 yH:∀e∈es,e.born<gY
 nodup:(es.map (·.born)).Nodup
def cD (kv:κ->Value) (b:Nat) (m:List (κ×Value)):HP:=ex fun es:Array MapEntry=>ex fun gY:Nat=>sep (CP (esB kv es.toList gY m)) (bD b (.map es gY))
theorem Nu(K:KeyLaw d kv)(s:κ):∀(es:List MapEntry) (m:List (κ×Value)) (i:Nat),JU kv es m->
 (gC m s=none/\Instr.findNow d (kv s) es i=some none/\(∀v gY,JU kv (es++[{key:=kv s,val:=v,born:=gY}]) (kj m s v))/\Gx m s=m)\/
 ∃j e,gC m s=some e.val/\es[j]? =some e/\e.key=kv s/\Instr.findNow d (kv s) es i=some (some (i+j,e.val))/\
  (∀v,JU kv (es.modify j fun e=>{e with key:=kv s,val:=v}) (kj m s v))/\JU kv (es.eraseIdx j) (Gx m s)
 |[],[],i,_=>Or.inl ⟨rfl,rfl,fun v gY=>rfl,rfl⟩
 |[],_::_,_,h=>by simp[JU]at h
 |_::_,[],_,h=>by simp[JU]at h
 |e::es,x::m,i,h=>by
  unfold JU at h;simp only[aT,List.cons.injEq,Prod.mk.injEq]at h;obtain⟨⟨hk,hv⟩,hr⟩:=h;obtain⟨r,Xc,hr2⟩:=sameNow_of_keys (K.isKey s) (show IsKey d e.key by rw[hk];exact K.isKey x.1);by_cases hx:x.1=s
  ·have UL:r=true:=hr2.2 (by rw[hk,hx]);refine Or.inr ⟨0,e,by simp[gC,hx,hv],rfl,by rw[hk,hx],?_,fun v=>?_,?_⟩
   ·unfold Instr.findNow;rw[Xc,UL];rfl
   ·unfold JU;simp[kj,hx];exact hr
   ·unfold JU;simp[Gx,hx];exact hr
  ·have hrf:r=false:=by
    cases r with
    |false=>rfl
    |true=>exact absurd (K.inj _ _ ((hr2.1 rfl).trans hk)) (fun e=>hx e.symm)
   have hf:Instr.findNow d (kv s) (e::es) i=Instr.findNow d (kv s) es (i+1):=by
    conv=>lhs;unfold Instr.findNow
    rw[Xc,hrf]
   rcases Nu K s es m (i+1) hr with⟨h1,h2,h3,h4⟩|⟨j,e0,h1,h2,h3,h4,h5,h6⟩
   ·refine Or.inl ⟨by simp[gC,hx,h1],by rw[hf,h2],fun v gY=>?_,by simp[Gx,hx,h4]⟩;have :=h3 v gY;unfold JU at this ⊢;simp[kj,hx,hk,hv]at this ⊢;exact this
   ·refine Or.inr ⟨j+1,e0,by simp[gC,hx,h1],by simpa using h2,h3,by rw[hf,h4];simp;omega,fun v=>?_,?_⟩
    ·have :=h5 v;unfold JU at this ⊢;simp[kj,hx,hk,hv]at this ⊢;exact this
    ·unfold JU at h6 ⊢;simp[Gx,hx,hk,hv]at h6 ⊢;exact h6
variable {w0 w:World} {L:List HP} {P:Program} {b:Nat} {m:List (κ×Value)}
omit [DecidableEq κ]in
theorem FH(h:St w0 L w):St w0 (cD kv w.heap.size []::L) (w.alloc (.map #[] 0)):=
 St.Bk #[] (St.Bk 0 (St.join (St.u5 (p:=esB kv (#[]:Array MapEntry).toList 0 []) ⟨rfl,(fun e h=>by cases h),.nil⟩ (h.alloc (.map #[] 0)))))
theorem xl(K:KeyLaw d kv)(h:St w0 (cD kv b m::L) w){w1:World}(he:Ext w w1){t k E:TypeId}(ht:P.underlying t=some (.map k E))(hk:P.underlying k=some d){z:Value}(hz:(zeroValue E).run P w1=.ok z w1)(s:κ)(ok:Bool):
 (Instr.lookup t (.map (some b)) (kv s) ok).run P w1=.ok (if ok then .tuple #[(gC m s).getD z,.bool (gC m s).isSome]else(gC m s).getD z) w1:=by
 obtain⟨es,h⟩:=h.B9;obtain⟨gY,h⟩:=h.B9;obtain⟨hr,h⟩:=h.split.qQ;have dI:=h.lt;obtain⟨_,hb⟩:=h.look;have hb:w1.heap[b]? =some (.map es gY):=by rw[he.2 b dI];exact hb
 rcases Nu K s _ m 0 hr.Vt with⟨h2,h3,_,_⟩|⟨j,e,h2,h3,h4,h5,_,_⟩
 ·cases ok<;>simp[Instr.lookup,run_underlying ht,run_getObj_map hb,run_checkKey hk (K.isKey s),run_findKey hk h3,Result.andThen,h2,hz]
 ·cases ok<;>simp[Instr.lookup,run_underlying ht,run_getObj_map hb,run_checkKey hk (K.isKey s),run_findKey hk h5,Result.andThen,h2]
theorem zD(K:KeyLaw d kv)(h:St w0 (cD kv b m::L) w){t k E:TypeId}(ht:P.underlying t=some (.map k E))(hk:P.underlying k=some d)(s:κ)(v:Value):
 ∃w',(Instr.mapUpdate t (.map (some b)) (kv s) v).run P w=.ok () w'/\St w0 (cD kv b (kj m s v)::L) w':=by
 obtain⟨es,h⟩:=h.B9;obtain⟨gY,h⟩:=h.B9;obtain⟨hr,h⟩:=h.split.qQ;obtain⟨_,hb⟩:=h.look;have up:∀(o:Obj),St w0 (bD b o::L) {w with heap:=w.heap.setIfInBounds b o}:=fun o=>
  h.upd rfl rfl rfl aj (by have :=h.lt;simp[this]) (fun k hk=>by simp[Array.getElem?_setIfInBounds,Ne.symm hk])
 rcases Nu K s _ m 0 hr.Vt with⟨_,h3,h4,_⟩|⟨j,e,_,h3,h4,h5,h6,_⟩
 ·refine⟨_,?_,St.Bk (es.push {key:=kv s,val:=v,born:=gY}) (St.Bk (gY+1) (St.join (St.u5 (p:=esB kv (es.push {key:=kv s,val:=v,born:=gY}).toList (gY+1) (kj m s v)) ?_ (up (.map (es.push {key:=kv s,val:=v,born:=gY}) (gY+1))))))⟩
  ·simp[Instr.mapUpdate,run_underlying ht,run_getObj_map hb,run_checkKey hk (K.isKey s),run_findKey hk h3,run_setObj_map _ hb,Result.andThen]
  ·refine⟨by simpa using h4 v gY,fun e he=>?_,?_⟩
   ·rw[Array.toList_push]at he;rcases aP.1 he with he|he
    ·have :=hr.yH e he;omega
    ·simp at he;subst he;exact Nat.lt_succ_self _
   ·rw[Array.toList_push,bu,aT,List.map_nil,List.nodup_append];refine⟨hr.nodup,by simp,fun a ha b hb=>?_⟩;obtain⟨e,he,rfl⟩:=aD.1 ha;simp at hb;subst hb;have :=hr.yH e he;omega
 ·have hj:es[j]? =some e:=by simpa using h3
  refine⟨_,?_,St.Bk (es.modify j fun e=>{e with key:=kv s,val:=v}) (St.Bk gY (St.join (St.u5 (p:=esB kv (es.modify j fun e=>{e with key:=kv s,val:=v}).toList gY (kj m s v)) ?_ (up (.map (es.modify j fun e=>{e with key:=kv s,val:=v}) gY)))))⟩
  ·simp[Instr.mapUpdate,run_underlying ht,run_getObj_map hb,run_checkKey hk (K.isKey s),run_findKey hk h5,hj,h4,run_keyThatStays (K.isKey s),run_setObj_map _ hb,Result.andThen]
  ·have hm:((es.modify j fun e=>{e with key:=kv s,val:=v}).toList.map (·.born))=es.toList.map (·.born):=by
    rw[Array.toList_modify,List.oE]
   refine⟨by simpa using h6 v,fun e he=>?_,by rw[hm];exact hr.nodup⟩;have hb:e.born∈es.toList.map (·.born):=by rw[<-hm];exact j_ he
   obtain⟨e2,iM,jy⟩:=aD.1 hb;rw[<-jy];exact hr.yH e2 iM
end
section
variable {κ:Type} [DecidableEq κ] {kd:TypeDesc} {kv:κ->Value}
variable {P:Program} {ops:Array Oper} {d:Bool} {Q:Exit->Act->World->Prop} {n:Nat} {D:List Deferred} {w0:World} {G:Env} {L R:List HP} {l:List (Kd×Oper)} {k:Kd}
 {t:Nat} {ty T KT E:TypeId} {pos:String} {af:Array Edge} {x y u:Operand} {v z:Value} {b:Nat} {m:List (κ×Value)}
omit [DecidableEq κ]in
theorem KO.mkm(kv:κ->Value)(hk:(!d||(k== .cx||k== .write))=true)(ht:Nat.blt t n=true)(h:∀bb,KO P ops d Q n D w0 ((t,.map (some bb))::G) (cD kv bb []::L) l):
 KO P ops d Q n D w0 G L ((k,⟨some t,.makeMap T none,ty,pos,af,none⟩)::l):=
 KO.pS hk (F:=fun bb=>.map (some bb)) (N:=fun bb=>cD kv bb []::L) (fun a w ha hw=>⟨w.heap.size,w.alloc (.map #[] 0),by simp[execOp,run_makeMap],Ext.alloc w _,FH hw⟩) ht h
theorem KO.Jl(K:KeyLaw kd kv)(s:κ)(hk:(!d||k != .pure)=true)(hx:ev G x=some (.map (some b)))(hy:ev G y=some (kv s))(hT:P.underlying T=some (.map KT E))(hK:P.underlying KT=some kd)(hz:∀w,(zeroValue E).run P w=.ok z w)(hp:bC L (cD kv b m) R)(ht:Nat.blt t n=true)(h:KO P ops d Q n D w0 ((t,(gC m s).getD z)::G) L l):KO P ops d Q n D w0 G L ((k,⟨some t,.lookup T x y false,ty,pos,af,none⟩)::l):=
 KO.rd hk (fun a w w' ha hw e=>by
  have :=xl (P:=P) K (hw.pick hp) e hT hK (hz w') s false
  simp[execOp,ha.eval hx,ha.eval hy,this]) ht h
theorem KO.H_(K:KeyLaw kd kv)(s:κ)(hk:(!d||k != .pure)=true)(hx:ev G x=some (.map (some b)))(hy:ev G y=some (kv s))(hT:P.underlying T=some (.map KT E))(hK:P.underlying KT=some kd)(hz:∀w,(zeroValue E).run P w=.ok z w)(hp:bC L (cD kv b m) R)(ht:Nat.blt t n=true)(h:KO P ops d Q n D w0 ((t,.tuple #[(gC m s).getD z,.bool (gC m s).isSome])::G) L l):KO P ops d Q n D w0 G L ((k,⟨some t,.lookup T x y true,ty,pos,af,none⟩)::l):=
 KO.rd hk (fun a w w' ha hw e=>by
  have :=xl (P:=P) K (hw.pick hp) e hT hK (hz w') s true
  simp[execOp,ha.eval hx,ha.eval hy,this]) ht h
theorem KO.upm(K:KeyLaw kd kv)(s:κ)(hk:(!d||k== .write)=true)(hx:ev G x=some (.map (some b)))(hy:ev G y=some (kv s))(hu:ev G u=some v)(hT:P.underlying T=some (.map KT E))(hK:P.underlying KT=some kd)(hp:bC L (cD kv b m) R)(h:KO P ops d Q n D w0 G (cD kv b (kj m s v)::R) l):KO P ops d Q n D w0 G L ((k,⟨none,.mapUpdate T x y u,ty,pos,af,none⟩)::l):=
 KO.Cg hk (fun a w ha hw=>by
  obtain⟨w',hr,hs⟩:=zD (P:=P) K (hw.pick hp) hT hK s v
  exact⟨w',by simp[execOp,ha.eval hx,ha.eval hy,ha.eval hu,hr],hs⟩) h
end
def strip (e:It):It:={e with line:=0}
def ahE (t:It) (l:List It):List It:=l.filter (fun e=>decide (t.m.pri<=e.m.pri))++t::l.filter (fun e=> !decide (t.m.pri<=e.m.pri))
def aeR (v:Int):List It->List It
 |[]=>[]
 |e::l=>if fU e=true then {e with j9:=v}::l else e::aeR v l
def ae5:List It->List It
 |[]=>[]
 |e::l=>if fU e=true then l else e::ae5 l
def agJ (u:Int) (back:Bool) (l:List It):List It:=(l.filter fun e=> !oP u back e).map (oq u)
def ml (e:It):Ms×Int:=(e.m,e.line)
def Ord (x y:It):Prop:=x.m.id≠y.m.id/\(y.m.pri<x.m.pri\/(x.m.pri=y.m.pri/\x.m.id<y.m.id))
structure QIn (n:Int) (q:Qu):Prop where
 ord:q.l.Pairwise Ord
 ids:∀e∈q.l,0<=e.m.id/\e.m.id<n
 FE:∀e∈q.l,0<=e.m.pri/\e.m.pri<=9
 lines:∀e∈q.l,0<=e.line/\e.line<q.next
 len:q.l.length<=20
 next:0<=q.next/\q.next<=n
theorem rU{p:It->Bool}{l:List It}(h:l.Pairwise fun x y=>p y=true->p x=true):l.takeWhile p=l.filter p/\l.dropWhile p=l.filter fun e=> !p e:=by
 induction l with
 |nil=>exact⟨rfl,rfl⟩
 |cons a l ih=>
  obtain⟨h1,h2⟩:=List.pairwise_cons.1 h;obtain⟨i1,i2⟩:=ih h2;by_cases ha:p a=true
  ·simp[ha,i1,i2]
  ·have fZ:∀e∈l,p e=false:=fun e he=>by
    by_cases hp:p e=true
    ·exact absurd (h1 e he hp) ha
    ·simpa using hp
   have e1:l.filter p=[]:=List.filter_eq_nil_iff.2 fun e he=>by simp[fZ e he]
   have e2:(l.filter fun e=> !p e)=l:=b_.2 fun e he=>by simp[fZ e he]
   simp[ha,e1,e2]
theorem o1{α:Type}(p:α->Bool):∀l:List α,l.take (l.takeWhile p).length=l.takeWhile p/\l.drop (l.takeWhile p).length=l.dropWhile p
 |[]=>⟨rfl,rfl⟩
 |a::l=>by
  by_cases h:p a=true
  ·simp[h,o1 p l]
  ·simp[h]
section
variable {n:Int} {q:Qu} {m:Ms} {u:Int}
end
def ajt (v:Int) (l:List It):Option Nat->List It
 |none=>l
 |some k=>l.set k {FW l k with j9:=v}
def oth (u:Int) (l:List It):List It:=l.filter fun e=> !decide (e.put=u)
structure aj6 (u n:Int) (a b:Qu):Prop where
 ha:QIn n a
 hb:QIn n b
 rel:b.l.map strip=oth u (a.l.map strip)
 j9:∀e∈a.l,e.j9≠u
section
variable {u n:Int} {a b:Qu}
end
structure ag7 (l:List It) (g:List (Int×Go.Value)) (ls:List Int):Prop where
 ord:l.Pairwise Ord
 ids:∀e∈l,0<=e.m.id/\e.m.id<1000
 FE:∀e∈l,0<=e.m.pri/\e.m.pri<=9
 len:ls.length=10
 fresh:∀e∈l,fU e=true->gC g e.m.id=none/\ls.getD e.m.pri.toNat 0<=e.m.id
open Go Go.RowKit
structure Ri where
 m:Ms
 put:Int
 j9:Int
instance:Inhabited Ri:=⟨⟨default,0,0⟩⟩
def riC (x:Ri):List Value:=[.int .i64 x.m.id,.int .i64 x.m.pri,.string x.m.body,.string x.m.queue,.int .i64 x.m.b9,.int .i64 x.put,.int .i64 x.j9]
def X5 (id:Int) (e:Ri):Bool:=decide (e.m.id=id)
def Yg (l:List Ri) (id:Int):Int:=ot (X5 id) l
def acU (u:Int):Int:=if u<0 then -1 else u
def CA (l:List Ri) (m:Ms) (u:Int):List Ri:=l++[⟨m,acU u,-1⟩]
def Sj (l:List Ri) (m:Ms):Int:=if bG m=false then 1 else if 0<=Yg l m.id then 9 else if 20<=l.length then 12 else 0
def ahj (l:List Ri) (m:Ms) (u:Int):List Ri:=if Sj l m=0 then CA l m u else l
def L3 (e:Ri):Bool:=decide (e.put<0)&&decide (e.j9<0)
def X4 (l:List Ri) (p:Nat):List Nat:=(List.range l.length).filter fun i=>decide ((l.getD i default).m.pri=(p:Int))
def Sl (l:List Ri):Nat->List Nat
 |0=>[]
 |n+1=>X4 l n++Sl l n
def TU (l:List Ri):List Nat:=Sl l 10
def SA (l:List Ri) (i:Nat):Ri:=l.getD i default
def L1 (l:List Ri):Option Nat:=(TU l).find? fun i=>L3 (SA l i)
def ac0 (l:List Ri) (u:Int):List Ri:=match L1 l with|none=>l|some i=>if 0<=u then l.set i {SA l i with j9:=u}else l.eraseIdx i
def Sv (l:List Ri):Ms:=match L1 l with|none=>mm|some i=>(SA l i).m
def Ye (l:List Ri):Int:=match L1 l with|none=>8|some _=>0
def Fw (l:List Ri) (id:Int):Option Nat:=l.findIdx? (X5 id)
def LN (l:List Ri) (id:Int):List Ri:=match Fw l id with|none=>l|some i=>l.eraseIdx i
def acR (l:List Ri) (id:Int):Ms:=match Fw l id with|none=>mm|some i=>(SA l i).m
def acS (l:List Ri) (id:Int):Int:=match Fw l id with|none=>7|some _=>0
def Yj (u:Int) (back:Bool) (x:Ri):Bool:=(decide (x.put=u)&&back)||(decide (x.j9=u)&& !back)
def Yf (u:Int) (x:Ri):Ri:={x with put:=if x.put=u then -1 else x.put,j9:=if x.j9=u then -1 else x.j9}
def Sy (l:List Ri) (u:Int) (back:Bool):List Ri:=if u<0 then l else(l.filter fun e=> !Yj u back e).map (Yf u)
def AQ (l:List Ri):List Ms:=((TU l).filter fun i=>L3 (SA l i)).map fun i=>(SA l i).m
def CD (l:List Ri):List Ms:=((TU l).filter fun i=>decide ((SA l i).put<0)).map fun i=>(SA l i).m
def niC (i:Nat):List Value:=[.int .i64 (i:Nat)]
def toRi (e:It):Ri:=⟨e.m,e.put,e.j9⟩
def Eg (l:List Ri):Nat->List Ri
 |0=>[]
 |n+1=>l.filter (fun e=>decide (e.m.pri=(n:Int)))++Eg l n
def arr (l:List Ri):List Ri:=Eg l 10
section
variable {α:Type} {key:α->Int} {xs:List α}
end
def OB (x y:It):Prop:=y.m.pri<x.m.pri\/(x.m.pri=y.m.pri/\x.line<y.line)
structure afo (n:Int) (q:Qu) (l:List Ri):Prop where
 rel:q.l.map toRi=arr l
 ord:q.l.Pairwise OB
 lines:∀e∈q.l,0<=e.line/\e.line<q.next
 FE:∀e∈l,0<=e.m.pri/\e.m.pri<=9
 ids:(l.map (·.m.id)).Nodup
 len:(l.length:Nat)<=n
 next:0<=q.next/\q.next<=n
section
variable {n:Int} {q:Qu} {l:List Ri} {m:Ms} {u:Int}
end
theorem KO.aaf{P:Program}{ops:Array Oper}{d:Bool}{Q:Exit->Act->World->Prop}{n:Nat}{D:List Deferred}{w0:World}{G:Env}{L:List HP}{l:List (Kd×Oper)}{k:Kd}{t:Nat}{ty T T' E:TypeId}{pos:String}{af:Array Edge}{x:Operand}{a:Option Addr}{len cap:Nat}(hx:ev G x=some (.slice a len cap))(hT:P.underlying T=some (.slice E))(ht:Nat.blt t n=true)(h:KO P ops d Q n D w0 ((t,.bool a.isNone)::G) L l):
  KO P ops d Q n D w0 G L ((k,⟨some t,.binOp .eql T x (.const (.slice none 0 0)) T',ty,pos,af,none⟩)::l):=
 KO.val (fun a' w ha=>by
  simp only[execOp,ha.eval hx,show a'.eval (.const (.slice none 0 0))=.slice none 0 0 from rfl]
  simp[go_sem,Lib.run_eql_slice_nil w T E a len cap 0 0 hT]) ht h
open Go
theorem List.gH{α:Type}{l:List α}{i:Nat}{x:α}(h:l[i]? =some x):l.set i x=l:=by
 obtain⟨hi,rfl⟩:=au.1 h;exact List.set_getElem_self hi
def mg (l:List Nm) (s:ak):Int:=if eW l s (bF l s)=true then 0 else 7
def jC (l:List Nm) (s:ak):List Nm:=if eW l s (bF l s)=true then l.eraseIdx (bF l s)else l
theorem Gv(l:List Nm)(s:ak):(jC l s).length<=l.length:=by
 unfold jC;split
 ·rw[List.length_eraseIdx];split<;>omega
 ·exact aC _
def aht (l:List Nm) (s:ak):Nm:=(lk l s).getD ⟨⟨#[]⟩,⟨#[]⟩,0⟩
def tk (l:List Nm) (x:Nm):Int:=if bW x=false then 1 else if lk l x.name=none/\20<=l.length then 12 else 0
def pR (l:List Nm) (s:ak):Bool:=match lk l s with|some x=>decide (x.iQ=⟨#[]⟩)|none=>false
def Un (l:List Nm) (s:ak):Option Nat:=l.findIdx? fun x=>decide (x.name=s)
def PX (l:List Nm) (s:ak):Int:=match Un l s with|some _=>0|none=>7
def q_ (l:List Nm) (s:ak):List Nm:=match Un l s with|some k=>l.eraseIdx k|none=>l
def My (l:List Nm) (x:Nm):List Nm:=if tk l x=0 then q_ l x.name++[x]else l
theorem tV(s:ak):ik s=decide (s=⟨#[]⟩):=by
 unfold ik;rw[Bool.eq_iff_iff,decide_eq_true_eq,List.isEmpty_iff,ByteArray.toList_eq];constructor
 ·intro h;apply ByteArray.ext;apply Array.ext';simpa using h
 ·rintro rfl;rfl
theorem Um{l:List Nm}{s:ak}{k:Nat}{y:Nm}(hy:l[k]? =some y)(h:y.name=s)(fZ:∀(j:Nat) z,j<k->l[j]? =some z->z.name≠s):Un l s=some k:=by
 unfold Un;obtain⟨hk,rfl⟩:=au.1 hy;rw[List.findIdx?_eq_some_iff_getElem];refine⟨hk,by simpa using h,fun j hj=>?_⟩;have :=fZ j l[j] hj (ao _);simp[this]
instance ab7 (s:ak) (l:List ak):Decidable (s∈l):=decidable_of_iff ((l.any fun u=>decide (u=s))=true) aj
def Yh (l:List Nm):Nat->List ak->ak->ak×Int×Int
 |0,_,_=>(⟨#[]⟩,0,11)
 |n+1,seen,s=>if s∈seen then(⟨#[]⟩,0,11)else match lk l s with
  |none=>(⟨#[]⟩,0,7)
  |some x=>if x.iQ=⟨#[]⟩then(s,-1,0)else if 0<=x.b9 then(x.iQ,x.b9,0)else Yh l n (s::seen) x.iQ
structure nK (l rl:List Nm):Prop where
 sorted:du l
 perm:rl.Perm l
theorem rh{l:List Nm}(h:(l.map Nm.name).Nodup){x:Nm}(hx:x∈l):lk l x.name=some x:=by
 induction l with
 |nil=>cases hx
 |cons a l ih=>
  rw[aT,bZ]at h;rw[eu];rcases aJ.1 hx with rfl|hx
  ·rw[if_pos rfl]
  ·rw[if_neg (fun e:a.name=x.name=>h.1 (e▸List.mem_map_of_mem (f:=Nm.name) hx))];exact ih h.2 hx
theorem PW{l m:List Nm}(hp:m.Perm l)(hn:(l.map Nm.name).Nodup)(s:ak):lk m s=lk l s:=by
 have zY:(m.map Nm.name).Nodup:=(hp.map Nm.name).nodup_iff.2 hn;cases h:lk l s with
 |some x=>
  obtain⟨h1,rfl⟩:=pQ h;exact rh zY (hp.mem_iff.2 h1)
 |none=>
  cases h2:lk m s with
  |none=>rfl
  |some x=>
   obtain⟨h1,rfl⟩:=pQ h2;rw[rh hn (hp.mem_iff.1 h1)]at h;cases h
theorem nK.nodup{l rl:List Nm}(h:nK l rl):(l.map Nm.name).Nodup:=kT h.sorted
theorem nK.LP{l rl:List Nm}(h:nK l rl):(rl.map Nm.name).Nodup:=(h.perm.map Nm.name).nodup_iff.2 h.nodup
theorem nK.lk{l rl:List Nm}(h:nK l rl)(s:ak):lk rl s=look l s:=by rw[PW h.perm h.nodup,jd h.sorted]
theorem nK.len{l rl:List Nm}(h:nK l rl):rl.length=l.length:=h.perm.length_eq
theorem sf(l:List Nm)(s:ak):look l s=none↔eW l s (bF l s)=false:=by
 unfold look;cases eW l s (bF l s)<;>simp
theorem nK.may{l rl:List Nm}(h:nK l rl)(x:Nm):tk rl x=cu l x:=by
 unfold tk cu;rw[h.lk,h.len];cases h1:bW x with
 |false=>simp
 |true=>
  simp only[Bool.true_eq_false,if_false];cases h2:eW l x.name (bF l x.name)with
  |false=>simp[(sf l x.name).2 h2]
  |true=>rw[if_neg (fun e=>by rw[(sf l x.name).1 e.1]at h2;cases h2)];simp
theorem mB{l:List Nm}(hn:(l.map Nm.name).Nodup)(s:ak):q_ l s=l.filter fun x=> !decide (x.name=s):=by
 induction l with
 |nil=>rfl
 |cons a l ih=>
  rw[aT,bZ]at hn;unfold q_ Un;rw[List.findIdx?_cons];by_cases e:a.name=s
  ·subst e;simp only[decide_true,if_true,List.eraseIdx_cons_zero,fh,Bool.not_true,Bool.false_eq_true,if_false];symm;rw[b_];intro x hx;have :x.name≠a.name:=fun e=>hn.1 (e▸List.mem_map_of_mem (f:=Nm.name) hx)
   simp[this]
  ·have :=ih hn.2;unfold q_ Un at this;simp only[e,decide_false,Bool.false_eq_true,if_false,fh,Bool.not_false,if_true];rw[<-this];cases h:List.findIdx? (fun x:Nm=>decide (x.name=s)) l<;>simp
theorem yY{l:List Nm}(h:du l)(s:ak):jC l s=l.filter fun x=> !decide (x.name=s):=by
 unfold jC;cases hh:eW l s (bF l s)with
 |false=>
  simp only[Bool.false_eq_true,if_false];symm;rw[b_];intro x hx;have h1:=(sf l s).2 hh;rw[jd h]at h1;unfold WB.lk at h1;have :=List.find?_eq_none.1 h1 x hx;simpa using this
 |true=>
  simp only[if_true];have dI:=tH hh;have he:iu (dU l (bF l s)).name s=0:=by unfold eW at hh;rw[aW]at hh;simpa using hh.2
  have hn:=sC he;rw[<-mB (kT h) s];unfold q_;have hi:Un l s=some (bF l s):=by
   refine Um (y:=dU l (bF l s)) (by simp[dU,aq,dI]) hn fun j z hj hz hzn=>?_
   obtain⟨Xj,rfl⟩:=au.1 hz;have :=List.pairwise_iff_getElem.1 h j (bF l s) Xj dI hj;rw[hzn]at this;have e2:l[bF l s]=dU l (bF l s):=by simp[dU,aq,dI]
   rw[e2,hn,lz]at this;omega
  rw[hi]
theorem nK.drop{l rl:List Nm}(h:nK l rl)(s:ak):nK (jC l s) (q_ rl s):=by
 rw[yY h.sorted,mB h.LP];exact⟨List.Pairwise.sublist List.filter_sublist h.sorted,h.perm.filter _⟩
theorem Jw(x:Nm):∀{l:List Nm},du l->(l.filter (fun y=> !decide (y.name=x.name))++[x]).Perm (oN x l):=by
 intro l h;have h1:(oN x l).filter (fun y=> !decide (y.name=x.name))=l.filter (fun y=> !decide (y.name=x.name)):=by
  refine wP (List.Pairwise.sublist List.filter_sublist (l8 h)) (List.Pairwise.sublist List.filter_sublist h) fun s=>?_
  have key:∀m:List Nm,WB.lk (m.filter fun y=> !decide (y.name=x.name)) s=if s=x.name then none else WB.lk m s:=fun m=>by
   induction m with
   |nil=>by_cases e:s=x.name<;>simp[WB.lk]
   |cons a m ih=>
    rw[fh];by_cases e:a.name=x.name
    ·simp only[e,decide_true,Bool.not_true,Bool.false_eq_true,if_false];rw[ih,eu];by_cases e2:s=x.name
     ·simp[e2]
     ·rw[if_neg e2,if_neg e2,if_neg (fun e3=>e2 (e3.symm.trans e))]
    ·simp only[e,decide_false,Bool.not_false,if_true];rw[eu,eu,ih];by_cases e2:s=x.name
     ·subst e2;simp[e]
     ·simp[e2]
  rw[key,key,AZ];by_cases e:s=x.name
  ·simp[e]
  ·rw[if_neg e,if_neg e,if_neg (fun e2=>e e2.symm)]
 have hx:x∈oN x l:=(pQ (show WB.lk (oN x l) x.name=some x by rw[AZ,if_pos rfl])).1;have F7:=kT (l8 (x:=x) h);rw[<-h1];generalize oN x l=m at *;clear h1
 induction m with
 |nil=>cases hx
 |cons a m ih=>
  rw[aT,bZ]at F7;rw[fh];by_cases e:a.name=x.name
  ·have hax:a=x:=by
    rcases aJ.1 hx with rfl|hx
    ·rfl
    ·exact absurd (e▸List.mem_map_of_mem (f:=Nm.name) hx) F7.1
   subst hax;simp only[decide_true,Bool.not_true,Bool.false_eq_true,if_false];rw[b_.2]
   ·exact List.perm_append_comm
   ·intro y hy;have :y.name≠a.name:=fun e=>F7.1 (e▸List.mem_map_of_mem (f:=Nm.name) hy)
    simp[this]
  ·simp only[e,decide_false,Bool.not_false,if_true,bn];rcases aJ.1 hx with rfl|hx
   ·exact absurd rfl e
   ·exact(ih hx F7.2).cons a
theorem nK.set{l rl:List Nm}(h:nK l rl)(x:Nm):nK (d_ l x) (My rl x):=by
 unfold My;rw[h.may];by_cases h0:cu l x=0
 ·rw[if_pos h0];have hr:bW x=true:=by
   cases hr:bW x with
   |true=>rfl
   |false=>unfold cu at h0;rw[if_pos hr]at h0;cases h0
  have e1:d_ l x=oN x l:=by
   rw[<-CM];unfold cu at h0;unfold d_;rw[if_neg (by simp[hr])]at h0 ⊢;by_cases h2:eW l x.name (bF l x.name)=true
   ·rw[if_pos h2,if_pos h2]
   ·rw[if_neg h2]at h0 ⊢;rw[if_neg h2];by_cases h3:20<=l.length
    ·rw[if_pos h3]at h0;cases h0
    ·rw[if_neg h3]
  rw[e1];refine⟨l8 h.sorted,?_⟩;rw[mB h.LP];exact((h.perm.filter _).append_right _).trans (Jw x h.sorted)
 ·rw[if_neg h0];have e1:d_ l x=l:=by
   unfold cu at h0;unfold d_;by_cases hr:bW x=false
   ·rw[if_pos hr]
   ·rw[if_neg hr]at h0 ⊢;by_cases h2:eW l x.name (bF l x.name)=true
    ·rw[if_pos h2]at h0;exact absurd rfl h0
    ·rw[if_neg h2]at h0 ⊢;by_cases h3:20<=l.length
     ·rw[if_pos h3]
     ·rw[if_neg h3]at h0;exact absurd rfl h0
  rw[e1];exact h
deriving instance DecidableEq for Nm
structure QB (n:Nat) (q:Qu):Prop where
 ord:q.l.Pairwise OB
 lines:∀e∈q.l,0<=e.line/\e.line<q.next
 FE:∀e∈q.l,0<=e.m.pri/\e.m.pri<=9
 len:q.l.length<=n
 next:0<=q.next/\q.next<=n
 ids:∀e∈q.l,0<=e.m.id/\e.m.id<=1099511627776
section
variable {n:Nat} {q:Qu} {m:Ms} {u:Int}
theorem QB.nil:QB n ⟨[],0⟩:=⟨.nil,(fun _ h=>by cases h),(fun _ h=>by cases h),by simp,ji,(fun _ h=>by cases h)⟩
theorem QB.le(h:QB n q){k:Nat}(hk:n<=k):QB k q:=⟨h.ord,h.lines,h.FE,Nat.le_trans h.len hk,(by have :=h.next;omega),h.ids⟩
theorem QB.cmp(h:QB n q)(m:Ms)(u:Int){e:It}(he:e∈q.l):lS e (gI q m u)<0↔m.pri<=e.m.pri:=by
 have :=h.lines e he;unfold lS Ea gI;dsimp only;split<;>omega
theorem QB.ok(h:QB n q)(hn:n<100000):WO q:=by
 have JE:=h.len;refine⟨by omega,fun e he=>?_,⟨h.next.1,by have :=h.next;omega⟩,fun m u i j a b Zi ha hb dI=>?_⟩
 ·have h1:=h.FE e he;have h2:=h.lines e he;have h3:=h.next
  unfold nS small;omega
 ·have ma:=ax ha;have mb:=ax hb;rw[h.cmp m u ma];rw[h.cmp m u mb]at dI;rcases Nat.lt_or_ge i j with Bc|B7
  ·obtain⟨hi,rfl⟩:=au.1 ha;obtain⟨hj,rfl⟩:=au.1 hb;have :=List.pairwise_iff_getElem.1 h.ord i j hi hj Bc;unfold OB at this;omega
  ·obtain rfl:i=j:=by omega
   rw[ha]at hb;cases hb;exact dI
theorem QB.push(h:QB n q)(m:Ms)(u:Int):(dS q m u).l=q.l.filter (fun e=>decide (m.pri<=e.m.pri))++gI q m u::q.l.filter (fun e=> !decide (m.pri<=e.m.pri)):=by
 have hc:(q.l.takeWhile fun e=>decide (lS e (gI q m u)<0))=q.l.takeWhile fun e=>decide (m.pri<=e.m.pri):=by
  have :∀l:List It,(∀e∈l,e∈q.l)->(l.takeWhile fun e=>decide (lS e (gI q m u)<0))=l.takeWhile fun e=>decide (m.pri<=e.m.pri):=by
   intro l
   induction l with
   |nil=>intro _;rfl
   |cons a l ih=>
    intro hl;have e1:decide (lS a (gI q m u)<0)=decide (m.pri<=a.m.pri):=decide_eq_decide.2 (h.cmp m u (hl a aj));simp only[List.takeWhile_cons,e1,ih fun e he=>hl e (by simp[he])]
  exact this q.l fun _ h=>h
 obtain⟨t1,t2⟩:=o1 (fun e:It=>decide (m.pri<=e.m.pri)) q.l
 obtain⟨f1,f2⟩:=rU (p:=fun e:It=>decide (m.pri<=e.m.pri)) (l:=q.l) (h.ord.imp fun {x y} hxy hy=>by
  unfold OB at hxy;simp at hy ⊢;omega)
 unfold dS sZ;dsimp only;rw[hc,t1,t2,f1,f2]
theorem QB.s9(h:QB n q)(hp:0<=m.pri/\m.pri<=9)(hi:0<=m.id/\m.id<=1099511627776)(u:Int):QB (n+1) (dS q m u):=by
 have JE:∀e∈(dS q m u).l,e=gI q m u\/e∈q.l:=fun e he=>by
  rw[h.push]at he;simp only[aP,aJ,aI]at he;rcases he with⟨a,_⟩|a|⟨a,_⟩
  ·exact .inr a
  ·exact .inl a
  ·exact .inr a
 have B6:(dS q m u).next=q.next+1:=rfl
 refine⟨?_,fun e he=>?_,fun e he=>?_,?_,(by have :=h.next;rw[B6];omega),fun e he=>?_⟩
 ·rw[h.push,List.pairwise_append,List.pairwise_cons];refine⟨h.ord.sublist List.filter_sublist,⟨fun e he=>?_,h.ord.sublist List.filter_sublist⟩,fun a ha b hb=>?_⟩
  ·obtain⟨h1,h2⟩:=aI.1 he;simp at h2;left;unfold gI;dsimp only;omega
  ·obtain⟨h1,h2⟩:=aI.1 ha;have i1:=h.lines a h1;simp at h2;rcases aJ.1 hb with rfl|hb
   ·unfold OB gI;dsimp only;omega
   ·obtain⟨h3,h4⟩:=aI.1 hb;simp at h4;left;omega
 ·rw[B6];rcases JE e he with rfl|h1
  ·have :=h.next;unfold gI;dsimp only;omega
  ·have :=h.lines e h1;omega
 ·rcases JE e he with rfl|h1
  ·exact hp
  ·exact h.FE e h1
 ·have :=h.len;unfold dS;dsimp only;have h2:=zo q.l (gI q m u);simp;omega
 ·rcases JE e he with rfl|h1
  ·exact hi
  ·exact h.ids e h1
theorem QB.part(h:QB n q){ql:List It}(hs:(ql.map ml).Sublist (q.l.map ml)):QB n ⟨ql,q.next⟩:=by
 have hm:∀e∈ql,∃e'∈q.l,e'.m=e.m/\e'.line=e.line:=fun e he=>by
  obtain⟨e',h1,h2⟩:=aD.1 (hs.subset (List.mem_map_of_mem (f:=ml) he));exact⟨e',h1,by simpa[ml]using h2⟩
 refine⟨?_,fun e he=>?_,fun e he=>?_,?_,h.next,fun e he=>?_⟩
 ·have h1:(q.l.map ml).Pairwise fun x y=>y.1.pri<x.1.pri\/(x.1.pri=y.1.pri/\x.2<y.2):=List.pairwise_map.2 h.ord
  have h2:=h1.sublist hs;rw[List.pairwise_map]at h2;exact h2
 ·obtain⟨e',h1,_,h2⟩:=hm e he;rw[<-h2];exact h.lines e' h1
 ·obtain⟨e',h1,h2,_⟩:=hm e he;rw[<-h2];exact h.FE e' h1
 ·have :=hs.length_le;have :=h.len;simp at *;omega
 ·obtain⟨e',h1,h2,_⟩:=hm e he;rw[<-h2];exact h.ids e' h1
theorem QB.take(h:QB n q)(id:Int):QB n (fm q id):=by
 unfold fm;split
 ·exact h
 ·exact h.part ((List.eraseIdx_sublist _ _).map _)
theorem TL{l:List It}{k:Nat}{x:It}(h:∀e,l[k]? =some e->ml x=ml e):(l.set k x).map ml=l.map ml:=by
 apply List.ext_getElem?;intro j;rw[aH,aH,List.getElem?_set];by_cases e:k=j
 ·subst e;rw[if_pos rfl];by_cases hk:k<l.length
  ·rw[if_pos hk,Option.map_some,ao hk,Option.map_some,h _ (ao hk)]
  ·rw[if_neg hk,cG ae]
 ·rw[if_neg e]
theorem QB.get(h:QB n q)(u:Int):QB n (mW q u):=by
 unfold mW;split
 ·exact h
 ·split
  ·exact h.part ((List.eraseIdx_sublist _ _).map _)
  ·refine h.part ?_;rw[TL fun e he=>by rw[ob he];rfl];exact .refl _
theorem QB.ends(h:QB n q)(u:Int)(b:Bool):QB n (fp q u b):=by
 unfold fp;split
 ·exact h
 ·refine h.part ?_;rw[List.map_map,show ml∘oq u=ml from rfl];exact List.filter_sublist.map _
theorem QB.put(h:QB n q)(m:Ms)(u:Int):QB (n+1) (nY q m u):=by
 unfold nY;split
 ·rename_i h0;unfold jr at h0;cases hr:bG m with
  |false=>rw[if_pos hr]at h0;cases h0
  |true=>
   have h1:=bP hr;exact h.s9 ⟨h1.2.2.1,h1.2.2.2.1⟩ ⟨h1.1,h1.2.1⟩ u
 ·exact h.le (Nat.le_succ n)
end
def Tr (a c:Int):Int:=IntKind.u64.wrap ((BitVec.ofInt 64 a^^^BitVec.ofInt 64 c).toNat:Nat)
def Ug (a c:Int):Int:=IntKind.u64.wrap (a *c)
theorem wrap_u64(n:Int):0<=IntKind.u64.wrap n/\IntKind.u64.wrap n<=18446744073709551615:=by
 have e:IntKind.u64.wrap n=n%18446744073709551616:=by simp[IntKind.wrap,IntKind.bits,IntKind.signed]
 rw[e];omega
section
variable {P:Program} {ops:Array Oper} {d:Bool} {Q:Exit->Act->World->Prop} {n:Nat} {D:List Deferred} {w0:World} {G:Env} {L R:List HP} {l:List (Kd×Oper)} {k:Kd}
 {t:Nat} {op:Op} {ty T T' E:TypeId} {pos:String} {af:Array Edge} {x y z:Operand} {a c r:Int} {kk yk:IntKind}
theorem KO.acw(hx:ev G x=some (.int .u64 a))(hy:ev G y=some (.int .u64 c))(ht:Nat.blt t n=true)(h:KO P ops d Q n D w0 ((t,.int .u64 (Tr a c))::G) L l):
 KO P ops d Q n D w0 G L ((k,⟨some t,.binOp .xor T x y T',ty,pos,af,none⟩)::l):=
 KO.val (fun a' w ha=>by simp[execOp,ha.eval hx,ha.eval hy,eqGuard_at_int,binOp_xor,Op.intBits,Tr];rfl) ht h
theorem KO.adg(hx:ev G x=some (.int .u64 a))(hy:ev G y=some (.int .u64 c))(ht:Nat.blt t n=true)(h:KO P ops d Q n D w0 ((t,.int .u64 (Ug a c))::G) L l):
 KO P ops d Q n D w0 G L ((k,⟨some t,.binOp .mul T x y T',ty,pos,af,none⟩)::l):=
 KO.val (fun a' w ha=>by simp[execOp,ha.eval hx,ha.eval hy,eqGuard_at_int,binOp_mul,Op.intArith,Ug]) ht h
theorem KO.JV{ad:Addr}(hx:ev G x=some (.pointer (some ad)))(hT:P.underlying T=some (.pointer E))(ht:Nat.blt t n=true)(h:KO P ops d Q n D w0 ((t,.bool false)::G) L l):
 KO P ops d Q n D w0 G L ((k,⟨some t,.binOp .eql T x (.const (.pointer none)) T',ty,pos,af,none⟩)::l):=
 KO.val (fun a w ha=>by
  simp only[execOp,ha.eval hx,show a.eval (.const (.pointer none))=.pointer none from rfl]
  simp[go_sem,hT]) ht h
theorem KO.QP(hx:ev G x=some (.pointer none))(hT:P.underlying T=some (.pointer E))(ht:Nat.blt t n=true)(h:KO P ops d Q n D w0 ((t,.bool true)::G) L l):
 KO P ops d Q n D w0 G L ((k,⟨some t,.binOp .eql T x (.const (.pointer none)) T',ty,pos,af,none⟩)::l):=
 KO.val (fun a w ha=>by
  simp only[execOp,ha.eval hx,show a.eval (.const (.pointer none))=.pointer none from rfl]
  simp[go_sem,hT]) ht h
theorem KO.acJ(hx:ev G x=some (.int .u64 a))(hy:ev G y=some (.int yk 3))(ht:Nat.blt t n=true)(h:KO P ops d Q n D w0 ((t,.int .u64 (a/8))::G) L l):
 KO P ops d Q n D w0 G L ((k,⟨some t,.binOp .shr T x y T',ty,pos,af,none⟩)::l):=
 KO.val (fun a' w ha=>by simp[execOp,ha.eval hx,ha.eval hy,eqGuard_at_int,binOp_shr,shift_shr_u64]) ht h
theorem KO.b2u(hx:ev G x=some (.int .u8 a))(hs:(P.underlying T).isSome=true)(hd:P.underlying T'=some (.int .u64))(h0:0<=a/\a<=18446744073709551615)(ht:Nat.blt t n=true)(h:KO P ops d Q n D w0 ((t,.int .u64 a)::G) L l):
 KO P ops d Q n D w0 G L ((k,⟨some t,.convert T T' x,ty,pos,af,none⟩)::l):=
 KO.val (fun a' w ha=>by
  have :=run_convert_int (P:=P) w T T' .u8 a hs Y26;simp[Program.intKind,hd,R8 h0.1 h0.2]at this
  simp[execOp,ha.eval hx,this]) ht h
theorem KO.min2{ts:Array TypeId}(hx:ev G x=some (.int .i64 a))(hy:ev G y=some (.int .i64 c))(hr:min a c=r)(ht:Nat.blt t n=true)(h:KO P ops d Q n D w0 ((t,.int .i64 r)::G) L l):
 KO P ops d Q n D w0 G L ((k,⟨some t,.call ⟨.builtin .min,#[x,y],ts⟩,ty,pos,af,none⟩)::l):=
 KO.val (fun a' w ha=>by
  subst hr;simp[execOp,resolve,invoke,builtin,ha.eval hx,ha.eval hy,Builtin.min_,Builtin.min2]
  rw[Int.min_def];split<;>split<;>first|rfl|omega) ht h
theorem KO.div(hx:ev G x=some (.int .i64 a))(hy:ev G y=some (.int .i64 c))(hc:0<c)(Vi:0<=a)(ZB:a<=9223372036854775807)(ht:Nat.blt t n=true)(h:KO P ops d Q n D w0 ((t,.int .i64 (a/c))::G) L l):
 KO P ops d Q n D w0 G L ((k,⟨some t,.binOp .quo T x y T',ty,pos,af,none⟩)::l):=
 KO.val (fun a' w ha=>by
  have e:a.tdiv c=a/c:=Int.tdiv_eq_ediv_of_nonneg Vi;have h1:0<=a/c:=Int.ediv_nonneg Vi ae;have h2:a/c<=a:=Int.ediv_le_self _ Vi;have h3:c≠0:=by omega
  simp[execOp,ha.eval hx,ha.eval hy,eqGuard_at_int,binOp_quo,Op.intDiv,h3,e,Cf (by omega : -9223372036854775808<=a/c) ae]) ht h
theorem KO.rem(hx:ev G x=some (.int .i64 a))(hy:ev G y=some (.int .i64 c))(hc:0<c)(Vi:0<=a)(ht:Nat.blt t n=true)(h:KO P ops d Q n D w0 ((t,.int .i64 (a%c))::G) L l):
 KO P ops d Q n D w0 G L ((k,⟨some t,.binOp .rem T x y T',ty,pos,af,none⟩)::l):=
 KO.val (fun a' w ha=>by
  have e:a.tmod c=a%c:=Int.tmod_eq_emod_of_nonneg Vi;have h3:c≠0:=by omega
  simp[execOp,ha.eval hx,ha.eval hy,eqGuard_at_int,binOp_rem,Op.intDiv,h3,e]) ht h
end
def n_ (c:UInt8) (s:ak):Prop:= ∀b∈s.data.toList,b≠c
theorem dp{c:UInt8}{a b:ak}(ha:n_ c a)(hb:n_ c b):n_ c (a++b):=fun x hx=>by
 rw[show(a++b).data.toList=a.data.toList++b.data.toList by simp]at hx;rcases aP.1 hx with h|h
 ·exact ha x h
 ·exact hb x h
def cQ (c:UInt8) (s:ak):ak×ak×Bool:=(toB (Lib.cut s.data.toList [c]).1,toB (Lib.cut s.data.toList [c]).2.1,(Lib.cut s.data.toList [c]).2.2)
def bV (c:UInt8):ak:=⟨#[c]⟩
def acH (n:Int) (b:UInt8):Int:=Ug (Tr n (b.toNat:Nat)) 1099511628211
def IV (l:List UInt8):Int:=l.foldl acH 14695981039346656037
def uW (s:ak):Int:=IV s.data.toList/8
theorem wN(l:List UInt8):0<=IV l/\IV l<=18446744073709551615:=by
 unfold IV;rcases List.eq_nil_or_concat l with rfl|⟨r,b,rfl⟩
 ·decide
 ·rw[List.concat_eq_append,List.foldl_append];exact wrap_u64 _
theorem wM(s:ak):0<=uW s/\uW s<=2305843009213693951:=by
 have :=wN s.data.toList;unfold uW;omega
def jl (k:Int) (s:ak):ak:=bH k++bV 124++s
def dQ (k:Int) (s:ak):ak:=jl k s++bV 124++bH (uW (jl k s))
def gx (k:Int) (t:ak):Option ak:=match cH 124 t with
 |[_,w,_]=>if dQ k w=t then some w else none
 |_=>none
structure Dk where
 places:List ak
 cut:Bool
 left:Int
def lR:Dk:=⟨List.replicate 300 ⟨#[]⟩,false,0⟩
def cO (D:Dk) (n:Int):Dk:={D with cut:=decide (0<=n),left:=max n 0}
def x7 (s:ak) (c6:Int):ak:=s.extract 0 (min c6 ((s.size:Int)-1)).toNat
def nt (D:Dk):Bool:=D.cut&&decide (D.left=0)
def fx (D:Dk) (k:Nat) (s:ak) (c6:Int):Dk:=
 if nt D=true then(if 0<=c6 then {D with places:=D.places.set k (x7 s c6)}else D)else {D with left:=D.left-1,places:=D.places.set k s}
def nu (D:Dk):Int:=if nt D=true then 14 else 0
end WB
namespace Go.Proofs.YtjhogocabcdjbabGreatDoor
open Tryz
open Go Go.RowKit WB
theorem XR(w0:World)(L:List HP)(s:ak)(hs:s.size<=1000000):KE prog 232 #[.string s] w0 L (fun u M=>u=.int .i64 (uW s)/\M=L):=by
 refine KE.mk (n:=21) func232 rfl ntmps232 aj ?_;intro w hw;refine Z2 ?_;refine BM ?_;refine ze ?_;refine lf ?_;refine K.loop (fun k:Nat=>[(0,.string s),(3,.int .u64 (IV (s.data.toList.take k))),(6,.int .i64 (s.size:Nat)),(7,.int .i64 (k:Nat))]) (fun _=>[]) (fun k=>k<=s.size) (fun k=>s.size-k) 0
  (aR _) ⟨rfl,rfl,rfl,rfl,trivial⟩ (fun _ h=>h) ?_
 rintro k hk;refine gZ ?_;refine K.bI rfl (fun h=>?_) (fun h=>?_)
 ·obtain⟨b,hb,jy⟩:∃e,s[k]? =some e/\s.data.toList[k]? =some e:=⟨s[k]' ae,by simp,by simp[ByteArray.getElem_eq_getElem_data]⟩;refine EE ?_;refine iH ?_;refine Z7 ?_;refine jh ?_;refine KO.Ux rfl rfl underlying9 aL uT rfl ?_;refine KO.b2u rfl (by rw[underlying5];rfl) underlying224 (by have :=b.toNat_lt;omega) rfl ?_;refine KO.acw rfl rfl rfl ?_;refine KO.adg rfl rfl rfl ?_;refine rz ?_;refine KQ.round (k+1) ae ae ⟨rfl,?_,rfl,rfl,trivial⟩ (fun _ h=>h);simp only[cF];rw[bA jy];unfold IV;rw[List.foldl_append];rfl
 ·refine wx ?_;have M_:k=s.size:=by omega
  subst M_;have hb:=wN s.data.toList;have e1:s.data.toList.take s.size=s.data.toList:=List.take_of_length_le aj;rw[e1];refine Z7 ?_;refine KO.acJ rfl rfl rfl ?_;refine KO.u2i rfl (by rw[underlying224];rfl) underlying3 ae rfl ?_;refine fK ?_;refine KQ.a_ rfl rfl (fun w' hs=>⟨_,_,rfl,⟨rfl,rfl⟩,hw.aA hs.below,hs.below⟩)
theorem wV(w0:World)(L:List HP)(k:Int)(s:ak)(hk:jG k)(hs:s.size<=900000)(hT:nI w0):KE prog 134 #[.int .i64 k,.string s] w0 L (fun u M=>u=.string (dQ k s)/\M=L):=by
 refine KE.mk (n:=17) func134 rfl ntmps134 aj ?_;intro w hw;have hT:=hT.ext (Ext.bB hw.below);have h1:=bJ hk;have h2:=wM (jl k s);have h3:=bJ (n:=uW (jl k s)) ⟨by omega,by omega⟩;have jV:(⟨#[124]⟩:ak).size=1:=rfl;have jy:(bV 124).size=1:=rfl;have tM:(bH k++⟨#[124]⟩:ak).size=(bH k).size+1:=by rw[aB,jV]
 have kG:(jl k s++⟨#[124]⟩:ak).size=(jl k s).size+1:=by rw[aB,jV]
 have h4:(jl k s).size<=900022:=by unfold jl;simp only[aB];omega
 refine iG ?_;refine KO.ce (cp:=[]) rfl rfl rfl call59 rfl (fF w _ k hT hk) ?_;rintro v' L' ⟨rfl,rfl⟩;refine nG ?_;refine Z1 ?_;refine nG ?_;refine jH ?_;rw[show bH k++⟨#[124]⟩++s=jl k s from rfl];refine Z7 ?_;refine nG ?_;refine Z1 ?_;refine KO.ce (cp:=[]) rfl rfl rfl call232 rfl (XR w _ _ ae) ?_;rintro v' L' ⟨rfl,rfl⟩;refine KO.ce (cp:=[]) rfl rfl rfl call59 rfl (fF w _ _ hT ⟨by omega,by omega⟩) ?_;rintro v' L' ⟨rfl,rfl⟩;refine nG ?_;refine fK ?_;refine KQ.a_ rfl rfl (fun w' hs=>⟨_,_,rfl,⟨rfl,rfl⟩,hw.aA hs.below,hs.below⟩)
theorem Md(w0:World)(L:List HP)(k:Int)(t:ak)(hk:jG k)(ht:t.size<=800000)(hT:nI w0)(hM:oB w0):
 KE prog 52 #[.int .i64 k,.string t] w0 L (fun u M=>u=.tuple #[.string ((gx k t).getD ⟨#[]⟩),.bool (gx k t).isSome]/\M=L):=by
 refine KE.mk (n:=24) func52 rfl ntmps52 aj ?_;intro w hw;have hT:=hT.ext (Ext.bB hw.below);have hM:=hM.ext (Ext.bB hw.below);have cj:∀p∈cH 124 t,p.size<=t.size:=fun p hp=>gK hp
 refine jX ?_;refine kQ ?_;refine KO.ce (cp:=[]) rfl rfl rfl call133 rfl (kS w _ t 124 ae hM) ?_;rintro v' L' ⟨bq,rfl,rfl⟩;refine jH ?_;have og:(∀a b c,cH 124 t≠[a,b,c])->gx k t=none:=fun h=>by
  unfold gx;split
  ·rename_i a b c e;exact absurd e (h a b c)
  ·rfl
 by_cases h3:(cH 124 t).length=3
 ·obtain⟨wa,wb,wc,he⟩:∃a b c,cH 124 t=[a,b,c]:=by
   match h:cH 124 t,h3 with
   |[a,b,c],_=>exact⟨a,b,c,rfl⟩
  rw[he];have hwb:wb.size<=800000:=by have :=cj wb (by rw[he];simp);omega
  by_cases Xb:dQ k wb=t
  ·have ho:gx k t=some wb:=by unfold gx;rw[he];simp[Xb]
   rw[ho];refine Z7 ?_;refine N1 ?_;refine K3 ?_;refine Z1 ?_;refine KO.on rfl rfl aj ?_;refine KO.eN (i:=1) rfl rfl runUnderlying115 sizeOf9 rfl aj rfl ?_;refine KO.on rfl rfl aj ?_;refine KO.fJ (i:=1) (sz:=1) (cf:=fI) (e:=wb) rfl rfl isAgg9 bE (fun _=>rfl) rfl aL aL rfl ?_;refine KO.on rfl rfl aj ?_;refine KO.ce (cp:=[]) rfl rfl rfl call134 rfl (wV w _ k wb hk ae hT) ?_;rintro v' L' ⟨rfl,rfl⟩;refine sG ?_;refine Ez ?_;refine K.cP rfl (by simp[Xb]) ?_;refine mG ?_;refine Xz ?_;refine nE ?_;refine KQ.ef rfl rfl rfl (fun w' hs=>⟨_,_,rfl,⟨rfl,rfl⟩,hw.aA hs.below,hs.below⟩)
  ·have ho:gx k t=none:=by unfold gx;rw[he];simp[Xb]
   rw[ho];refine Z7 ?_;refine N1 ?_;refine K3 ?_;refine Z1 ?_;refine KO.on rfl rfl aj ?_;refine KO.eN (i:=1) rfl rfl runUnderlying115 sizeOf9 rfl aj rfl ?_;refine KO.on rfl rfl aj ?_;refine KO.fJ (i:=1) (sz:=1) (cf:=fI) (e:=wb) rfl rfl isAgg9 bE (fun _=>rfl) rfl aL aL rfl ?_;refine KO.on rfl rfl aj ?_;refine KO.ce (cp:=[]) rfl rfl rfl call134 rfl (wV w _ k wb hk ae hT) ?_;rintro v' L' ⟨rfl,rfl⟩;refine sG ?_;refine Ez ?_;refine K.cA rfl (by simp[Xb]) ?_;refine jX ?_;refine vx ?_;refine KQ.ef rfl rfl rfl (fun w' hs=>⟨_,_,rfl,⟨rfl,rfl⟩,hw.aA hs.below,hs.below⟩)
 ·have ho:gx k t=none:=og fun a b c e=>h3 (by rw[e];rfl)
  rw[ho];have h3i:¬(((cH 124 t).length:Nat):Int)=3:=by omega
  refine Z7 ?_;refine N1 ?_;refine He ?_;refine Hk ?_;refine BP ?_;refine K.cA rfl (by simp[h3i]) ?_;refine jX ?_;refine vx ?_;refine KQ.ef rfl rfl rfl (fun w' hs=>⟨_,_,rfl,⟨rfl,rfl⟩,hw.aA hs.below,hs.below⟩)
def Bo (D:Dk):List Value:=D.places.map Value.string++[.bool D.cut,.int .i64 D.left]
def fa (b:Nat) (D:Dk):HP:=bD b (.cells (Bo D).toArray 28 (0,0))
theorem Ix{D:Dk}(h:D.places.length=300):(Bo D).length=302:=by simp[Bo,h]
theorem QX{D:Dk}(h:D.places.length=300):(Bo D)[300]? =some (.bool D.cut):=by
 unfold Bo;rw[bM (by simp[h])];simp[h]
theorem sB{D:Dk}(h:D.places.length=300):(Bo D)[301]? =some (.int .i64 D.left):=by
 unfold Bo;rw[bM (by simp[h])];simp[h]
theorem J1{D:Dk}{k:Nat}{s:ak}(h:D.places[k]? =some s):(Bo D)[k]? =some (.string s):=by
 have hk:=(au.1 h).1;unfold Bo;rw[List.getElem?_append_left (by simpa using hk),aH,h];rfl
theorem x8{D:Dk}{k:Nat}(s:ak)(hk:k<D.places.length):(Bo D).set k (.string s)=Bo {D with places:=D.places.set k s}:=by
 unfold Bo;rw[List.set_append_left _ _ (by simpa using hk),List.map_set]
theorem x9{D:Dk}(h:D.places.length=300)(n:Int):(Bo D).set 301 (.int .i64 n)=Bo {D with left:=n}:=by
 unfold Bo;rw[List.set_append_right _ _ (by simp[h])];simp[h]
theorem NH{D:Dk}(h:D.places.length=300)(c:Bool):(Bo D).set 300 (.bool c)=Bo {D with cut:=c}:=by
 unfold Bo;rw[List.set_append_right _ _ (by simp[h])];simp[h]
theorem OY(w0:World)(L:List HP)(b k:Nat)(D:Dk)(s:ak)(c6:Int)(h3:D.places.length=300)(hk:k<300)(hl: -4000000000000000000<=D.left/\D.left<=9223372036854775807)(hs:0<s.size/\s.size<=1000000):
 KC prog 156 #[.pointer (some ⟨b,0,none⟩),.int .i64 (k:Nat),.string s,.int .i64 c6] w0 (fa b D::L) (fun u M=>u=cz 70 (nu D)/\M=fa b (fx D k s c6)::L):=by
 refine KC.mk (n:=48) func156 rfl ntmps156 aj ?_;refine y6 ?_;have F6:nt D=(D.cut&&decide (D.left=0)):=rfl;cases hcut:D.cut with
 |false=>
  have ho:nt D=false:=by rw[F6,hcut];rfl
  refine ED ?_;refine Wy ?_;refine lg ?_;refine Tl ?_;refine qj ?_;refine BB ?_;refine mG ?_;refine Ol ?_;refine KO.di (i:=301) rfl rfl isAgg3 .head rfl (sB h3) rfl ?_;refine Kk ?_;refine Ol ?_;refine KO.iA (i:=301) rfl rfl rfl aL AB rfl .head rfl Y38 ?_;rw[x9 h3];refine oy ?_;refine yw ?_;refine Ww ?_;refine KO.iA (i:=k) rfl rfl rfl aL WL rfl .head wz Y27 ?_;rw[x8 _ (by exact(by omega :k<D.places.length))];refine jf ?_;refine KQ.a_ rfl rfl (fun w' hs=>⟨_,_,rfl,⟨?_,rfl⟩,?_⟩)
  ·unfold nu;rw[if_neg (by simp[ho])];rfl
  ·unfold fx;rw[if_neg (by simp[ho])];exact hs
 |true=>
  by_cases hl0:D.left=0
  ·have ho:nt D=true:=by rw[F6,hcut,hl0];rfl
   refine ED ?_;refine Wy ?_;refine K3 ?_;refine lb ?_;refine KO.on rfl rfl rfl ?_;refine KO.ij (off:=301) rfl runUnderlying28 rfl rfl sizeOf3 rfl ?_;refine KO.on rfl rfl rfl ?_;refine KO.di (i:=301) rfl rfl isAgg3 .head rfl (by rw[sB h3,hl0]) rfl ?_;refine Et ?_;refine sL ?_;refine gU ?_;refine uh ?_;refine Z5 ?_;refine K.bI rfl (fun h5=>?_) (fun h5=>?_)
   ·(skip)
    refine K.draw [.pure,.pure,.pure,.pure,.pure,.pure,.pure,.pure,.pure,.pure,.pure,.pure,.write] [0,1,2,3,4,5,6,7,8,9,10,11,12] bm bm ?_;refine jh ?_;refine zf ?_;refine ze ?_;refine Kk ?_;refine KO.min2 rfl rfl rfl rfl ?_;refine KO.LA (i:=(min c6 ((s.size:Int)-1)).toNat) rfl rfl underlying9 ae ae rfl ?_;refine lb ?_;refine Ww ?_;refine KO.iA (i:=k) rfl rfl rfl aL WL rfl .head wz Y38 ?_;rw[x8 _ ae];refine E9 ?_;refine Z36 ?_;refine Z3 ?_;refine KQ.a_ rfl rfl (fun w' hs=>⟨_,_,rfl,⟨?_,rfl⟩,?_⟩)
    ·unfold nu;rw[if_pos ho];rfl
    ·unfold fx fa;rw[if_pos ho,if_pos ae];exact hs
   ·refine oR ?_;refine Z36 ?_;refine Z3 ?_;refine KQ.a_ rfl rfl (fun w' hs=>⟨_,_,rfl,⟨?_,rfl⟩,?_⟩)
    ·unfold nu;rw[if_pos ho];rfl
    ·unfold fx;rw[if_pos ho,if_neg ae];exact hs
  ·have ho:nt D=false:=by rw[F6,hcut];simpa using hl0
   refine ED ?_;refine Wy ?_;refine K3 ?_;refine lb ?_;refine KO.on rfl rfl rfl ?_;refine KO.ij (off:=301) rfl runUnderlying28 rfl rfl sizeOf3 rfl ?_;refine KO.on rfl rfl rfl ?_;refine KO.di (i:=301) rfl rfl isAgg3 .head rfl (sB h3) rfl ?_;refine Et ?_;refine y4 ?_;refine Z5 ?_;refine K.cP rfl (by simpa using hl0) ?_;refine mG ?_;refine Ol ?_;refine KO.di (i:=301) rfl rfl isAgg3 .head rfl (sB h3) rfl ?_;refine Kk ?_;refine Ol ?_;refine KO.iA (i:=301) rfl rfl rfl aL AB rfl .head rfl Y38 ?_;rw[x9 h3];refine oy ?_;refine yw ?_;refine Ww ?_;refine KO.iA (i:=k) rfl rfl rfl aL WL rfl .head wz Y27 ?_;rw[x8 _ (by exact(by omega :k<D.places.length))];refine jf ?_;refine KQ.a_ rfl rfl (fun w' hs=>⟨_,_,rfl,⟨?_,rfl⟩,?_⟩)
   ·unfold nu;rw[if_neg (by simp[ho])];rfl
   ·unfold fx;rw[if_neg (by simp[ho])];exact hs
theorem NK(w0:World)(L:List HP)(b:Nat)(D:Dk)(n:Int)(h3:D.places.length=300):
 KC prog 18 #[.pointer (some ⟨b,0,none⟩),.int .i64 n] w0 (fa b D::L) (fun u M=>u=.tuple #[]/\M=fa b (cO D n)::L):=by
 refine KC.mk (n:=14) func18 rfl ntmps18 aj ?_;refine Z7 ?_;refine jh ?_;refine uh ?_;refine Z1 ?_;refine KO.max2 rfl rfl rfl rfl ?_;refine lb ?_;refine KO.ij (off:=300) rfl runUnderlying28 rfl rfl sizeOf4 rfl ?_;refine KO.iA (i:=300) rfl rfl rfl aL (by exact sizeOf4) rfl .head rfl Y38 ?_;rw[NH h3];refine Ol ?_;refine KO.iA (i:=301) rfl rfl rfl aL AB rfl .head rfl Y27 ?_;rw[x9 (by exact h3)];refine KO.nil ?_;refine KQ.tU rfl (fun w' hs=>⟨_,_,rfl,⟨rfl,rfl⟩,hs⟩)
theorem FJ:(prog.info? 75).map (fun i=>(i.zero,i.size,i.bytes))=some (some (Value.agg #[.string ⟨#[]⟩,.string ⟨#[]⟩,.int .i64 0]),3,40):=by kernel_rfl
theorem P3(w w0:World)(L:List HP)(v:Value)(n:Nat)(xs vs:List Value)(bv:Nat)(h:St w0 (ie 75 3 v n xs::bD bv (.cells vs.toArray 75 (0,0))::L) w)(hv:vs.length=3)(h1:∀u∈vs,u.oneCell'=true)(hn:n<1000000):
 Calls prog 268 #[v,.int .i64 n,.slice (some ⟨bv,0,none⟩) 1 1] w fun e w'=> ∃v',e=.returned v'/\St w0 (ie 75 3 v' (n+1) (xs++vs)::L) w':=by
 obtain⟨i0,hi,uF,l0,u9⟩:=info_parts FJ;have pd:cU w ⟨bv,0,none⟩ vs:=by
  have h2:=h.pick (.tail .head);exact h2.eT fun j u hj=>by simpa using hj
 obtain⟨v',w1,hr,kO⟩:=p8 (P:=prog) 86 86 75 i0 _ 3 40 underlying86 hi uF l0 u9 rfl h ⟨bv,0,none⟩ 1 1 vs (by rw[hv]) pd h1 Ou ae;have HR:=Lib.hid hr;have HS:=Lib.hid kO;have qC:v=.slice none 0 0/\n=0\/∃g cap,v=.slice (some ⟨g,0,none⟩) n cap/\n<=cap:=by
  rcases h.cr with⟨h1,h2,_⟩|⟨g,cap,_,h1,h2,_⟩
  ·exact .inl ⟨h1,h2⟩
  ·exact .inr ⟨g,cap,h1,h2⟩
 clear h hr kO pd hi uF l0 u9;rcases qC with⟨rfl,rfl⟩|⟨g,cap,rfl,tF⟩
 ·go_enter func268,ntmps268
  go_wp2_with (at_builtin;refine Lib.wpList_append_run _ rfl _ _ _ _ rfl _ _ rfl rfl _ _ HR.out ?_)
  go_ret
  exact⟨_,rfl,HS.out.fL.drop⟩
 ·have hE:((n:Int)==(n:Int))=true:=by simp
  by_cases Va:cap=n
  ·have U_:n=cap:=Va.symm;subst U_
   go_enter func268,ntmps268
   go_wp2_with (at_builtin;refine Lib.wpList_append_run _ rfl _ _ _ _ rfl _ _ rfl rfl _ _ HR.out ?_)
   go_ret
   exact⟨_,rfl,HS.out.fL.drop⟩
  ·go_enter func268,ntmps268
   go_wp2_with (at_builtin;refine Lib.wpList_append_run _ rfl _ _ _ _ rfl _ _ rfl rfl _ _ HR.out ?_)
   go_ret
   exact⟨_,rfl,HS.out.fL.drop⟩
theorem MJ(w w0:World)(L:List HP)(g n cap k:Nat)(xs vs:List Value)(bv:Nat)(h:St w0 (ie 75 3 (.slice (some ⟨g,0,none⟩) n cap) n xs::bD bv (.cells vs.toArray 75 (0,0))::L) w)(hv:vs.length=3)(h1:∀u∈vs,u.oneCell'=true)(FZ:∀u∈xs,u.oneCell'=true)(hn:n<1000000)(hk:k<n)(jM:n+1<=cap):
 Calls prog 268 #[.slice (some ⟨g,0,none⟩) n cap,.int .i64 k,.slice (some ⟨bv,0,none⟩) 1 1] w fun e w'=> ∃v',e=.returned v'/\St w0 (ie 75 3 v' (n+1) (xs.take (k *3)++vs++xs.drop (k *3))::L) w':=by
 obtain⟨i0,hi,uF,l0,u9⟩:=info_parts FJ;rcases h.cr with⟨hc,_⟩|⟨g',ou,cur,hc,tF,sP,mL,eO,qd,hblk⟩
 ·simp at hc
 ·simp only[Value.slice.injEq,ay,Addr.mk.injEq,and_true,true_and]at hc;obtain⟨rfl,rfl⟩:=hc;have hov:∀o n c o' n' c',(callFunc 361 #[.slice (some ⟨bv,o,none⟩) n c,.slice (some ⟨g,o',none⟩) n' c']).run prog w=.ok (.value (.bool false)) w:=fun o n c o' n' c'=>by
   rw[run_callFunc_extern func361 bm bm bm (e:=Extern.SlicesOverlaps.overlaps #[86,86] #[4]) bm,
    uA 86 4 75 i0 underlying86 hi hblk.fL o n c o' n' c' (by rw[mL];omega)]
   rfl
  have HB:=Lib.hid hblk;have kF:((k:Int)==(n:Int))=false:=by simp;omega
  have Qv:cap<9223372036854775808:=by unfold maxLen at sP;omega
  have cj:(cur.toList.take (n *3)).length=n *3:=by simp;omega
  have oG:cur.toList.length=cap *3:=by simpa using mL
  have Ba:Nat.min (n+1-k) (n-k)=n-k:=Nat.min_eq_right ae;have Y_:∀u∈(cur.toList.take (n *3)).drop (k *3),u.oneCell'=true:=fun u hu=>FZ u (eO▸List.mem_of_mem_drop hu)
  have UX:((cur.toList.take (n *3)).drop (k *3)).length=Nat.min (n+1-k) (n-k)*i0.size:=by
   rw[bo,cj,l0,Ba,Nat.sub_mul]
  have tM:=fc (P:=prog) w.drew 86 86 3 75 i0 g ((k+1)*3) (n-k) (cap-(k+1)) ⟨g,k *3,none⟩ (n+1-k) (cap-k) cur 75 _ underlying86 hi hblk.drew.look.2 UX
   (hblk.drew.eT fun j u hj=>by
    rw[List.getElem?_drop,List.getElem?_take]at hj;split at hj
    ·simpa using hj
    ·simp at hj) (by rw[UX,l0,Ba,mL];omega) Y_
  have rH:=hblk.drew.setRow (c':=(cur.toList.take ((k+1)*3)++(cur.toList.take (n *3)).drop (k *3)++cur.toList.drop ((k+1)*3+((cur.toList.take (n *3)).drop (k *3)).length)).toArray);have DE:((cur.toList.take (n *3)).drop (k *3)).length=n *3-k *3:=by rw[bo,cj]
  generalize Bh:cur.toList.take ((k+1)*3)++(cur.toList.take (n *3)).drop (k *3)++cur.toList.drop ((k+1)*3+((cur.toList.take (n *3)).drop (k *3)).length)=C1 at tM rH;have rf:C1.length=cap *3:=by rw[<-Bh];simp only[aQ,bp,DE,bo,oG];omega
  have kG:=fc (P:=prog) (w.drew.setRow g C1.toArray) 86 86 3 75 i0 g (k *3) (n+1-k) (cap-k) ⟨bv,0,none⟩ 1 1 C1.toArray 75 vs underlying86 hi rH.look.2
   Y10 (rH.drop.eT fun j u hj=>by simpa using hj) (by rw[hv];simp[rf];omega) h1
  have vY:=rH.setRow (c':=(C1.take (k *3)++vs++C1.drop (k *3+vs.length)).toArray);have nh:Nat.min 1 (n+1-k)=1:=Nat.min_eq_left ae;rw[nh]at kG;rw[Ba]at tM;have iW:((C1.take (k *3)++vs++C1.drop (k *3+vs.length)).toArray).toList.take ((n+1)*3)=xs.take (k *3)++vs++xs.drop (k *3):=by
   have :=mR cur.toList vs (k *3) 3 (n *3) (cap *3) ae hv ae oG;simp only[eO]at this;rw[hv];have e:(k+1)*3=k *3+3:=by omega
   have e2:(n+1)*3=n *3+3:=by omega
   have e3:(k *3+3+(n *3-k *3))=n *3+3:=by omega
   rw[eO,e,show(xs.drop (k *3)).length=n *3-k *3 by rw[bo,qd],e3]at Bh;rw[<-Bh,e2];exact this
  have tD:=vY.ju (n:=n+1) (size:=3) (cap:=cap) jM sP (by simp[rf,hv];omega) iW;generalize C1.take (k *3)++vs++C1.drop (k *3+vs.length)=C2 at kG tD vY iW;have WW:=Lib.hid tM;have WV:=Lib.hid kG;have HO:=Lib.hid tD;clear h hblk sP hi uF l0 u9 mL eO qd FZ h1 hv tM kG tD rH vY iW Bh DE UX Y_ oG cj Ba nh rf
  go_enter func268,ntmps268
  go_wp2_with fail
  refine eA [.pure,.pure,.pure,.pure,.pure,.pure,.pure,.pure,.write] [0,1,2,3,4,5,6,7,8] bm bm ?_;simp only[aT,List.map_nil,item,List.getD_cons_zero,List.getD_cons_succ]
  repeat((with_reducible refine fy (v:=?_) (a':=?_) ?_ ?_ ?_ ?_);rotate_left 2;(rfl);((intro w';go_simp;(try(go_bits;(try go_simp);(try(go_bits;(try go_simp)))));(repeat(first|rewrite [if_pos ae]|rewrite [if_neg ae])))<;>rfl);(go_simp;rfl))
  refine kR (a':=?_) (v:=?_) (w':=?_) rfl ?_ ?_ ?_
  rotate_left 3
  ·rw[lQ _ _ _ _ rfl (.slice (some ⟨g,(k+1)*3,none⟩) (n-k) (cap-(k+1))) (.slice (some ⟨g,k *3,none⟩) (n+1-k) (cap-k)) rfl rfl WW.out]
  ·go_simp;rfl
  refine nP ?_
  go_wp2_with (refine rO rfl _ _ _ _ rfl (.slice (some ⟨g,k *3,none⟩) (n+1-k) (cap-k)) (.slice (some ⟨bv,0,none⟩) 1 1) rfl rfl WV.out ?_;intro K hK;go_simp)
  go_ret
  exact⟨_,rfl,HO.out.fL.drop⟩
theorem MK(w w0:World)(L:List HP)(g n k:Nat)(cap:Nat)(xs vs:List Value)(bv:Nat)(h:St w0 (ie 75 3 (.slice (some ⟨g,0,none⟩) n cap) n xs::bD bv (.cells vs.toArray 75 (0,0))::L) w)(hv:vs.length=3)(h1:∀u∈vs,u.oneCell'=true)(FZ:∀u∈xs,u.oneCell'=true)(hn:n<1000000)(hk:k<n)(jM:cap<n+1):
 Calls prog 268 #[.slice (some ⟨g,0,none⟩) n cap,.int .i64 k,.slice (some ⟨bv,0,none⟩) 1 1] w fun e w'=> ∃v',e=.returned v'/\St w0 (ie 75 3 v' (n+1) (xs.take (k *3)++vs++xs.drop (k *3))::L) w':=by
 obtain⟨i0,hi,uF,l0,u9⟩:=info_parts FJ;rcases h.cr with⟨hc,_⟩|⟨g',ou,cur,hc,tF,sP,mL,eO,qd,hblk⟩
 ·simp at hc
 ·simp only[Value.slice.injEq,ay,Addr.mk.injEq,and_true,true_and]at hc;obtain⟨rfl,rfl⟩:=hc;have Va:cap=n:=by omega
  have kF:((k:Int)==(n:Int))=false:=by simp;omega
  have oG:cur.toList.length=cap *3:=by simpa using mL
  have P9:(xs.take (k *3)).length=k *3:=by rw[bp,qd];omega
  have iD:∀(j:Nat) (u:Value),xs[j]? =some u->cur[j]? =some u:=fun j u hj=>by
   rw[<-eO,List.getElem?_take]at hj;split at hj
   ·simpa using hj
   ·simp at hj
  have hr:=mS (P:=prog) w 86 3 86 75 i0 _ .i64 .i64 underlying86 underlying3 hi uF ⟨g,0,none⟩ k cap (xs.take (k *3)) (by rw[P9,l0])
   (hblk.eT fun j u hj=>by
    rw[List.getElem?_take]at hj;split at hj
    ·rw[Nat.zero_add];exact iD j u hj
    ·simp at hj) (n+1-k) ae (by rw[l0];omega) ae ae (by rw[u9];exact growslice_fits ae ae) (by rw[u9];omega)
  have B7:=grownCap_ge w (k+(n+1-k)) cap 75;have hle:=grownCap_le_maxLen w (k+(n+1-k)) cap 75 Ou;have mJ:=hblk.drew.alloc (.cells ((xs.take (k *3)).toArray++Builtin.zeroCells (Value.agg #[.string ⟨#[]⟩,.string ⟨#[]⟩,.int .i64 0]).cells (n+1-k)++Builtin.zeroCells (Value.agg #[.string ⟨#[]⟩,.string ⟨#[]⟩,.int .i64 0]).cells (grownCap w (k+(n+1-k)) cap 75-(k+(n+1-k)))) 75);have Kx:∀q,(Builtin.zeroCells (Value.agg #[.string ⟨#[]⟩,.string ⟨#[]⟩,.int .i64 0]).cells q).size=q *3:=fun q=>by rw[size_zeroCells];rfl
  generalize hW:w.drew.alloc (.cells ((xs.take (k *3)).toArray++Builtin.zeroCells (Value.agg #[.string ⟨#[]⟩,.string ⟨#[]⟩,.int .i64 0]).cells (n+1-k)++Builtin.zeroCells (Value.agg #[.string ⟨#[]⟩,.string ⟨#[]⟩,.int .i64 0]).cells (grownCap w (k+(n+1-k)) cap 75-(k+(n+1-k)))) 75)=W at hr mJ;clear hW;generalize hcp:grownCap w (k+(n+1-k)) cap 75=cp at hr mJ B7 hle;clear hcp;have e1:k+(n+1-k)=n+1:=by omega
  rw[e1]at hr B7;generalize hB:w.heap.size=B at hr;have ZL:w.drew.heap.size=B:=hB;rw[ZL]at mJ;clear hB ZL;generalize hZ:Builtin.zeroCells (Value.agg #[.string ⟨#[]⟩,.string ⟨#[]⟩,.int .i64 0]).cells (n+1-k)++Builtin.zeroCells (Value.agg #[.string ⟨#[]⟩,.string ⟨#[]⟩,.int .i64 0]).cells (cp-(k+(n+1-k)))=Z at mJ;have ZC:Z.toList.length=(cp-k)*3:=by
   rw[<-hZ];simp only[Array.length_toList,Array.size_append,Kx];omega
  have JO:((xs.take (k *3)).toArray++Builtin.zeroCells (Value.agg #[.string ⟨#[]⟩,.string ⟨#[]⟩,.int .i64 0]).cells (n+1-k)++Builtin.zeroCells (Value.agg #[.string ⟨#[]⟩,.string ⟨#[]⟩,.int .i64 0]).cells (cp-(k+(n+1-k))))=(xs.take (k *3)++Z.toList).toArray:=by
   rw[<-hZ];apply Array.ext';simp
  rw[JO]at mJ;clear JO hZ Kx;have UH:=mJ;generalize JO:xs.take (k *3)++Z.toList=C0 at mJ;have Gq:C0.length=cp *3:=by rw[<-JO,aQ,P9,ZC];omega
  have xI:Nat.min 1 (n+1-k)=1:=Nat.min_eq_left ae;have z_:St w0 (bD bv (.cells vs.toArray 75 (0,0))::bD B (.cells C0.toArray 75 (0,0))::bD g (.cells cur 75 (0,0))::L) W:=mJ.pick (.tail (.tail .head));have tM:=fc (P:=prog) W 86 86 3 75 i0 B (k *3) (n+1-k) (cp-k) ⟨bv,0,none⟩ 1 1 C0.toArray 75 vs underlying86 hi mJ.look.2
   (by rw[hv,l0,xI,Nat.one_mul]) (z_.eT fun j u hj=>by simpa using hj) (by rw[hv];simp[Gq];omega) h1
  have rH:=mJ.setRow (c':=(C0.take (k *3)++vs++C0.drop (k *3+vs.length)).toArray);rw[xI]at tM;generalize Bh:C0.take (k *3)++vs++C0.drop (k *3+vs.length)=C1 at tM rH;have rf:C1.length=cp *3:=by rw[<-Bh];simp only[aQ,bp,bo,Gq,hv];omega
  generalize Qz:W.setRow B C1.toArray=W1 at tM rH;clear Qz;have me:(xs.drop (k *3)).length=(n-k)*3:=by rw[bo,qd];omega
  have nh:Nat.min (n-k) (n-k)=n-k:=Nat.min_self _;have xL:St w0 (bD g (.cells cur 75 (0,0))::bD B (.cells C1.toArray 75 (0,0))::bD bv (.cells vs.toArray 75 (0,0))::L) W1.drew:=(rH.pick (.tail .head)).drew;have kG:=fc (P:=prog) W1.drew 86 86 3 75 i0 B ((k+1)*3) (n-k) (cp-(k+1)) ⟨g,k *3,none⟩ (n-k) (cap-k) C1.toArray 75 (xs.drop (k *3)) underlying86 hi rH.drew.look.2
   (by rw[me,l0,nh]) (xL.eT fun j u hj=>by rw[List.getElem?_drop]at hj;exact iD _ u hj) (by rw[me];simp[rf];omega) (fun u hu=>FZ u (List.mem_of_mem_drop hu))
  have vY:=rH.drew.setRow (c':=(C1.take ((k+1)*3)++xs.drop (k *3)++C1.drop ((k+1)*3+(xs.drop (k *3)).length)).toArray);rw[nh]at kG;have iW:((C1.take ((k+1)*3)++xs.drop (k *3)++C1.drop ((k+1)*3+(xs.drop (k *3)).length)).toArray).toList.take ((n+1)*3)=xs.take (k *3)++vs++xs.drop (k *3):=by
   have :=uM (xs.take (k *3)) Z.toList vs (xs.drop (k *3)) (k *3) 3 ((n-k)*3) P9 hv me;simp only[JO]at this;rw[hv]at Bh;rw[Bh]at this;rw[me,show(k+1)*3=k *3+3 by omega,show(n+1)*3=k *3+3+(n-k)*3 by omega];exact this
  have xJ:(C1.take ((k+1)*3)++xs.drop (k *3)++C1.drop ((k+1)*3+(xs.drop (k *3)).length)).length=cp *3:=by
   simp only[aQ,bp,bo,rf,qd];omega
  generalize C1.take ((k+1)*3)++xs.drop (k *3)++C1.drop ((k+1)*3+(xs.drop (k *3)).length)=C2 at kG vY iW xJ;have tD:=vY.ju (n:=n+1) (size:=3) (cap:=cp) B7 hle (by simpa using xJ) iW;have e9:((n+1-k:Nat):Int)=(n:Int)+1-k:=by omega
  rw[e9]at hr;clear e9;have HR:=Lib.hid hr;have WW:=Lib.hid tM;have WV:=Lib.hid kG;have HO:=Lib.hid tD;have aei:cp<9223372036854775808:=by unfold maxLen at hle;omega
  clear h hblk sP hi uF l0 u9 mL eO qd FZ h1 hv tM kG tD mJ UH rH vY iW xJ JO Gq Bh rf hr xL z_ me P9 oG iD ZC xI nh hle e1 Va
  go_enter func268,ntmps268
  go_wp2_with (first|(at_builtin;refine Lib.wpList_append_run _ rfl _ _ _ _ rfl _ _ rfl rfl _ _ HR.out ?_)|(refine rO rfl _ _ _ _ rfl (.slice (some ⟨B,k *3,none⟩) (n+1-k) (cp-k)) (.slice (some ⟨bv,0,none⟩) 1 1) rfl rfl WW.out ?_;intro K hK;go_simp))
  refine eA [.pure,.pure,.pure,.pure,.pure,.pure,.pure,.pure,.write] [0,1,2,3,4,5,6,7,8] bm bm ?_;simp only[aT,List.map_nil,item,List.getD_cons_zero,List.getD_cons_succ]
  repeat((with_reducible refine fy (v:=?_) (a':=?_) ?_ ?_ ?_ ?_);rotate_left 2;(rfl);((intro w';go_simp;(try(go_bits;(try go_simp);(try(go_bits;(try go_simp)))));(repeat(first|rewrite [if_pos ae]|rewrite [if_neg ae])))<;>rfl);(go_simp;rfl))
  refine kR (a':=?_) (v:=?_) (w':=?_) rfl ?_ ?_ ?_
  rotate_left 3
  ·rw[lQ _ _ _ _ rfl (.slice (some ⟨B,(k+1)*3,none⟩) (n-k) (cp-(k+1))) (.slice (some ⟨g,k *3,none⟩) (n-k) (cap-k)) rfl rfl WV.out]
  ·go_simp;rfl
  refine nP ?_
  go_wp2_with fail
  go_ret
  exact⟨_,rfl,HO.out.pick (.tail .head) |>.drop.pick (.tail .head) |>.drop⟩
theorem P4(w w0:World)(L:List HP)(v:Value)(l:List Nm)(x:Nm)(k bv n:Nat)(hn:n=l.length)(h:St w0 (ie 75 3 v n (bY l)::bD bv (.cells x.cells.toArray 75 (0,0))::L) w)(hk:k<=l.length)(zY:l.length<1000000):
 Calls prog 268 #[v,.int .i64 k,.slice (some ⟨bv,0,none⟩) 1 1] w fun e w'=> ∃v',e=.returned v'/\St w0 (ie 75 3 v' (l.length+1) (bY (l.take k++x::l.drop k))::L) w':=by
 subst hn;by_cases sO:k=l.length
 ·subst sO;have :=P3 w w0 L v l.length (bY l) x.cells bv h rfl x.cells_one zY;refine this.mono ?_;rintro e w' ⟨v',he,hs⟩;refine⟨v',he,?_⟩;rw[show bY (l.take l.length++x::l.drop l.length)=bY l++x.cells by simp[bY]];exact hs
 ·have dI:k<l.length:=by omega
  rcases h.cr with⟨_,hz,_⟩|⟨g,cap,cur,rfl,tF,_⟩
  ·omega
  ·rw[<-xo l x k hk];by_cases hr:l.length+1<=cap
   ·exact MJ w w0 L g l.length cap k (bY l) x.cells bv h rfl x.cells_one (uB l) zY dI hr
   ·exact MK w w0 L g l.length k cap (bY l) x.cells bv h rfl x.cells_one (uB l) zY dI ae
theorem rZ(x:Nm)(b:Bool)(w:World)(h1:x.name.size<=maxLen)(h2:x.iQ.size<=maxLen)(hb:bW x=b):
 Calls prog 267 #[.agg x.cells.toArray] w fun e w'=>e=.returned (.bool b)/\Below w.heap.size w w':=by
 rw[<-hb];exact I5 x w h1 h2
theorem Pj(b off:Nat)(c:Array Value)(T:TypeId)(v:Value)(l:List Nm)(x:Nm)(w w0:World)(L:List HP)(h:St w0 (bD b (.cells c T (0,0))::ie 75 3 v l.length (bY l)::L) w)(hr:bW x=false)(h1:x.name.size<=maxLen)(h2:x.iQ.size<=maxLen):
 Calls prog 170 #[.pointer (some ⟨b,off,none⟩),.agg x.cells.toArray] w fun e w'=>e=.returned (.iface 70 (.int .i64 1))/\
  St w0 (bD b (.cells c T (0,0))::ie 75 3 v l.length (bY l)::L) w':=by
 have HC:=Lib.hid (fun w=>rZ x false w h1 h2 hr);have mJ:=h.alloc (.cells x.cells.toArray 75);have HS:=Lib.hid mJ;clear h h1 h2 hr mJ;obtain⟨a,t,n⟩:=x;simp only[Nm.cells]at HC HS ⊢
 go_enter func170,ntmps170
 go_wp2_with fail
 refine(HC.out _).mono ?_;rintro e w1 ⟨rfl,jV⟩;have zg:=Lib.hid (HS.out.aA jV);clear jV
 go_wp2_with fail
 go_ret
 exact⟨rfl,zg.out.drop⟩
theorem LH(b off:Nat)(c:Array Value)(T:TypeId)(v:Value)(l:List Nm)(x:Nm)(w w0:World)(L:List HP)(h:St w0 (bD b (.cells c T (0,0))::ie 75 3 v l.length (bY l)::L) w)(hc:c[off]? =some v)(hr:bW x=true)(h1:x.name.size<=maxLen)(h2:x.iQ.size<=maxLen)(hm:B3 l x.name)(hl:20<=l.length)(JE:l.length<1000000)(hit:eW l x.name (bF l x.name)=false):
 Calls prog 170 #[.pointer (some ⟨b,off,none⟩),.agg x.cells.toArray] w fun e w'=>e=.returned (.iface 70 (.int .i64 12))/\
  St w0 (bD b (.cells c T (0,0))::ie 75 3 v l.length (bY l)::L) w':=by
 have HC:=Lib.hid (fun w=>rZ x true w h1 h2 hr);have mJ:=h.alloc (.cells x.cells.toArray 75);have HS:=Lib.hid mJ;have HF:=Lib.hid (fun(w:World) (h:St w0 (bD b (.cells c T (0,0))::ie 75 3 v l.length (bY l)::L) w)=>nr b off c T (0,0) v l x.name w w0 L h hc JE hm);have HK:=Lib.hid (fun k (hk:Hm l x.name k)=>jZ hk);have HI:=Lib.hid hit;have hv:∃a cap,v=.slice a l.length cap:=by
  rcases h.drop.cr with⟨hv,hz,_⟩|⟨g,cap,_,hv,_⟩
  ·exact⟨none,0,by rw[hv,hz]⟩
  ·exact⟨_,_,hv⟩
 obtain⟨a,cap,rfl⟩:=hv;have Ks:=Lib.hid hc;clear h h1 h2 hr mJ hm hit hc;generalize hN:l.length=n at *;have HN:=Lib.hid hN;clear hN;obtain⟨nm,t,hs⟩:=x;simp only[Nm.cells]at HC HS HF HK HI ⊢
 go_enter func170,ntmps170
 go_wp2_with fail
 refine(HC.out _).mono ?_;rintro e w1 ⟨rfl,jV⟩;have zg:=Lib.hid (HS.out.aA jV);have c0:=zg.out.cell (off:=0) rfl;clear jV
 go_wp2_with fail
 refine(HF.out _ zg.out.drop).mono ?_;rintro e w2 ⟨k,hk,rfl,jy⟩;have vJ:=Lib.hid (zg.out.aA jy);rw[HK.out k hk,HI.out];clear jy c0 hk;have c1:w2.cell? ⟨b,off,none⟩=some (.slice a n cap):=vJ.out.NP (.tail .head) Ks.out
 go_wp2_with fail
 go_ret
 exact⟨rfl,vJ.out.drop⟩
theorem Ph(b off:Nat)(c:Array Value)(T:TypeId)(v:Value)(l:List Nm)(x:Nm)(w w0:World)(L:List HP)(h:St w0 (bD b (.cells c T (0,0))::ie 75 3 v l.length (bY l)::L) w)(hc:c[off]? =some v)(hr:bW x=true)(h1:x.name.size<=maxLen)(h2:x.iQ.size<=maxLen)(hm:B3 l x.name)(JE:l.length<1000000)(hit:eW l x.name (bF l x.name)=true):
 Calls prog 170 #[.pointer (some ⟨b,off,none⟩),.agg x.cells.toArray] w fun e w'=>e=.returned .nilIface/\
  St w0 (bD b (.cells c T (0,0))::ie 75 3 v l.length (bY (l.set (bF l x.name) x))::L) w':=by
 have HC:=Lib.hid (fun w=>rZ x true w h1 h2 hr);have mJ:=h.alloc (.cells x.cells.toArray 75);have HS:=Lib.hid mJ;have HF:=Lib.hid (fun(w:World) (h:St w0 (bD b (.cells c T (0,0))::ie 75 3 v l.length (bY l)::L) w)=>nr b off c T (0,0) v l x.name w w0 L h hc JE hm);have HK:=Lib.hid (fun k (hk:Hm l x.name k)=>jZ hk);have HI:=Lib.hid hit;have Zg:bF l x.name<l.length:=by
  unfold eW at hit;rw[aW]at hit;simpa using hit.1
 have abx:=Lib.hid (C5 l x (bF l x.name) Zg);have hv:∃g cap,v=.slice (some ⟨g,0,none⟩) l.length cap:=by
  rcases h.drop.cr with⟨hv,hz,_⟩|⟨g,cap,_,hv,_⟩
  ·omega
  ·exact⟨_,_,hv⟩
 obtain⟨g,cap,rfl⟩:=hv;have Ks:=Lib.hid hc;clear h h1 h2 hr mJ hm hit hc;generalize hN:l.length=n at *;have HN:=Lib.hid hN;clear hN;obtain⟨nm,t,hs⟩:=x;simp only[Nm.cells]at HC HS HF HK HI abx Zg ⊢;generalize hK:bF l nm=k0 at *;clear hK
 go_enter func170,ntmps170
 go_wp2_with fail
 refine(HC.out _).mono ?_;rintro e w1 ⟨rfl,jV⟩;have zg:=Lib.hid (HS.out.aA jV);have c0:=zg.out.cell (off:=0) rfl;clear jV
 go_wp2_with fail
 refine(HF.out _ zg.out.drop).mono ?_;rintro e w2 ⟨k,hk,rfl,jy⟩;have vJ:=Lib.hid (zg.out.aA jy);obtain rfl:=HK.out k hk;rw[HI.out];clear jy c0 hk;have c1:w2.cell? ⟨b,off,none⟩=some (.slice (some ⟨g,0,none⟩) n cap):=vJ.out.NP (.tail .head) Ks.out;have c2:cU w2 ⟨w.heap.size,0,none⟩ [.string nm,.string t,.int .i64 hs]:=vJ.out.eT fun j u hj=>by simpa using hj
 obtain⟨w3,hw3,SJ⟩:∃w3,(storeVar 75 ⟨g,k *3,none⟩ (.agg #[.string nm,.string t,.int .i64 hs])).run prog w2.drew=.ok () w3/\
  St w0 (bD b (.cells c T (0,0))::ie 75 3 (.slice (some ⟨g,0,none⟩) n cap) n (bY (l.set k ⟨nm,t,hs⟩))::L) w3:=by
  have h4:=(vJ.out.drop.pick (.tail .head)).drew;rcases h4.cr with⟨hc,_⟩|⟨g',ou,cur,hc,tF,sP,mL,eO,qd,hblk⟩
  ·simp at hc
  ·simp only[Value.slice.injEq,ay,Addr.mk.injEq,and_true,true_and]at hc;obtain⟨rfl,rfl⟩:=hc;refine⟨_,j0 hblk (by simp[Value.cells]) (by simp[Value.cells];omega) (by simp[Value.cells];exact⟨rfl,rfl,rfl⟩),?_⟩;refine((hblk.setRow).ju tF sP ?_ ?_).fL
   ·simp[Value.cells];omega
   ·rw[<-abx.out,<-eO];exact Cv cur.toList [.string nm,.string t,.int .i64 hs] (k *3) 3 (n *3) rfl ae fV
 have HW3:=Lib.hid hw3;have HS3:=Lib.hid SJ;clear hw3 SJ
 go_wp2_with fail
 refine eA [.pure,.pure,.pure,.read,.pure,.read,.pure,.write] [0,1,2,3,4,5,6,7] bm bm ?_;simp only[aT,List.map_nil,item,List.getD_cons_zero,List.getD_cons_succ]
 repeat((with_reducible refine fy (v:=?_) (a':=?_) ?_ ?_ ?_ ?_);rotate_left 2;(rfl);((intro w';go_simp;(try(go_bits;(try go_simp);(try(go_bits;(try go_simp)))));((skip)))<;>rfl);(go_simp;rfl))
 refine vO (a':=?_) (v:=.slice (some ⟨g,0,none⟩) n cap) (ad:=⟨b,off,none⟩) rfl rfl (fun _=>by simp) c1 ?_ ?_
 rotate_left 1
 ·go_simp;rfl
 repeat((with_reducible refine fy (v:=?_) (a':=?_) ?_ ?_ ?_ ?_);rotate_left 2;(rfl);((intro w';go_simp;(try(go_bits;(try go_simp);(try(go_bits;(try go_simp)))));((skip)))<;>rfl);(go_simp;rfl))
 refine Hv (a':=?_) (cs:=[.string nm,.string t,.int .i64 hs]) (ad:=⟨w.heap.size,0,none⟩) rfl rfl (fun _=>by simp) (fun _=>by simp) c2 ?_ ?_
 rotate_left 1
 ·go_simp;rfl
 repeat((with_reducible refine fy (v:=?_) (a':=?_) ?_ ?_ ?_ ?_);rotate_left 2;(rfl);((intro w';go_simp;(try(go_bits;(try go_simp);(try(go_bits;(try go_simp)))));((skip)))<;>rfl);(go_simp;rfl))
 refine qp (a':=?_) (w':=w3) rfl ?_ ?_ ?_
 rotate_left 1
 ·exact xX rfl rfl HW3.out
 ·go_simp;rfl
 refine nP ?_;clear c1 c2
 go_wp2_with fail
 go_ret
 exact⟨rfl,HS3.out⟩
theorem Pg(b off:Nat)(c:Array Value)(T:TypeId)(v:Value)(l:List Nm)(x:Nm)(w w0:World)(L:List HP)(h:St w0 (bD b (.cells c T (0,0))::ie 75 3 v l.length (bY l)::L) w)(hc:c[off]? =some v)(hr:bW x=true)(h1:x.name.size<=maxLen)(h2:x.iQ.size<=maxLen)(hm:B3 l x.name)(hl:l.length<20)(hit:eW l x.name (bF l x.name)=false):
 Calls prog 170 #[.pointer (some ⟨b,off,none⟩),.agg x.cells.toArray] w fun e w'=>e=.returned .nilIface/\
  ∃v',St w0 (bD b (.cells (c.setIfInBounds off v') T (0,0))::ie 75 3 v' (l.length+1) (bY (l.take (bF l x.name)++x::l.drop (bF l x.name)))::L) w':=by
 have HC:=Lib.hid (fun w=>rZ x true w h1 h2 hr);have mJ:=h.alloc (.cells x.cells.toArray 75);have HS:=Lib.hid mJ;have HF:=Lib.hid (fun(w:World) (h:St w0 (bD b (.cells c T (0,0))::ie 75 3 v l.length (bY l)::L) w)=>nr b off c T (0,0) v l x.name w w0 L h hc ae hm);have HK:=Lib.hid (fun k (hk:Hm l x.name k)=>jZ hk);have HI:=Lib.hid hit;have UY:bF l x.name<=l.length:=gV _ _;have WU:=Lib.hid (fun(w:World) (bv:Nat) (L':List HP) (h:St w0 (ie 75 3 v l.length (bY l)::bD bv (.cells x.cells.toArray 75 (0,0))::L') w)=>P4 w w0 L' v l x (bF l x.name) bv l.length rfl h UY ae);have hv:∃a cap,v=.slice a l.length cap:=by
  rcases h.drop.cr with⟨hv,hz,_⟩|⟨g,cap,_,hv,_⟩
  ·exact⟨none,0,by rw[hv,hz]⟩
  ·exact⟨_,_,hv⟩
 obtain⟨sa,cap,rfl⟩:=hv;have Ks:=Lib.hid hc;have F6:off<c.size:=(Array.getElem?_eq_some_iff.1 hc).1;clear h h1 h2 hr mJ hm hit hc;obtain⟨nm,t,hs⟩:=x;simp only[Nm.cells]at HC HS HF HK HI WU UY ⊢;generalize hK:bF l nm=k0 at *;generalize hN:l.length=n at HF WU HS Ks UY hl ⊢;clear hK
 go_enter func170,ntmps170
 go_wp2_with fail
 refine(HC.out _).mono ?_;rintro e w1 ⟨rfl,jV⟩;have zg:=Lib.hid (HS.out.aA jV);have c0:=zg.out.cell (off:=0) rfl;clear jV
 go_wp2_with fail
 refine(HF.out _ zg.out.drop).mono ?_;rintro e w2 ⟨k,hk,rfl,jy⟩;have vJ:=Lib.hid (zg.out.aA jy);obtain rfl:=HK.out k hk;rw[HI.out];clear jy c0 hk;have c1:w2.cell? ⟨b,off,none⟩=some (.slice sa n cap):=vJ.out.NP (.tail .head) Ks.out;have c2:cU w2 ⟨w.heap.size,0,none⟩ [.string nm,.string t,.int .i64 hs]:=vJ.out.eT fun j u hj=>by simpa using hj
 go_wp2_with fail
 refine eA [.pure,.pure,.pure,.pure,.read,.pure,.read,.cx,.write,.pure,.pure,.write] [0,1,2,3,4,5,6,9,10,7,8,11] bm bm ?_;simp only[aT,List.map_nil,item,List.getD_cons_zero,List.getD_cons_succ]
 repeat((with_reducible refine fy (v:=?_) (a':=?_) ?_ ?_ ?_ ?_);rotate_left 2;(rfl);((intro w';go_simp;(try(go_bits;(try go_simp);(try(go_bits;(try go_simp)))));((skip)))<;>rfl);(go_simp;rfl))
 refine vO (a':=?_) (v:=.slice sa n cap) (ad:=⟨b,off,none⟩) rfl rfl (fun _=>by simp) c1 ?_ ?_
 rotate_left 1
 ·go_simp;rfl
 repeat((with_reducible refine fy (v:=?_) (a':=?_) ?_ ?_ ?_ ?_);rotate_left 2;(rfl);((intro w';go_simp;(try(go_bits;(try go_simp);(try(go_bits;(try go_simp)))));((skip)))<;>rfl);(go_simp;rfl))
 refine Hv (a':=?_) (cs:=[.string nm,.string t,.int .i64 hs]) (ad:=⟨w.heap.size,0,none⟩) rfl rfl (fun _=>by simp) (fun _=>by simp) c2 ?_ ?_
 rotate_left 1
 ·go_simp;rfl
 repeat((with_reducible refine fy (v:=?_) (a':=?_) ?_ ?_ ?_ ?_);rotate_left 2;(rfl);((intro w';go_simp;(try(go_bits;(try go_simp);(try(go_bits;(try go_simp)))));((skip)))<;>rfl);(go_simp;rfl))
 refine Cn (a':=?_) (v:=.slice (some ⟨w2.heap.size,0,none⟩) 1 1) (w':=(w2.alloc (.cells #[.string nm,.string t,.int .i64 hs] 75)).drew) rfl ?_ ?_ ?_ ?_
 rotate_left 1
 ·go_simp
 ·exact Ext.alloc w2 _
 ·go_simp;rfl
 have SJ:=vJ.out.alloc (.cells #[.string nm,.string t,.int .i64 hs] 75);have YQ:St w0 (ie 75 3 (.slice sa n cap) n (bY l)::bD w2.heap.size (.cells [Value.string nm,Value.string t,Value.int .i64 hs].toArray 75 (0,0))::bD w.heap.size (.cells #[.string nm,.string t,.int .i64 hs] 75)::bD b (.cells c T (0,0))::L)
  (w2.alloc (.cells #[.string nm,.string t,.int .i64 hs] 75)).drew:=(SJ.pick (.tail (.tail (.tail .head)))).drew
 refine yR rfl (f:=268) (args:=#[.slice sa n cap,.int .i64 k,.slice (some ⟨w2.heap.size,0,none⟩) 1 1]) (w':=(w2.alloc (.cells #[.string nm,.string t,.int .i64 hs] 75)).drew) ?_ (WU.out _ _ _ YQ) ?_
 ·go_simp
 rintro e w3 ⟨v',rfl,hs5⟩;refine⟨v',rfl,?_⟩;have pU:∃OH n' ou,v'=.slice OH n' ou:=by
  rcases hs5.cr with⟨hv,_⟩|⟨g,cap,_,hv,_⟩
  ·exact⟨_,_,_,hv⟩
  ·exact⟨_,_,_,hv⟩
 obtain⟨OH,n',ou,rfl⟩:=pU;have hb6:St w0 (bD b (.cells c T (0,0))::ie 75 3 (.slice OH n' ou) (n+1) (bY (l.take k++⟨nm,t,hs⟩::l.drop k))::bD w.heap.size (.cells #[.string nm,.string t,.int .i64 hs] 75)::L) w3:=hs5.pick (.tail (.tail .head));have kO:=j0 (P:=prog) (T:=86) (off:=off) (v:=.slice OH n' ou) hb6 (by simp[Value.cells]) (by simp[Value.cells];omega) (by simp[Value.cells];rfl);have hs7:=hb6.setRow (c':=(c.toList.take off++(Value.slice OH n' ou).cells.toList++c.toList.drop (off+(Value.slice OH n' ou).cells.toList.length)).toArray);have e7:(c.toList.take off++(Value.slice OH n' ou).cells.toList++c.toList.drop (off+(Value.slice OH n' ou).cells.toList.length)).toArray=c.setIfInBounds off (.slice OH n' ou):=Fs F6;rw[e7]at kO hs7;refine qp (a':=?_) (w':=w3.setRow b (c.setIfInBounds off (.slice OH n' ou))) rfl ?_ ?_ ?_
 rotate_left 1
 ·exact xX rfl rfl kO
 ·go_simp;rfl
 have HS7:=Lib.hid (hs7.pick (.tail (.tail .head))).drop;clear SJ YQ hs5 hb6 hs7 kO e7 c1 c2;refine nP ?_
 go_wp2_with fail
 go_ret
 exact⟨rfl,_,HS7.out⟩
theorem Pk(b off:Nat)(c:Array Value)(T:TypeId)(v:Value)(l:List Nm)(x:Nm)(w w0:World)(L:List HP)(h:St w0 (bD b (.cells c T (0,0))::ie 75 3 v l.length (bY l)::L) w)(hc:c[off]? =some v)(h1:x.name.size<=maxLen)(h2:x.iQ.size<=maxLen)(hm:B3 l x.name)(hl:l.length<=20):
 Calls prog 170 #[.pointer (some ⟨b,off,none⟩),.agg x.cells.toArray] w fun e w'=>e=.returned (cz 70 (cu l x))/\
  ∃v',St w0 (bD b (.cells (c.setIfInBounds off v') T (0,0))::ie 75 3 v' (d_ l x).length (bY (d_ l x))::L) w':=by
 cases hr:bW x with
 |false=>
  refine(Pj b off c T v l x w w0 L h hr h1 h2).mono ?_;rintro e w' ⟨rfl,hs⟩;refine⟨by simp[cz,cu,hr],v,?_⟩;rw[wQ hc];simp only[d_,hr,if_true];exact hs
 |true=>
  cases hit:eW l x.name (bF l x.name)with
  |true=>
   refine(Ph b off c T v l x w w0 L h hc hr h1 h2 hm ae hit).mono ?_;rintro e w' ⟨rfl,hs⟩;refine⟨by simp[cz,cu,hr,hit],v,?_⟩;rw[wQ hc];simp only[d_,hr,hit,if_true,Bool.true_eq_false,if_false,List.length_set];exact hs
  |false=>
   by_cases hf:20<=l.length
   ·refine(LH b off c T v l x w w0 L h hc hr h1 h2 hm hf ae hit).mono ?_;rintro e w' ⟨rfl,hs⟩;refine⟨by simp[cz,cu,hr,hit,hf],v,?_⟩;rw[wQ hc];simp only[d_,hr,hit,hf,if_true,Bool.true_eq_false,Bool.false_eq_true,if_false];exact hs
   ·refine(Pg b off c T v l x w w0 L h hc hr h1 h2 hm ae hit).mono ?_;rintro e w' ⟨rfl,v',hs⟩;refine⟨by simp[cz,cu,hr,hit,hf],v',?_⟩;have hk:bF l x.name<=l.length:=gV _ _;have e1:d_ l x=l.take (bF l x.name)++x::l.drop (bF l x.name):=by simp[d_,hr,hit,hf]
    rw[e1,show(l.take (bF l x.name)++x::l.drop (bF l x.name)).length=l.length+1 by simp;omega];exact hs
theorem Jk(b off:Nat)(c:Array Value)(T:TypeId)(v:Value)(l:List Nm)(s:ak)(w w0:World)(L:List HP)(h:St w0 (bD b (.cells c T (0,0))::ie 75 3 v l.length (bY l)::L) w)(hc:c[off]? =some v)(hm:B3 l s)(hl:l.length<1000000):
 Calls prog 57 #[.pointer (some ⟨b,off,none⟩),.string s] w fun e w'=>e=.returned (.bool (dO l s))/\Below w.heap.size w w':=by
 have HF:=Lib.hid (nr b off c T (0,0) v l s w w0 L h hc hl hm);have HK:=Lib.hid (fun k (hk:Hm l s k)=>jZ hk);have HS:=Lib.hid h;have Ks:=Lib.hid hc;cases hit:eW l s (bF l s)with
 |false=>
  have HI:=Lib.hid hit;have HE:=Lib.hid (show dO l s=false by simp[dO,zK hit]);clear h hm hit hc
  go_enter func57,ntmps57
  go_wp2_with fail
  refine HF.out.mono ?_;rintro e w2 ⟨k,hk,rfl,jy⟩;have yQ:=Lib.hid jy;rw[HK.out k hk,HI.out];clear jy hk
  go_wp2_with fail
  go_ret
  exact⟨fA HE.out.symm,yQ.out⟩
 |true=>
  have dI:=tH hit;have hv:∃g cap,v=.slice (some ⟨g,0,none⟩) l.length cap:=by
   rcases h.drop.cr with⟨hv,hz,_⟩|⟨g,cap,_,hv,_⟩
   ·omega
   ·exact⟨_,_,hv⟩
  obtain⟨g,cap,rfl⟩:=hv;have HI:=Lib.hid hit;have HE:=Lib.hid (show dO l s=ik (dU l (bF l s)).iQ by simp[dO,zJ hit]);have HN:=Lib.hid (show bF l s<l.length from dI);clear h hm hit hc;generalize hN:l.length=n at HF dI hl;generalize hK:bF l s=k0 at HI HE HN HK dI;clear hK;cases he:ik (dU l k0).iQ with
  |false=>
   have OO:(dU l k0).iQ.toList.isEmpty=false:=he;have iM:((dU l k0).iQ.toList==[])=false:=by simpa[ik]using he
   have HE2:=Lib.hid he;have HNN:=Lib.hid hN;clear he hN
   go_enter func57,ntmps57
   go_wp2_with fail
   refine HF.out.mono ?_;rintro e w2 ⟨k,hk,rfl,jy⟩;have yQ:=Lib.hid jy;have vJ:=Lib.hid (HS.out.aA jy);obtain rfl:=HK.out k hk;rw[HI.out];clear jy hk;have c1:w2.cell? ⟨b,off,none⟩=some (.slice (some ⟨g,0,none⟩) n cap):=by rw[<-HNN.out];exact vJ.out.cell Ks.out
   obtain⟨d0,d1,d2⟩:=lJ vJ.out.drop HN.out
   go_wp2_with fail
   go_ret
   exact⟨fA (by rw[HE.out,HE2.out]),yQ.out⟩
  |true=>
   have OO:(dU l k0).iQ.toList.isEmpty=true:=he;have iM:(dU l k0).iQ.toList=[]:=by simpa[ik]using he
   have HE2:=Lib.hid he;have HNN:=Lib.hid hN;clear he hN
   go_enter func57,ntmps57
   go_wp2_with fail
   refine HF.out.mono ?_;rintro e w2 ⟨k,hk,rfl,jy⟩;have yQ:=Lib.hid jy;have vJ:=Lib.hid (HS.out.aA jy);obtain rfl:=HK.out k hk;rw[HI.out];clear jy hk;have c1:w2.cell? ⟨b,off,none⟩=some (.slice (some ⟨g,0,none⟩) n cap):=by rw[<-HNN.out];exact vJ.out.cell Ks.out
   obtain⟨d0,d1,d2⟩:=lJ vJ.out.drop HN.out
   go_wp2_with fail
   go_ret
   exact⟨fA (by rw[HE.out,HE2.out]),yQ.out⟩
def WN (l:List Nm) (s:ak) (w:World) (x i:Value) (wr:World):Prop:=
 ∃(k:Nat) (t:ak),k<=l.length+1/\x=.string t/\i=.int .i64 k/\fe l (l.length+1-k) t=fe l (l.length+1) s/\Below w.heap.size w wr
def oA (l:List Nm) (s:ak) (w:World) (e:Ending) (w':World):Prop:=
 e=.returned (.tuple #[.string (fe l (l.length+1) s).1,.int .i64 (fe l (l.length+1) s).2.1,cz 70 (fe l (l.length+1) s).2.2])/\Below w.heap.size w w'
theorem oA.mk{l:List Nm}{s:ak}{w w':World}{r:ak×Int×Int}(h:r=fe l (l.length+1) s)(hb:Below w.heap.size w w'){v:Value}(hv:v=cz 70 r.2.2):
 oA l s w (.returned (.tuple #[.string r.1,.int .i64 r.2.1,v])) w':=by
 subst hv;rw[h];exact⟨rfl,hb⟩
theorem CH(b off:Nat)(c:Array Value)(T:TypeId)(v:Value)(l:List Nm)(s:ak)(w w0:World)(L:List HP)(h:St w0 (bD b (.cells c T (0,0))::ie 75 3 v l.length (bY l)::L) w)(hc:c[off]? =some v)(hm:∀s,B3 l s)(hl:l.length<1000000):
 Calls prog 144 #[.pointer (some ⟨b,off,none⟩),.string s] w (oA l s w):=by
 have hv:∃sa cap,v=.slice sa l.length cap/\(0<l.length->∃g,sa=some ⟨g,0,none⟩):=by
  rcases h.drop.cr with⟨hv,hz,_⟩|⟨g,cap,_,hv,_⟩
  ·exact⟨none,0,by rw[hv,hz],fun h=>by omega⟩
  ·exact⟨_,_,hv,fun _=>⟨g,rfl⟩⟩
 obtain⟨sa,cap,rfl,Jz⟩:=hv;have HF:=Lib.hid (fun(w:World) (t:ak) (h:St w0 (bD b (.cells c T (0,0))::ie 75 3 (.slice sa l.length cap) l.length (bY l)::L) w)=>nr b off c T (0,0) _ l t w w0 L h hc hl (hm t));have HS:=Lib.hid h;have Ks:=Lib.hid hc;have HSA:=Lib.hid Jz;have c0:w.cell? ⟨b,off,none⟩=some (.slice sa l.length cap):=h.cell hc;clear h hm hc Jz;obtain⟨n,hN⟩:∃n,l.length=n:=⟨_,rfl⟩;rw[hN]at c0 hl;have HN:=Lib.hid hN;clear hN
 go_enter func144,ntmps144
 go_wp2_with fail
 clear c0
 go_loopw [1,16] (fun x i wr=>WN l s w x i wr) (fun _ i _=>(n+1-(intOf i).toNat))
 case atStart=>exact⟨0,s,by omega,rfl,rfl,rfl,Below.refl _ _⟩
 case round=>
  obtain⟨k,t,hk,rfl,rfl,hr,JL⟩:=hrel;rw[HN.out]at hk;have HR:=Lib.hid hr;have HB:=Lib.hid JL;have zg:=Lib.hid (HS.out.aA JL);clear hr JL;by_cases dI:k<n+1
  ·obtain⟨m,hm⟩:∃m,n+1-k=m+1:=⟨n-k,by omega⟩;have HM:=Lib.hid (show l.length+1-k=m+1 by rw[HN.out];exact hm);have HM2:=Lib.hid (show l.length+1-(k+1)=m by rw[HN.out];omega);clear hm;cases hit:eW l t (bF l t)with
   |false=>
    have HI:=Lib.hid hit;have HE:=Lib.hid (show(⟨#[]⟩,0,7)=fe l (l.length+1) s by rw[<-HR.out,HM.out,fe,zK hit]);clear hit
    go_wp2_with fail
    refine(HF.out _ _ zg.out).mono ?_;rintro e w2 ⟨k',Na,rfl,jy⟩;have yQ:=Lib.hid (HB.out.trans (jy.mono HB.out.size));rw[jZ Na,HI.out];clear jy Na
    go_wp2_with fail
    go_ret3
    exact oA.mk HE.out yQ.out rfl
   |true=>
    have Bc:=tH hit;obtain⟨g,rfl⟩:=HSA.out ae;have HI:=Lib.hid hit;have HL:=Lib.hid (zJ hit);have HLT:=Lib.hid Bc;have aiv:bF l t<n:=by rw[<-HN.out];exact Bc
    clear hit Bc;cases he:ik (dU l (bF l t)).iQ with
    |true=>
     have HE:=Lib.hid (show(t,-1,0)=fe l (l.length+1) s by rw[<-HR.out,HM.out,fe,HL.out];simp only[he,if_true]);have OO:(dU l (bF l t)).iQ.toList.isEmpty=true:=he;have iM:(dU l (bF l t)).iQ.toList=[]:=by simpa[ik]using he
     clear he;generalize hK:bF l t=k0 at *;have HK:=Lib.hid hK;clear hK
     go_wp2_with fail
     refine(HF.out _ _ zg.out).mono ?_;rintro e w2 ⟨k',Na,rfl,jy⟩;have yQ:=Lib.hid (HB.out.trans (jy.mono HB.out.size));have vJ:=Lib.hid (zg.out.aA jy);rw[jZ Na,HK.out,HI.out];clear jy Na;have c1:w2.cell? ⟨b,off,none⟩=some (.slice (some ⟨g,0,none⟩) n cap):=by rw[<-HN.out];exact vJ.out.cell Ks.out
     obtain⟨d0,d1,d2⟩:=lJ vJ.out.drop HLT.out
     go_wp2_with fail
     go_ret3
     exact oA.mk HE.out (yQ.out.alloc yQ.out.size _) rfl
    |false=>
     have OO:(dU l (bF l t)).iQ.toList.isEmpty=false:=he;have iM:((dU l (bF l t)).iQ.toList==[])=false:=by simpa[ik]using he
     by_cases hh:0<=(dU l (bF l t)).b9
     ·have HE:=Lib.hid (show((dU l (bF l t)).iQ,(dU l (bF l t)).b9,0)=fe l (l.length+1) s by rw[<-HR.out,HM.out,fe,HL.out];simp only[he,hh,if_true,Bool.false_eq_true,if_false]);have hd:decide (0<=(dU l (bF l t)).b9)=true:=by simpa using hh
      clear he hh;generalize hK:bF l t=k0 at *;have HK:=Lib.hid hK;clear hK
      go_wp2_with fail
      refine(HF.out _ _ zg.out).mono ?_;rintro e w2 ⟨k',Na,rfl,jy⟩;have yQ:=Lib.hid (HB.out.trans (jy.mono HB.out.size));have vJ:=Lib.hid (zg.out.aA jy);rw[jZ Na,HK.out,HI.out];clear jy Na;have c1:w2.cell? ⟨b,off,none⟩=some (.slice (some ⟨g,0,none⟩) n cap):=by rw[<-HN.out];exact vJ.out.cell Ks.out
      obtain⟨d0,d1,d2⟩:=lJ vJ.out.drop HLT.out
      go_wp2_with fail
      refine eA [.pure,.read,.pure,.read,.pure,.pure,.pure] [0,1,2,3,4,5,6] bm bm ?_;simp only[aT,List.map_nil,item,List.getD_cons_zero,List.getD_cons_succ]
      repeat((with_reducible refine fy (v:=?_) (a':=?_) ?_ ?_ ?_ ?_);rotate_left 2;(rfl);((intro w';go_simp;(try(go_bits;(try go_simp);(try(go_bits;(try go_simp)))));((skip)))<;>rfl);(go_simp;rfl))
      refine vO (a':=?_) (v:=.string (dU l k0).iQ) (ad:=⟨w2.heap.size,1,none⟩) rfl rfl (fun _=>by simp) aj ?_ ?_
      rotate_left 1
      ·go_simp;rfl
      repeat((with_reducible refine fy (v:=?_) (a':=?_) ?_ ?_ ?_ ?_);rotate_left 2;(rfl);((intro w';go_simp;(try(go_bits;(try go_simp);(try(go_bits;(try go_simp)))));((skip)))<;>rfl);(go_simp;rfl))
      refine vO (a':=?_) (v:=.int .i64 (dU l k0).b9) (ad:=⟨w2.heap.size,2,none⟩) rfl rfl (fun _=>by simp) aj ?_ ?_
      rotate_left 1
      ·go_simp;rfl
      repeat((with_reducible refine fy (v:=?_) (a':=?_) ?_ ?_ ?_ ?_);rotate_left 2;(rfl);((intro w';go_simp;(try(go_bits;(try go_simp);(try(go_bits;(try go_simp)))));((skip)))<;>rfl);(go_simp;rfl))
      refine nP ?_
      go_wp2_with fail
      go_ret3
      exact oA.mk HE.out (yQ.out.alloc yQ.out.size _).drew rfl
     ·have HE:=Lib.hid (show fe l m (dU l (bF l t)).iQ=fe l (l.length+1) s by rw[<-HR.out,HM.out,fe,HL.out];simp only[he,hh,Bool.false_eq_true,if_false]);have hd:decide (0<=(dU l (bF l t)).b9)=false:=by simpa using hh
      clear he hh;generalize hK:bF l t=k0 at *;have HK:=Lib.hid hK;clear hK
      go_wp2_with fail
      refine(HF.out _ _ zg.out).mono ?_;rintro e w2 ⟨k',Na,rfl,jy⟩;have yQ:=Lib.hid (HB.out.trans (jy.mono HB.out.size));have vJ:=Lib.hid (zg.out.aA jy);rw[jZ Na,HK.out,HI.out];clear jy Na;have c1:w2.cell? ⟨b,off,none⟩=some (.slice (some ⟨g,0,none⟩) n cap):=by rw[<-HN.out];exact vJ.out.cell Ks.out
      obtain⟨d0,d1,d2⟩:=lJ vJ.out.drop HLT.out
      go_wp2_with fail
      go_roundw
      case rel=>exact⟨k+1,(dU l k0).iQ,by rw[HN.out];omega,rfl,by go_num,by rw[HM2.out];exact HE.out,yQ.out.alloc yQ.out.size _⟩
      case measure=>simp[intOf];omega
  ·obtain rfl:k=n+1:=by omega
   have HE:=Lib.hid (show(⟨#[]⟩,0,11)=fe l (l.length+1) s by rw[<-HR.out,HN.out,Nat.sub_self];rfl)
   go_wp2_with fail
   go_ret3
   exact oA.mk HE.out HB.out rfl
abbrev jg (v:Value) (l:List Nm):HP:=SL 75 3 Nm.cells v l
theorem AY:(prog.info? 75).map (fun i=>(i.zero,i.size,i.bytes))=some (some (Value.agg #[.string ⟨#[]⟩,.string ⟨#[]⟩,.int .i64 0]),3,40):=by kernel_rfl
theorem Mk(x:Nm):x.cells.all Value.oneCell'=true:=rfl
section
variable (w0:World) (L R R2:List HP) (b off:Nat) (cs:List Value) (T:TypeId) (v:Value) (l:List Nm) (s:ak) (x:Nm)
theorem Vr(hp:bC L (bD b (.cells cs.toArray T (0,0))) R)(hq:bC R (jg v l) R2)(hc:cs[off]? =some v)(hl:l.length<1000000)(hs:du l):
 KE prog 148 #[.pointer (some ⟨b,off,none⟩),.string s] w0 L (fun u M=>u=.tuple #[.int .i64 (bF l s:Nat),.bool (eW l s (bF l s))]/\M=L):=fun w hw=>
 (nr b off cs.toArray T (0,0) v l s w w0 R2 (hw.gu hp hq) (by simpa using hc) hl (hs.mono s)).mono fun e w' ⟨k,hk,he,hb⟩=>by
  obtain rfl:=jZ hk;exact⟨_,_,he,⟨rfl,rfl⟩,hw.aA hb,hb⟩
theorem sg(hp:bC L (bD b (.cells cs.toArray T (0,0))) R)(hq:bC R (jg v l) R2)(hc:cs[off]? =some v)(hl:l.length<1000000)(hs:du l):
 KE prog 57 #[.pointer (some ⟨b,off,none⟩),.string s] w0 L (fun u M=>u=.bool (dO l s)/\M=L):=fun w hw=>
 (Jk b off cs.toArray T v l s w w0 R2 (hw.gu hp hq) (by simpa using hc) (hs.mono s) hl).mono fun e w' ⟨he,hb⟩=>⟨_,_,he,⟨rfl,rfl⟩,hw.aA hb,hb⟩
theorem I6(hp:bC L (bD b (.cells cs.toArray T (0,0))) R)(hq:bC R (jg v l) R2)(hc:cs[off]? =some v)(hl:l.length<1000000)(hs:du l):
 KE prog 144 #[.pointer (some ⟨b,off,none⟩),.string s] w0 L (fun u M=>u=.tuple #[.string (fe l (l.length+1) s).1,.int .i64 (fe l (l.length+1) s).2.1,cz 70 (fe l (l.length+1) s).2.2]/\M=L):=fun w hw=>
 (CH b off cs.toArray T v l s w w0 R2 (hw.gu hp hq) (by simpa using hc) hs.mono hl).mono fun e w' ⟨he,hb⟩=>⟨_,_,he,⟨rfl,rfl⟩,hw.aA hb,hb⟩
theorem FI(hp:bC L (bD b (.cells cs.toArray T (0,0))) R)(hq:bC R (jg v l) R2)(hc:cs[off]? =some v)(h1:x.name.size<=maxLen)(h2:x.iQ.size<=maxLen)(hl:l.length<=20)(hs:du l):
 KC prog 170 #[.pointer (some ⟨b,off,none⟩),.agg x.cells.toArray] w0 L (fun u M=>u=cz 70 (cu l x)/\∃v',M=bD b (.cells (cs.set off v').toArray T (0,0))::jg v' (d_ l x)::R2):=fun w hw=>
 (Pk b off cs.toArray T v l x w w0 R2 (hw.gu hp hq) (by simpa using hc) h1 h2 (hs.mono _) hl).mono fun e w' ⟨he,v',aY⟩=>⟨_,_,he,⟨rfl,v',rfl⟩,by
  rw[List.setIfInBounds_toArray]at aY;exact aY⟩
end
theorem PL(w0:World)(L:List HP)(v:Value)(xs:List Nm)(k:Nat)(hk:k<xs.length)(hn:xs.length<1000000):
 KC prog 338 #[v,.int .i64 (k:Nat),.int .i64 ((k:Int)+1)] w0 (jg v xs::L) (fun v' L'=>L'=jg v' (xs.eraseIdx k)::L):=by
 refine KC.pre (fun w hw=>p_ hw hk) ?_;rintro⟨g,cap,rfl⟩;refine KC.pre (fun w hw=>(g_ hw).2.1) fun tF=>?_
 refine KC.mk (n:=33) func338 rfl ntmps338 aj ?_;refine iG ?_;refine zf ?_;refine Kj ?_;refine KO.GF (lo:=k) (hi:=k+1) (mx:=xs.length) rfl rfl rfl rfl underlying86 sizeOf75 rfl ae rfl ae ae ae rfl (fun q13=>?_);refine Z0 ?_;refine iw ?_;refine sI ?_;refine BE ?_;refine mG ?_;refine Kj ?_;refine Wt ?_;refine jh ?_;refine KO.Ap rfl rfl underlying86 sizeOf75 aL ae rfl ?_;refine jh ?_;refine KO.cutFrom (lo:=k+1) rfl rfl underlying86 sizeOf75 ae ae ae rfl ?_;refine KO.move (j:=k+1) rfl rfl rfl bC.head rfl tF underlying86 AY (fun _=>rfl) Mk ae ae rfl ?_;refine kQ ?_;refine Z1 ?_;refine Kj ?_;refine Z1 ?_;refine KO.GD (lo:=k+(xs.length-(k+1))) (hi:=xs.length) rfl rfl rfl underlying86 sizeOf75 rfl rfl ae ae rfl ?_;refine KO.clear rfl rfl bC.head tF fV fV underlying86 AY (fun _=>rfl) rfl rfl ?_;refine oy ?_;refine fK ?_;refine KQ.a_ rfl rfl (fun w' hs=>⟨_,_,rfl,rfl,?_⟩);have e:(List.take (k+(xs.length-(k+1))) (List.take k xs++List.drop (k+1) xs++List.drop (k+(xs.length-(k+1))) xs))=xs.eraseIdx k:=by
  rw[List.take_append_of_le_length fV,List.take_of_length_le fV,List.eraseIdx_eq_take_drop_succ]
 rw[e]at hs;exact hs
theorem PN(w0:World)(L R R2:List HP)(b off:Nat)(cs:List Value)(T:TypeId)(v:Value)(l:List Nm)(s:ak)(hp:bC L (bD b (.cells cs.toArray T (0,0))) R)(hq:bC R (jg v l) R2)(hc:cs[off]? =some v)(hl:l.length<1000000)(hs:du l):
 KC prog 237 #[.pointer (some ⟨b,off,none⟩),.string s] w0 L (fun u M=>u=cz 70 (mg l s)/\∃v',M=bD b (.cells (cs.set off v').toArray T (0,0))::jg v' (jC l s)::R2):=by
 refine KC.perm (L':=bD b (.cells cs.toArray T (0,0))::jg v l::R2) (fun w hw=>hw.gu hp hq) ?_;have F6:=(au.1 hc).1;refine KC.mk (n:=27) func237 rfl ntmps237 aj ?_;refine BI ?_;refine KO.ce (cp:=[]) rfl rfl rfl call148 rfl (Vr w0 _ _ _ b off cs T v l s .head .head hc hl hs) ?_;rintro v' L' ⟨rfl,rfl⟩;refine jY ?_;refine oY ?_;refine Z5 ?_;cases hh:eW l s (bF l s)with
 |false=>
  have e1:mg l s=7:=by unfold mg;rw[hh];rfl
  have e2:jC l s=l:=by unfold jC;rw[hh];rfl
  refine sH ?_;refine qk ?_;refine KQ.a_ rfl rfl (fun w' hs=>⟨_,_,rfl,⟨?_,v,rfl⟩,?_⟩)
  ·rw[e1];rfl
  ·rw[e2,List.gH hc];exact hs
 |true=>
  have e1:mg l s=0:=by unfold mg;rw[hh];rfl
  have e2:jC l s=l.eraseIdx (bF l s):=by unfold jC;rw[hh];rfl
  have hk:=tH hh;refine uj ?_;refine Z6 ?_;refine vC ?_;refine V_ ?_;refine KO.di (i:=off) rfl rfl isAgg86 .head rfl hc rfl ?_;refine jh ?_;refine uS ?_;refine KO.cl (cp:=[]) rfl rfl rfl call338 rfl (KC.qR (.tail .head) (PL w0 _ v l (bF l s) hk hl)) ?_;rintro v' L' rfl;refine KO.fact (fun _ hs=>aN hs) ?_;rintro⟨a',c',rfl,-⟩;refine lb ?_;refine V_ ?_;refine KO.iA (i:=off) rfl rfl rfl aL (by exact sizeOf86) rfl (.tail .head) rfl F6 ?_;refine jf ?_;refine KQ.a_ rfl rfl (fun w' hs=>⟨_,_,rfl,⟨?_,.slice a' (l.eraseIdx (bF l s)).length c',rfl⟩,?_⟩)
  ·rw[e1];rfl
  ·rw[e2];exact hs
theorem Je(w0:World)(L:List HP)(v:Value)(xs:List Nm)(hs:∀w,St w0 L w->Src w Nm.cells v xs)(hn:xs.length<1000000):
 KE prog 266 #[v] w0 L (fun u M=>M=jg u xs::L):=by
 refine KE.mk (n:=8) func266 rfl ntmps266 aj ?_;intro w hw;obtain⟨a,cap,rfl,hn0,hc⟩:=hs w hw;refine y6 ?_;cases a with
 |none=>
  obtain rfl:=hn0 rfl;refine Z7 ?_;refine KO.aaf rfl underlying86 rfl ?_;refine BD ?_;refine vH ?_;refine KQ.a_ rfl rfl (fun w' hs=>⟨_,_,rfl,rfl,cL (hw.aA hs.below),hs.below⟩)
 |some ad=>
  refine Z7 ?_;refine KO.aaf rfl underlying86 rfl ?_;refine BB ?_;refine oR ?_;refine KO.bs0 Nm.cells rfl underlying86 sizeOf75 rfl ?_;intro b5;refine Z1 ?_;refine KO.Ro (z:=Value.agg #[.string ⟨#[]⟩,.string ⟨#[]⟩,.int .i64 0]) (sz:=3) (cV:=40) (ys:=xs) rfl rfl rfl .head (fun w' hs=>Src.ext ⟨some ad,cap,rfl,hn0,hc⟩ (Ext.bB hs.below)) underlying86 AY rfl (fun _=>rfl) Mk fV ai rfl ?_;intro v';refine fK ?_;refine KQ.a_ rfl rfl (fun w' hs=>⟨_,_,rfl,rfl,?_,hs.below⟩);rw[List.nil_append]at hs;exact hw.stack (M:=[jg v' xs]) hs
theorem FK(w0:World)(L R R2:List HP)(b off:Nat)(cs:List Value)(T:TypeId)(v:Value)(l:List Nm)(hp:bC L (bD b (.cells cs.toArray T (0,0))) R)(hq:bC R (jg v l) R2)(hc:cs[off]? =some v)(hl:l.length<1000000):
 KE prog 169 #[.pointer (some ⟨b,off,none⟩)] w0 L (fun u M=>M=jg u l::L):=by
 refine KE.mk (n:=8) func169 rfl ntmps169 aj ?_;intro w hw;have iD:w.cell? ⟨b,off,none⟩=some v:=by rw[World.cell?,(hw.lK hp).2];simpa using hc
 have UD:=Src.of hq w (hw.pick hp).drop;refine iG ?_;refine lb ?_;refine V_ ?_;refine KO.pb rfl rfl isAgg86 iD rfl ?_;refine KO.ce (cp:=[]) rfl rfl rfl call266 rfl (Je w _ v l (fun w' hs=>UD.ext (Ext.bB hs.below)) hl) ?_;rintro v' L' rfl;refine fK ?_;refine KQ.a_ rfl rfl (fun w' hs=>⟨_,_,rfl,rfl,hw.stack (M:=[jg _ l]) hs,hs.below⟩)
end Go.Proofs.YtjhogocabcdjbabGreatDoor
namespace WB
open Go Go.RowKit
theorem iK{c:UInt8}{a:ak}(ha:n_ c a)(r:ak):cH c (a++bV c++r)=a::cH c r:=by
 unfold cH bV;rw[show(a++⟨#[c]⟩++r).data.toList=a.data.toList++c::r.data.toList by simp,n5 _ ha];rfl
theorem km{c:UInt8}{a:ak}(ha:n_ c a):cH c a=[a]:=by
 unfold cH;rw[l7 ha];rfl
theorem PB{c:UInt8}{s p:ak}(h:p∈cH c s):n_ c p:=by
 unfold cH at h;obtain⟨q,hq,rfl⟩:=aD.1 h;exact fun b hb=>n4 c _ q hq b (by rw[D7]at hb;exact hb)
theorem fE{c:UInt8}(n:Int)(h:c.toNat≠45/\(c.toNat<48\/57<c.toNat)):n_ c (bH n):=fun b hb e=>by
 subst e;have :=xC b hb;omega
theorem pA(n:Int):n_ 124 (bH n):=fE n ai
theorem wW(k:Int)(s:ak):dQ k s=bH k++bV 124++(s++bV 124++bH (uW (jl k s))):=by
 unfold dQ;rw[show jl k s=bH k++bV 124++s from rfl];simp only[ByteArray.append_assoc]
theorem qX{k:Int}{s:ak}(h:n_ 124 s):gx k (dQ k s)=some s:=by
 unfold gx;have :cH 124 (dQ k s)=[bH k,s,bH (uW (jl k s))]:=by
  rw[wW,iK (pA k),iK h,km (pA _)]
 rw[this];simp
theorem FG{k:Int}{t w:ak}(h:gx k t=some w):dQ k w=t/\n_ 124 w:=by
 unfold gx at h;split at h
 ·rename_i a b c e;split at h
  ·rename_i e2;simp only[ay]at h;subst h;exact⟨e2,PB (s:=t) (by rw[e];simp)⟩
  ·cases h
 ·cases h
theorem xk{k:Int}{s:ak}{i:Nat}(h:n_ 124 s)(hi:i<(dQ k s).size):gx k ((dQ k s).extract 0 i)=none:=by
 cases ho:gx k ((dQ k s).extract 0 i)with
 |none=>rfl
 |some w=>
  obtain⟨h1,h2⟩:=FG ho;have e1:dQ k s=dQ k w++(dQ k s).extract i (dQ k s).size:=by
   rw[h1];generalize dQ k s=u at hi;rw[ByteArray.extract_append_extract,Nat.min_eq_left (aR _),Nat.max_eq_right ae,ByteArray.extract_zero_size]
  have p1:cH 124 (dQ k s)=[bH k,s,bH (uW (jl k s))]:=by
   rw[wW,iK (pA k),iK h,km (pA _)]
  have p2:∃r,cH 124 (dQ k s)=bH k::w::r:=by
   rw[e1,wW k w];rw[show bH k++bV 124++(w++bV 124++bH (uW (jl k w)))++(dQ k s).extract i (dQ k s).size=bH k++bV 124++(w++bV 124++(bH (uW (jl k w))++(dQ k s).extract i (dQ k s).size))by simp only[ByteArray.append_assoc]];exact⟨_,by rw[iK (pA k),iK h2]⟩
  obtain⟨r,p2⟩:=p2;rw[p1]at p2;simp only[List.cons.injEq,true_and]at p2;have hw:w=s:=p2.1.symm;subst hw;have :=congrArg ByteArray.size h1;simp at this;omega
theorem Jc(k:Int):gx k ⟨#[]⟩=none:=by
 unfold gx;rw[show cH 124 ⟨#[]⟩=[⟨#[]⟩]from km (fun b hb=>by simp at hb)]
theorem qN(k:Int)(s:ak):0<(dQ k s).size:=by
 have h1:(bV 124).size=1:=rfl;unfold dQ;simp only[aB];omega
theorem rX{k:Int}{s:ak}(hk:jG k)(hs:s.size<=700000):(dQ k s).size<=700100:=by
 have h1:(bV 124).size=1:=rfl;have h2:=wM (jl k s);have h3:=bJ (n:=uW (jl k s)) ⟨by omega,by omega⟩;have h4:=bJ hk;have h5:(jl k s).size<=700022:=by unfold jl;simp only[aB];omega
 unfold dQ;simp only[aB];omega
theorem Di{c:UInt8}(r:List UInt8):∀{l:List UInt8},(∀b∈l,b≠c)->Lib.indexByte (l++c::r) c=(l.length:Nat)
 |[],_=>by simp[Lib.indexByte]
 |b::l,h=>by
  rw[bn];unfold Lib.indexByte;rw[Di r fun x hx=>h x sR];simp[h b aj]
theorem cutB_hit{c:UInt8}{a:ak}(ha:n_ c a)(r:ak):cQ c (a++bV c++r)=(a,r,true):=by
 have e:Lib.cut (a++bV c++r).data.toList [c]=(a.data.toList,r.data.toList,true):=by
  unfold Lib.cut bV;rw[Lib.index_one,show(a++⟨#[c]⟩++r).data.toList=a.data.toList++c::r.data.toList by simp,Di _ ha,if_pos ae];rw[aM,List.take_left,List.length_singleton,<-List.drop_drop,List.drop_left];rfl
 unfold cQ;rw[e];rfl
def ck {α β:Type} (f:α->β->HP) (ps:List α) (xs:List β):HP:=gj (List.zipWith f ps xs)
section
variable {α β:Type} {f:α->β->HP} {w0 w:World} {L:List HP} {ps:List α} {xs:List β} {p:α} {x:β} {i:Nat}
theorem r6{A:HP}:∀(l r:List HP),bC (l++A::r) A (l++r)
 |[],_=>.head
 |_::l,r=>.tail (r6 l r)
theorem DZ(h:St w0 (ck f ps xs::L) w):St w0 (List.zipWith f ps xs++L) w:=h.splits
theorem xV(h:St w0 (List.zipWith f ps xs++L) w):St w0 (ck f ps xs::L) w:=h.zO
theorem zh(hp:ps[i]? =some p)(hx:xs[i]? =some x):List.zipWith f ps xs=List.zipWith f (ps.take i) (xs.take i)++f p x::List.zipWith f (ps.drop (i+1)) (xs.drop (i+1)):=by
 obtain⟨h1,rfl⟩:=au.1 hp;obtain⟨h2,rfl⟩:=au.1 hx;have e1:ps=ps.take i++ps[i]::ps.drop (i+1):=by rw[<-List.drop_eq_getElem_cons h1,List.take_append_drop]
 have e2:xs=xs.take i++xs[i]::xs.drop (i+1):=by rw[<-List.drop_eq_getElem_cons h2,List.take_append_drop]
 conv=>lhs;rw[e1,e2]
 rw[List.zipWith_append fV];rfl
theorem zi(hp:i<ps.length)(hx:i<xs.length):List.zipWith f (ps.eraseIdx i) (xs.eraseIdx i)=List.zipWith f (ps.take i) (xs.take i)++List.zipWith f (ps.drop (i+1)) (xs.drop (i+1)):=by
 rw[List.eraseIdx_eq_take_drop_succ,List.eraseIdx_eq_take_drop_succ,List.zipWith_append fV]
theorem ew(hp:ps[i]? =some p)(hx:xs[i]? =some x)(h:St w0 (ck f ps xs::L) w):St w0 (f p x::ck f (ps.eraseIdx i) (xs.eraseIdx i)::L) w:=by
 have h1:=DZ h;rw[zh hp hx,aK,bn]at h1;have h2:=h1.pick (r6 _ _);rw[<-aK,<-zi (au.1 hp).1 (au.1 hx).1]at h2;exact h2.jw fun _ hh=>fY (fun _ h=>h) (fun _ h=>dD.1 h) hh
theorem po(hp:i<ps.length)(hx:i<xs.length)(h:St w0 (f p x::ck f (ps.eraseIdx i) (xs.eraseIdx i)::L) w):St w0 (ck f (ps.set i p) (xs.set i x)::L) w:=by
 have h1:St w0 (f p x::(List.zipWith f (ps.eraseIdx i) (xs.eraseIdx i)++L)) w:=h.jw fun _ hh=>fY (fun _ h=>h) (fun _ h=>dD.2 h) hh
 refine xV ?_;rw[zh (p:=p) (x:=x) (i:=i) (by rw[List.getElem?_set_self hp]) (by rw[List.getElem?_set_self hx]),aK,bn];refine St.sY ?_ (r6 _ _);rw[<-aK];rw[zi hp hx]at h1;simpa[List.take_set_of_le,List.drop_set_of_lt]using h1
theorem wj(hp:ps[i]? =some p)(hx:i<xs.length)(h:St w0 (f p x::ck f (ps.eraseIdx i) (xs.eraseIdx i)::L) w):St w0 (ck f ps (xs.set i x)::L) w:=by
 have h1:=po (au.1 hp).1 hx h;have e:ps.set i p=ps:=by obtain⟨h2,rfl⟩:=au.1 hp;exact List.set_getElem_self h2
 rwa [e]at h1
theorem kz(hp:ps[i]? =some p)(hx:xs[i]? =some x)(h:St w0 (f p x::ck f (ps.eraseIdx i) (xs.eraseIdx i)::L) w):St w0 (ck f ps xs::L) w:=by
 have h1:=wj hp (au.1 hx).1 h;have e:xs.set i x=xs:=by obtain⟨h2,rfl⟩:=au.1 hx;exact List.set_getElem_self h2
 rwa [e]at h1
theorem xU(hl:ps.length=xs.length)(h:St w0 (f p x::ck f ps xs::L) w):St w0 (ck f (ps++[p]) (xs++[x])::L) w:=by
 have h1:St w0 (f p x::(List.zipWith f ps xs++L)) w:=h.jw fun _ hh=>fY (fun _ h=>h) (fun _ h=>dD.2 h) hh
 refine xV ?_;rw[List.zipWith_append hl,aK];exact St.sY h1 (r6 _ _)
theorem QN(h:St w0 L w):St w0 (ck f [] []::L) w:=h.aah
end
structure rL where
 aU:List (Ms×Int)
 bj:List (Int×ak)
instance:Inhabited rL:=⟨⟨[],[]⟩⟩
structure Ho where
 id:Int
 used:Nat
 down:Bool
 c6:Int
 next:Int
 names:List Nm
 aE:List (ak×Qu)
 ways:List Qu
 az:List rL
 batch:List (List Int)
 bU:List Int
 aF:List Int
namespace Ho
abbrev all (H:Ho):List Qu:=H.ways++H.aE.map (·.2)
def qI (H:Ho) (s:ak):Option Nat:=H.aE.findIdx? fun x=>decide (x.1=s)
def dX (H:Ho) (i:Nat):Qu:=(H.aE.getD i (⟨#[]⟩,default)).2
def ft (H:Ho) (i:Nat) (q:Qu):Ho:={H with aE:=H.aE.set i ((H.aE.getD i (⟨#[]⟩,default)).1,q)}
def hF (H:Ho) (j:Nat):Qu:=H.ways.getD j default
def iS (H:Ho) (j:Nat) (q:Qu):Ho:={H with ways:=H.ways.set j q}
def iJ (H:Ho) (u:Nat):rL:=H.az.getD u default
end Ho
structure HoX (n:Nat) (b:List (List Int)) (s a:List Int):Prop where
 Te:∀l∈b,l.length<=100000
 W3:∀x∈s,0<=x/\x<=(n:Int)
 arr:∀x∈a,0<=x/\x<=(n:Int)
theorem HoX.le{n k:Nat}{b:List (List Int)}{s a:List Int}(h:HoX n b s a)(hk:n<=k):HoX k b s a:=⟨h.Te,fun x hx=>by have :=h.W3 x hx;omega,fun x hx=>by have :=h.arr x hx;omega⟩
structure cE (n:Nat) (H:Ho):Prop where
 id:0<=H.id/\H.id<4
 used:H.used<=300
 next:0<=H.next/\H.next<=274877906945
 sorted:du H.names
 kr:H.names.length<=20
 mV:H.aE.length<=n
 qs:∀q∈H.all,QB n q
 nodup:(H.aE.map (·.1)).Nodup
 ways:H.ways.length=4
 az:H.az.length=5
 batch:H.batch.length=4
 bU:H.bU.length=4
 aF:H.aF.length=4
 right:∀x∈H.names,bW x=true
 loc:∀x∈H.names,x.iQ=⟨#[]⟩->∃i,H.qI x.name=some i
 ext:HoX n H.batch H.bU H.aF
def jJ (H:Ho):Int:=if H.down=true then 6 else if 300<=H.used then 4 else 0
def ep (H:Ho) (D:Dk):Int:=if jJ H≠0 then jJ H else nu D
def dY (H:Ho) (D:Dk):Ho:=if jJ H≠0 then H else if nu D≠0 then {H with down:=true}else {H with used:=H.used+1}
def ig (H:Ho) (D:Dk) (s:ak):Dk:=if jJ H≠0 then D else fx D H.used (dQ H.used s) H.c6
def eP (H:Ho) (x:Nm):Ho:=
 if cu H.names x=0 then {H with names:=d_ H.names x,aE:=if x.iQ=⟨#[]⟩/\H.qI x.name=none then H.aE++[(x.name,⟨[],0⟩)]else H.aE}else H
def Dq (H:Ho) (x:Nm):Int:=cu H.names x
def nn (H:Ho) (s:ak):Ho:={H with names:=jC H.names s}
def tJ (H:Ho) (s:ak):Int:=mg H.names s
def fO (H:Ho) (m:Ms):Option Ho:=
 let H1:={H with next:=max H.next (m.id/4+1)}
 if m.b9≠H.id then some (H1.iS m.b9.toNat (dS (H.hF m.b9.toNat) m (-1)))else match H.qI m.queue with
  |none=>none
  |some i=>some (H1.ft i (dS (H.dX i) m (-1)))
def fG:Ho->List Ms->Ho×Bool
 |H,[]=>(H,true)
 |H,m::r=>match fO H m with
  |some H1=>fG H1 r
  |none=>({H with next:=max H.next (m.id/4+1)},false)
def gQ (H:Ho) (s:ak):Option Ho:=match dM (cQ 32 s).1 with
 |none=>none
 |some n=>match H.qI (cQ 32 s).2.1 with
  |none=>none
  |some i=>if lF (H.dX i) n=0 then some (H.ft i (fm (H.dX i) n))else none
def gP:Ho->List ak->Ho×Bool
 |H,[]=>(H,true)
 |H,s::r=>match gQ H s with
  |some H1=>gP H1 r
  |none=>(H,false)
def fq (H:Ho) (s:ak):Ho×Bool:=
 if(cQ 47 s).2.2=false then(H,false)else match qZ (cQ 47 s).1 with
 |none=>(H,false)
 |some l=>
  if(fG H l).2=false then(fG H l).1|>fun H1=>(H1,false)else
  if(cQ 47 s).2.1=⟨#[]⟩then((fG H l).1,true)else gP (fG H l).1 (cH 43 (cQ 47 s).2.1)
def dash (s:ak):ak:=toB (Lib.trimPrefix s.data.toList [45])
def rb (s:ak):Option Nm:=match cH 32 s with
 |[a,b,c]=>(dM c).map fun k=>⟨a,dash b,k⟩
 |_=>none
def oF (s:ak):Option (List Int):=(cH 32 s).mapM dM
def bQ (H:Ho) (k:Int):Bool:=decide (0<=k/\k<4/\k≠H.id)
def bR (H:Ho) (j:Nat):List Int:=H.batch.getD j []
def da (H:Ho) (j:Nat):Int:=H.bU.getD j 0
def cT (H:Ho) (j:Nat):Int:=H.aF.getD j 0
def gO (H:Ho) (s:ak):Ho×Bool:=match oF s with
 |some (k::a::r)=>if bQ H k=true then({H with batch:=H.batch.set k.toNat (a::r),bU:=H.bU.set k.toNat (da H k.toNat+1)},true)else(H,false)
 |_=>(H,false)
def dA (q:Qu) (l:List Int):Qu:=l.foldl fm q
def eQ (H:Ho) (s:ak):Ho×Bool:=match oF s with
 |some [k]=>if bQ H k=true then({H.iS k.toNat (dA (H.hF k.toNat) (bR H k.toNat))with batch:=H.batch.set k.toNat []},true)else(H,false)
 |_=>(H,false)
def dP:Ho->List (Ms×ak)->Ho×Bool
 |H,[]=>(H,true)
 |H,(m,t)::r=>match H.qI t with
  |none=>(H,false)
  |some i=>dP (H.ft i (dS (H.dX i) m (-1))) r
def gR (H:Ho) (s:ak):Ho×Bool:=match cH 47 s with
 |[a,b,c]=>match dM a,qZ b with
  |some k,some l=>if bQ H k=true then
   (if(dP H (l.zip (cH 43 c))).2=true then({(dP H (l.zip (cH 43 c))).1 with aF:=H.aF.set k.toNat (cT H k.toNat+1)},true)else((dP H (l.zip (cH 43 c))).1,false))
   else(H,false)
  |_,_=>(H,false)
 |_=>(H,false)
def bO (H:Ho) (s:ak):Ho×Bool:=
 if(cQ 58 s).1=bV 110 then match rb (cQ 58 s).2.1 with
  |none=>(H,false)
  |some x=>(eP H x,decide (Dq H x=0))
 else if(cQ 58 s).1=bV 100 then(nn H (cQ 58 s).2.1,decide (tJ H (cQ 58 s).2.1=0))
 else if(cQ 58 s).1=bV 117 then fq H (cQ 58 s).2.1
 else if(cQ 58 s).1=bV 98 then gO H (cQ 58 s).2.1
 else if(cQ 58 s).1=bV 97 then eQ H (cQ 58 s).2.1
 else if(cQ 58 s).1=bV 114 then gR H (cQ 58 s).2.1
 else(H,false)
def q9 (qs:List (ak×Qu)) (ps:List Nat):List (ak×Value):=List.zipWith (fun x p=>(x.1,Value.pointer (some ⟨p,0,none⟩))) qs ps
theorem sc:∀(qs:List (ak×Qu)) (ps:List Nat) (s:ak),ps.length=qs.length->
 gC (q9 qs ps) s=(qs.findIdx? fun x=>decide (x.1=s)).bind fun i=>(ps[i]?).map fun p=>Value.pointer (some ⟨p,0,none⟩)
 |[],[],_,_=>rfl
 |x::qs,p::ps,s,h=>by
  have ih:=sc qs ps s IF;unfold q9 at *;rw[List.zipWith_cons_cons,gC,List.findIdx?_cons];by_cases e:x.1=s
  ·simp[e]
  ·simp only[e,decide_false,if_false];rw[ih];cases List.findIdx? (fun x=>decide (x.1=s)) qs<;>simp
theorem C_:∀(qs:List (ak×Qu)) (ps:List Nat) (s:ak) (q:Qu) (p:Nat),ps.length=qs.length->(qs.findIdx? fun x=>decide (x.1=s))=none->
 kj (q9 qs ps) s (Value.pointer (some ⟨p,0,none⟩))=q9 (qs++[(s,q)]) (ps++[p])
 |[],[],_,_,_,_,_=>rfl
 |x::qs,p'::ps,s,q,p,h,h2=>by
  rw[List.findIdx?_cons]at h2;by_cases e:x.1=s
  ·simp[e]at h2
  ·simp only[e,decide_false,Bool.false_eq_true,if_false]at h2;have ih:=C_ qs ps s q p IF Y55;unfold q9 at *;simp only[bn,List.zipWith_cons_cons];rw[kj];simp only[e,if_false];rw[ih]
theorem vR{H:Ho}(h:jJ H=0):H.down=false/\H.used<300:=by
 unfold jJ at h;split at h
 ·cases h
 ·rename_i h1;split at h
  ·cases h
  ·exact⟨by simpa using h1,by omega⟩
theorem zr{l:List Nm}{x:Nm}(h:cu l x≠0):d_ l x=l:=by
 unfold cu at h;unfold d_;split
 ·rfl
 ·rename_i h1;rw[if_neg h1]at h;split
  ·rename_i h2;rw[if_pos h2]at h;exact absurd rfl h
  ·rename_i h2;rw[if_neg h2]at h;split
   ·rfl
   ·rename_i h3;rw[if_neg h3]at h;exact absurd rfl h
def W4 (T:TypeId) (v:Value) (l:List Int):HP:=ex fun c:Option (Nat×Nat×List Value×Nat)=>match c with
 |none=>CP (v=.slice none 0 0/\l=[])
 |some (g,off,cs,cap)=>sep (CP (v=.slice (some ⟨g,off,none⟩) l.length cap/\∀(i:Nat) x,l[i]? =some x->cs[off+i]? =some (Value.int .i64 x))) (bD g (.cells cs.toArray T (0,0)))
section
variable {w0 w:World} {L:List HP} {T:TypeId} {v:Value} {l:List Int}
theorem Hx(h:St w0 L w):St w0 (W4 T (.slice none 0 0) []::L) w:=St.Bk none (St.u5 ⟨rfl,rfl⟩ h)
theorem LO{g off cap:Nat}{cs:List Value}(hc:∀(i:Nat) x,l[i]? =some x->cs[off+i]? =some (Value.int .i64 x))(h:St w0 (bD g (.cells cs.toArray T (0,0))::L) w):St w0 (W4 T (.slice (some ⟨g,off,none⟩) l.length cap) l::L) w:=
 St.Bk (some (g,off,cs,cap)) (St.join (St.u5 ⟨rfl,hc⟩ h))
theorem o2(h:St w0 (W4 T v l::L) w):∃a cap,v=.slice a l.length cap:=by
 obtain⟨c,h⟩:=h.B9
 match c,h with
 |none,h=>obtain⟨⟨rfl,rfl⟩,_⟩:=h.qQ;exact⟨none,0,rfl⟩
 |some (g,off,cs,cap),h=>obtain⟨⟨rfl,_⟩,_⟩:=h.split.qQ;exact⟨_,_,rfl⟩
theorem TW(h:St w0 (W4 T v l::L) w):oS w 1 (fun x=>[Value.int .i64 x]) v l:=by
 obtain⟨c,h⟩:=h.B9
 match c,h with
 |none,h=>obtain⟨⟨rfl,rfl⟩,_⟩:=h.qQ;exact⟨none,0,rfl,fun i x hx=>by simp at hx⟩
 |some (g,off,cs,cap),h=>
  obtain⟨⟨hv,hc⟩,h'⟩:=h.split.qQ;subst hv;refine⟨_,_,rfl,fun i x hx=>⟨_,rfl,fun j c hj=>?_⟩⟩;have hj0:j=0:=by
   rcases j with _|j
   ·rfl
   ·simp at hj
  subst hj0;simp only[List.getElem?_cons_zero,ay]at hj;subst hj;have :=hc i x hx;have h2:w.cell? ⟨g,off+i,none⟩=some (.int .i64 x):=by rw[World.cell?,h'.look.2];simpa using this
  rw[Addr.add_lit,Addr.add_lit];simpa using h2
end
end WB
namespace Go.Proofs.YtjhogocabcdjbabGreatDoor
open Tryz
open Go Go.RowKit WB
def aZ (p:Nat):Value:=.pointer (some ⟨p,0,none⟩)
def AT (x:Ms×Int):List Value:=[.int .i64 x.1.id,.int .i64 x.1.pri,.string x.1.body,.string x.1.queue,.int .i64 x.1.b9,.int .i64 x.2]
def cR (x:Int):List Value:=[.int .i64 x]
def Bi (x:Int×ak):List Value:=[.int .i64 x.1,.string x.2]
def cN (v:Value) (l:List (Ms×Int)):HP:=SL 142 6 AT v l
def cK (v:Value) (l:List (Int×ak)):HP:=SL 146 2 Bi v l
def dB (v:Value) (l:List Int):HP:=W4 3 v l
structure rM where
 nv:Value
 mb:Nat
 ps:List Nat
 us:List (Value×Value)
 bs:List Value
structure iY (V:rM) (H:Ho):Prop where
 ps:V.ps.length=4+H.aE.length
 us:V.us.length=5
 bs:V.bs.length=4
 ways:H.ways.length=4
 az:H.az.length=5
 batch:H.batch.length=4
 bU:H.bU.length=4
 aF:H.aF.length=4
def eG (bd:Nat) (V:rM) (H:Ho):List Value:=
 .int .i64 H.id::aZ bd::.int .i64 (H.used:Nat)::.bool H.down::.int .i64 H.c6::.int .i64 H.next::V.nv::.map (some V.mb)::
  ((V.ps.take 4).map aZ++(V.us.flatMap (fun p=>[p.1,p.2])++(V.bs++(H.bU.map (Value.int .i64)++H.aF.map (Value.int .i64)))))
abbrev c7 (V:rM) (H:Ho):List (ak×Value):=q9 H.aE (V.ps.drop 4)
abbrev yL (bh bd:Nat) (V:rM) (H:Ho) (L:List HP):List HP:=
 bD bh (.cells (eG bd V H).toArray 133 (0,0))::jg V.nv H.names::cD Value.string V.mb (c7 V H)::ck iU V.ps H.all::ck cN (V.us.map (·.1)) (H.az.map (·.aU))::ck cK (V.us.map (·.2)) (H.az.map (·.bj))::ck dB V.bs H.batch::L
def cW (bh bd:Nat) (H:Ho):HP:=ex fun V:rM=>sep (CP (iY V H)) (gj (yL bh bd V H []))
theorem cb{w0 w:World}{bh bd:Nat}{H:Ho}{L:List HP}(h:St w0 (cW bh bd H::L) w):∃V:{V:rM//iY V H},St w0 (yL bh bd V.1 H L) w:=by
 obtain⟨V,h⟩:=h.B9;obtain⟨hV,h⟩:=h.split.qQ;exact⟨⟨V,hV⟩,by have :=h.splits;exact this⟩
theorem bK{w0 w:World}{bh bd:Nat}{H:Ho}{L:List HP}(V:rM)(hV:iY V H)(h:St w0 (yL bh bd V H L) w):St w0 (cW bh bd H::L) w:=
 St.Bk (F:=fun V=>sep (CP (iY V H)) (gj (yL bh bd V H []))) V (St.join (St.u5 hV (St.zO (L:=yL bh bd V H []) h)))
theorem nf{w0 w:World}{bh bd:Nat}{H:Ho}{L R:List HP}(h:St w0 L w)(hp:bC L (cW bh bd H) R):
 ∃V,iY V H/\∀i v,(eG bd V H)[i]? =some v->w.cell? ⟨bh,i,none⟩=some v:=by
 obtain⟨V,h1⟩:=cb (h.pick hp);refine⟨V.1,V.2,fun i v hv=>?_⟩;rw[World.cell?,h1.look.2];simpa using hv
theorem pW{bd:Nat}{V:rM}{H:Ho}(h:iY V H):(eG bd V H).length=34:=by
 have e:(V.us.flatMap (fun p=>[p.1,p.2])).length=10:=by
  have :∀l:List (Value×Value),(l.flatMap (fun p=>[p.1,p.2])).length=2*l.length:=fun l=>by
   induction l with
   |nil=>rfl
   |cons a l ih=>rw[aO,aQ,ih];simp;omega
  rw[this,h.us]
 simp[eG,h.ps,h.bs,h.bU,h.aF,e]
theorem TV(w0:World)(L R:List HP)(bh bd:Nat)(H:Ho)(hp:bC L (cW bh bd H) R):KE prog 155 #[aZ bh] w0 L (fun u M=>u=cz 70 (jJ H)/\M=L):=by
 refine KE.mk (n:=16) func155 rfl ntmps155 aj ?_;intro w hw;obtain⟨V,hV,hc⟩:=nf hw hp;have Xq:=hc 3 _ rfl;have kG:=hc 2 _ rfl;refine jX ?_;refine OS ?_;cases hd:H.down with
 |true=>
  rw[hd]at Xq;refine Z7 ?_;refine V3 ?_;refine Z8 ?_;refine BD ?_;refine vA ?_;refine KQ.a_ rfl rfl (fun w' hs=>⟨_,_,rfl,⟨?_,rfl⟩,hw.aA hs.below,hs.below⟩);unfold jJ;rw[hd];rfl
 |false=>
  rw[hd]at Xq;refine Z7 ?_;refine V3 ?_;refine Z8 ?_;refine BB ?_;refine gU ?_;refine Z82 ?_;refine KO.pb rfl rfl isAgg3 kG rfl ?_;refine uh ?_;refine iH ?_;refine K.bI rfl (fun h5=>?_) (fun h5=>?_)
  ·refine vA ?_;refine KQ.a_ rfl rfl (fun w' hs=>⟨_,_,rfl,⟨?_,rfl⟩,hw.aA hs.below,hs.below⟩);unfold jJ;rw[hd,if_neg aj,if_pos ae];rfl
  ·refine VY ?_;refine Ex ?_;refine KQ.a_ rfl rfl (fun w' hs=>⟨_,_,rfl,⟨?_,rfl⟩,hw.aA hs.below,hs.below⟩);unfold jJ;rw[hd,if_neg aj,if_neg ae];rfl
theorem UF(w0:World)(L:List HP)(bh bd:Nat)(H:Ho)(x:Nm)(h1:x.name.size<=maxLen)(h2:x.iQ.size<=maxLen)(hl:H.names.length<=20)(hs:du H.names):
 KC prog 137 #[aZ bh,.agg x.cells.toArray] w0 (cW bh bd H::L) (fun u M=>u=cz 70 (Dq H x)/\M=cW bh bd (eP H x)::L):=by
 obtain⟨xn,xt,xh⟩:=x;dsimp only at h1 h2;refine KC.mk (n:=35) func137 rfl ntmps137 aj ?_;refine oQ ?_;refine K.cg (fun _ h=>cb h) ?_;rintro⟨V,hV⟩;dsimp only;have oO:=hV.ps;refine dC ?_;refine KO.box rfl rfl aL rfl ?_;intro b3;refine jH ?_;refine K.draw [.pure,.pure,.pure,.read,.write,.pure] [0,1,2,3,4,5] bm bm ?_;refine uk ?_;refine Z88 ?_;refine KO.xA rfl rfl isAgg75 sizeOf75 bE aL rfl ?_;refine KO.cl (cp:=[]) rfl rfl rfl call170 rfl (FI w0 _ _ _ bh 6 (eG bd V H) 133 V.nv H.names ⟨xn,xt,xh⟩ aX aX rfl h1 h2 hl hs) ?_;rintro v' L' ⟨rfl,v2,rfl⟩;rw[show(eG bd V H).set 6 v2=eG bd {V with nv:=v2} H from rfl];refine vE ?_;refine K.bI rfl (fun h=>?_) (fun h=>?_)
 ·refine Ew ?_;refine KQ.a_ rfl rfl (fun w' aY=>⟨_,_,rfl,⟨rfl,rfl⟩,?_⟩);rw[show eP H ⟨xn,xt,xh⟩=H from if_neg h];rw[zr h]at aY;exact bK {V with nv:=v2} ⟨hV.ps,hV.us,hV.bs,hV.ways,hV.az,hV.batch,hV.bU,hV.aF⟩ (aY.all Y1)
 have h0:cu H.names ⟨xn,xt,xh⟩=0:=by simpa using h
 have he:Dq H ⟨xn,xt,xh⟩=0:=h0;refine Z6 ?_;have sr:iY {V with nv:=v2} {H with names:=d_ H.names ⟨xn,xt,xh⟩}:=⟨hV.ps,hV.us,hV.bs,hV.ways,hV.az,hV.batch,hV.bU,hV.aF⟩;have M8:(V.ps.drop 4).length=H.aE.length:=by rw[bo,oO];omega
 by_cases hx:xt=⟨#[]⟩
 ·cases hq:H.qI xn with
  |none=>
   have hg:gC (c7 V H) xn=none:=by rw[sc _ _ _ M8,show H.aE.findIdx? (fun x=>decide (x.1=xn))=none from hq];rfl
   refine WH ?_;refine rE ?_;refine yv ?_;refine uo ?_;refine GY ?_;refine RJ ?_;refine KO.on rfl rfl sR ?_;refine KO.di (i:=7) rfl rfl isAgg123 bE rfl rfl rfl ?_;refine lV ?_;refine Hj ?_;refine lV ?_;refine rE ?_;refine KO.on rfl rfl sR ?_;refine KO.Jl fj xn rfl rfl rfl underlying123 underlying9 zeroValue119 aX rfl ?_;rw[hg];refine KO.on rfl rfl sR ?_;refine KO.QP rfl underlying119 rfl ?_;refine qJ ?_;refine BD ?_;refine K.draw [.pure,.pure,.pure,.read,.pure,.read,.pure,.cx,.write] [0,1,2,3,4,5,6,7,8] bm bm ?_;refine uk ?_;refine V5 ?_;refine Hj ?_;refine rE ?_;refine Wm ?_;refine KO.box rfl rfl aL rfl ?_;intro Tf;refine KO.upm fj xn rfl rfl rfl rfl underlying123 underlying9 aX ?_;refine jf ?_;refine KQ.a_ rfl rfl (fun w' aY=>⟨_,_,rfl,⟨by rw[he];rfl,rfl⟩,?_⟩);rw[show eP H ⟨xn,xt,xh⟩={H with names:=d_ H.names ⟨xn,xt,xh⟩,aE:=H.aE++[(xn,⟨[],0⟩)]}by unfold eP;rw[if_pos h0,if_pos ⟨hx,hq⟩]];have hm:=C_ H.aE (V.ps.drop 4) xn ⟨[],0⟩ Tf M8 hq;rw[hm]at aY;have vY:=cL (E:=243) (sz:=8) (cf:=lZ) aY
   have SJ:St w0 (iU Tf ⟨[],0⟩::ck iU V.ps H.all::bD bh (.cells (eG bd {V with nv:=v2} H).toArray 133 (0,0))::jg v2 (d_ H.names ⟨xn,xt,xh⟩)::cD Value.string V.mb (q9 (H.aE++[(xn,⟨[],0⟩)]) (V.ps.drop 4++[Tf]))::ck cN (V.us.map (·.1)) (H.az.map (·.aU))::ck cK (V.us.map (·.2)) (H.az.map (·.bj))::ck dB V.bs H.batch::L) w':=
    jR (vY.all Y5)
   have YQ:=xU (by rw[oO];simp[hV.ways]) SJ;have et:(V.ps++[Tf]).take 4=V.ps.take 4:=by rw[List.take_append_of_le_length ae]
   have ed:(V.ps++[Tf]).drop 4=V.ps.drop 4++[Tf]:=by rw[List.drop_append_of_le_length ae]
   have ea:H.all++[(⟨[],0⟩:Qu)]=H.ways++(H.aE++[(xn,(⟨[],0⟩:Qu))]).map (·.2):=by simp
   rw[ea]at YQ;refine bK {V with nv:=v2,ps:=V.ps++[Tf]} ⟨by simp[oO];omega,hV.us,hV.bs,hV.ways,hV.az,hV.batch,hV.bU,hV.aF⟩ ?_;have e1:eG bd {V with nv:=v2,ps:=V.ps++[Tf]} {H with names:=d_ H.names ⟨xn,xt,xh⟩,aE:=H.aE++[(xn,⟨[],0⟩)]}=eG bd {V with nv:=v2} H:=by unfold eG;dsimp only;rw[et]
   unfold yL c7;rw[e1];dsimp only;rw[ed];exact YQ.all Y3
  |some i=>
   have U3:i<H.aE.length:=(List.findIdx?_eq_some_iff_getElem.1 hq).1;obtain⟨p,hp⟩:∃p,(V.ps.drop 4)[i]? =some p:=⟨_,ao ae⟩;have hg:gC (c7 V H) xn=some (aZ p):=by rw[sc _ _ _ M8,show H.aE.findIdx? (fun x=>decide (x.1=xn))=some i from hq];simp only[Option.bind_some,hp,Option.map_some];rfl
   refine WH ?_;refine rE ?_;refine yv ?_;refine uo ?_;refine GY ?_;refine RJ ?_;refine KO.on rfl rfl sR ?_;refine KO.di (i:=7) rfl rfl isAgg123 bE rfl rfl rfl ?_;refine lV ?_;refine Hj ?_;refine lV ?_;refine rE ?_;refine KO.on rfl rfl sR ?_;refine KO.Jl fj xn rfl rfl rfl underlying123 underlying9 zeroValue119 aX rfl ?_;rw[hg];refine KO.on rfl rfl sR ?_;refine KO.JV rfl underlying119 rfl ?_;refine qJ ?_;refine BB ?_;refine oR ?_;refine fK ?_;refine KQ.a_ rfl rfl (fun w' aY=>⟨_,_,rfl,⟨by rw[he];rfl,rfl⟩,?_⟩);rw[show eP H ⟨xn,xt,xh⟩={H with names:=d_ H.names ⟨xn,xt,xh⟩}by unfold eP;rw[if_pos h0,if_neg (by rw[hq];simp)]];exact bK {V with nv:=v2} sr (aY.all Y5)
 ·refine WH ?_;refine rE ?_;refine yv ?_;refine Ev ?_;refine Tm ?_;refine vy ?_;refine Z5 ?_;refine K.cP rfl sR ?_;refine oR ?_;refine fK ?_;refine KQ.a_ rfl rfl (fun w' aY=>⟨_,_,rfl,⟨by rw[he];rfl,rfl⟩,?_⟩);rw[show eP H ⟨xn,xt,xh⟩={H with names:=d_ H.names ⟨xn,xt,xh⟩}by unfold eP;rw[if_pos h0,if_neg sR]];exact bK {V with nv:=v2} sr (aY.all Y5)
theorem Qq(w0:World)(L:List HP)(bh bd:Nat)(H:Ho)(s:ak)(hl:H.names.length<=20)(hs:du H.names):
 KC prog 139 #[aZ bh,.string s] w0 (cW bh bd H::L) (fun u M=>u=cz 70 (tJ H s)/\M=cW bh bd (nn H s)::L):=by
 refine KC.mk (n:=14) func139 rfl ntmps139 aj ?_;refine oQ ?_;refine K.cg (fun _ h=>cb h) ?_;rintro⟨V,hV⟩;dsimp only;have fin:∀w' v2,St w0 (yL bh bd {V with nv:=v2} (nn H s) L) w'->St w0 (cW bh bd (nn H s)::L) w':=fun w' v2 h=>bK {V with nv:=v2} ⟨hV.ps,hV.us,hV.bs,hV.ways,hV.az,hV.batch,hV.bU,hV.aF⟩ h
 refine dC ?_;refine kQ ?_;refine Es ?_;refine Z1 ?_;refine KO.cl (cp:=[]) rfl rfl rfl call237 rfl (PN w0 _ _ _ bh 6 (eG bd V H) 133 V.nv H.names s bE bE rfl ae hs) ?_;rintro v' L' ⟨rfl,v2,rfl⟩;rw[show(eG bd V H).set 6 v2=eG bd {V with nv:=v2} (nn H s)from rfl];refine vE ?_;refine K.bI rfl (fun h=>?_) (fun h=>?_)
 ·refine Ew ?_;refine KQ.a_ rfl rfl (fun w' aY=>⟨_,_,rfl,⟨rfl,rfl⟩,?_⟩);exact fin w' v2 (aY.all mH)
 ·refine oR ?_;refine fK ?_;have he:tJ H s=0:=by unfold tJ;simpa using h
  refine KQ.a_ rfl rfl (fun w' aY=>⟨_,_,rfl,⟨by rw[he];rfl,rfl⟩,?_⟩);exact fin w' v2 (aY.all mH)
theorem Mw(w0:World)(L:List HP)(bh bd:Nat)(H:Ho)(D:Dk)(s:ak)(hT:nI w0)(h3:D.places.length=300)(hd: -4000000000000000000<=D.left/\D.left<=9223372036854775807)(hs:s.size<=700000)(hu:H.used<=300):
 KC prog 61 #[aZ bh,.string s] w0 (cW bh bd H::fa bd D::L) (fun u M=>u=cz 70 (ep H D)/\M=cW bh bd (dY H D)::fa bd (ig H D s)::L):=by
 refine KC.mk (n:=44) func61 rfl ntmps61 aj ?_;refine iG ?_;refine KO.ce (cp:=[]) rfl rfl rfl call155 rfl (TV w0 _ _ bh bd H .head) ?_;rintro v' L' ⟨rfl,rfl⟩;refine vE ?_;refine K.bI rfl (fun h=>?_) (fun h=>?_)
 ·refine Ew ?_;refine KQ.a_ rfl rfl (fun w' aY=>⟨_,_,rfl,⟨?_,rfl⟩,?_⟩)
  ·unfold ep;rw[if_pos h]
  ·unfold dY ig;rw[if_pos h,if_pos h];exact aY
 have h0:jJ H=0:=by simpa using h
 have hr:=vR h0;have cj:(dQ (H.used:Nat) s).size<=1000000:=Nat.le_trans (rX ⟨by omega,by omega⟩ hs) ai;refine Z6 ?_;refine K.cg (fun _ h=>cb h) ?_;rintro⟨V,hV⟩;dsimp only;refine K.draw [.pure,.pure,.pure,.read,.pure,.pure,.pure,.read,.pure,.pure,.pure,.read,.pure,.cx,.pure,.pure,.pure,.read,.write,.pure] [0,1,2,3,4,5,6,7,8,9,10,11,12,14,15,16,17,13,18,19] bm bm ?_;refine uk ?_;refine KO.ij (off:=1) rfl runUnderlying133 rfl rfl sizeOf25 rfl ?_;refine KO.di (i:=1) rfl rfl isAgg25 bE rfl rfl rfl ?_;refine Z1 ?_;refine Kn ?_;refine Z1 ?_;refine Kn ?_;refine yw ?_;refine KO.ij (off:=4) rfl runUnderlying133 rfl rfl sizeOf3 rfl ?_;refine KO.di (i:=4) rfl rfl isAgg3 bE rfl rfl rfl ?_;refine KO.ce (cp:=[]) rfl rfl rfl call134 rfl (wV w0 _ (H.used:Nat) s ⟨by omega,by omega⟩ ae hT) ?_;rintro v' L' ⟨rfl,rfl⟩;refine KO.cl (cp:=[]) rfl rfl rfl call156 rfl (KC.qR aX (OY w0 _ bd H.used D (dQ (H.used:Nat) s) H.c6 h3 hr.2 hd ⟨qN _ _,cj⟩)) ?_;rintro v' L' ⟨rfl,rfl⟩;refine vE ?_;refine K.bI rfl (fun h2=>?_) (fun h2=>?_)
 ·refine gU ?_;refine Z48 ?_;refine KO.iA (i:=3) rfl rfl rfl aL (by exact sizeOf4) rfl aX rfl OV ?_;rw[show(eG bd V H).set 3 (.bool true)=eG bd V {H with down:=true}from rfl];refine oy ?_;refine vx ?_;refine KQ.a_ rfl rfl (fun w' aY=>⟨_,_,rfl,⟨?_,rfl⟩,?_⟩)
  ·unfold ep;rw[if_neg h]
  ·unfold dY ig;rw[if_neg h,if_neg h,if_pos h2];exact bK V ⟨hV.ps,hV.us,hV.bs,hV.ways,hV.az,hV.batch,hV.bU,hV.aF⟩ (aY.all Y7)
 ·refine mG ?_;refine Z82 ?_;refine KO.di (i:=2) rfl rfl isAgg3 aX rfl rfl rfl ?_;refine uS ?_;refine Z82 ?_;refine KO.iA (i:=2) rfl rfl rfl aL AB rfl aX rfl OV ?_;rw[show(eG bd V H).set 2 (.int .i64 ((H.used:Nat)+1:Int))=eG bd V {H with used:=H.used+1}from rfl];refine jf ?_;have Vj:nu D=0:=by simpa using h2
  refine KQ.a_ rfl rfl (fun w' aY=>⟨_,_,rfl,⟨?_,rfl⟩,?_⟩)
  ·unfold ep;rw[if_neg h,Vj];rfl
  ·unfold dY ig;rw[if_neg h,if_neg h,if_neg h2];exact bK V ⟨hV.ps,hV.us,hV.bs,hV.ways,hV.az,hV.batch,hV.bU,hV.aF⟩ (aY.all Y7)
end Go.Proofs.YtjhogocabcdjbabGreatDoor
namespace WB
open Go Go.RowKit
def KZ (Q:Exit->Act->World->Prop) (ch:List PanicEntry) (D:List Deferred) (w0:World) (L:List HP):Prop:= ∀tm w,St w0 L w->Q (.panic ch) {tmps:=tm,defers:=D} w
def KN (P:Program) (f:FuncId) (args:Array Value) (w0:World) (L:List HP) (R:List PanicEntry->List HP->Prop):Prop:=
 ∀w,St w0 L w->Calls P f args w fun e w'=> ∃ch L',e=.panicked ch/\R ch L'/\St w0 L' w'
section
variable {P:Program} {ops:Array Oper} {d:Bool} {Q:Exit->Act->World->Prop} {n i:Nat} {D:List Deferred} {w0:World} {G:Env} {L L' M:List HP} {l:List (Kd×Oper)} {k:Kd} {dst:Option Nat}
 {ty:TypeId} {pos:String} {af:Array Edge} {x:Operand} {v:Value} {ch:List PanicEntry} {N:Act->World->Prop} {R R':List PanicEntry->List HP->Prop} {f:FuncId} {args:Array Value} {fn:Func} {RE:Ending->World->Prop}
theorem KN.mkE{c:Code}(hf:P.funcs[f]? =some fn)(hb:fn.body=some c)(hn:fn.ntmps=n)(cj:args.size<=n)(h:∀w,St w0 L w->K P c (bodyPost P fn fun e w'=>e=.panicked ch/\St w [] w') n [] w (jW 0 args.toList) []):KN P f args w0 L (fun c M=>c=ch/\M=L):=fun w hw=>by
 subst hn
 exact calls_of_wp hf hb (wp_mono (h w hw _ w (ct.enter cj) (St.init w)) fun e a w' hq=>by
  revert hq
  cases e with
  |normal=>rintro⟨a,v,b,c,d⟩;cases c
  |ret=>rintro⟨a,v,b,c,d⟩;cases c
  |panic c=>rintro⟨a,b,d⟩;exact⟨a,_,_,b,⟨by cases b;rfl,rfl⟩,hw.aA d.below⟩
  |outgrown=>rintro⟨c,d⟩;cases c
  |_=>exact id)
theorem Cq{rest:List (Kd×Oper)}{o:Oper}{a:Act}{w:World}(hk:(!d||(k== .cx||k== .write))=true)(hw:Region.wanted o (yielded ops a.tmps)=true)(h:o.wp P a w (fun _ _=>False) (pq Q)):Fh d P ops Q ((k,o)::rest) a w:=by
 cases d with
 |true=>
  show ib _ _ _ _ _ _
  cases k with
  |cx=>rw[fX hw];exact gg (fun _ _ _ h=>h) (fun _ _ h=>h.elim) h
  |write=>rw[dK hw];exact gg (fun _ _ _ h=>h) (fun _ _ h=>h.elim) h
  |_=>simp at hk
 |false=>exact lh hw (gg r5 (fun _ _ h=>h.elim) h)
theorem KO.die{xs:Array Operand}{ts:Array TypeId}{vs:List Value}{fi cp:List Value}(hk:(!d||(k== .cx||k== .write))=true)(hf:ev G x=some (.func (.func f) fi.toArray cp.toArray))(oc:D3 G xs.toList=some vs)(dx:∀args w,(callFunc f args).run P w=.ok (.enter f args) w)(hc:KN P f (fi++(vs++cp)).toArray w0 L R)(h:∀ch M,R ch M->KZ Q ch D w0 M):
 KO P ops d Q n D w0 G L ((k,⟨dst,.call ⟨.value x,xs,ts⟩,ty,pos,af,none⟩)::l):=fun a w ha hw=>by
 refine Cq hk rfl ?_;unfold Oper.wp;rw[nW ha hf (la oc) (by simp :fi.toArray++vs.toArray++cp.toArray=(fi++(vs++cp)).toArray) dx];refine(hc w hw).mono ?_;rintro e w' ⟨ch,M,rfl,hr,hs⟩;intro tm;have :=h ch M hr tm w' hs;rw[<-ha.defers]at this;exact this
theorem KO.pan{T0:TypeId}(hk:(!d||(k== .cx||k== .write))=true)(hx:ev G x=some (.iface T0 v))(h:KZ Q [{v:=.iface T0 v,recovered:=false}] D w0 L):KO P ops d Q n D w0 G L ((k,⟨dst,.panic x,ty,pos,af,none⟩)::l):=fun a w ha hw=>by
 refine Cq hk rfl ?_;have e:(execOp a.eval ⟨dst,.panic x,ty,pos,af,none⟩).run P w=.halt (.panic (.iface T0 v)) w:=by simp[execOp,ha.eval hx,Instr.panic]
 unfold Oper.wp;rw[e];intro tm;have :=h tm w hw;rw[<-ha.defers]at this;exact this
theorem KO.dfr{fv:FuncId}{fi cp:Array Value}(hk:(!d||k== .write)=true)(hx:ev G x=some (.func (.func fv) fi cp))(h:KO P ops d Q n ({target:=.fn (.func fv) cp,args:=fi}::D) w0 G L l):
 KO P ops d Q n D w0 G L ((k,⟨none,.defer ⟨.value x,#[],#[]⟩,ty,pos,af,none⟩)::l):=fun a w ha hw=>by
 refine jO hk rfl ?_;have e:(execOp a.eval ⟨none,.defer ⟨.value x,#[],#[]⟩,ty,pos,af,none⟩).run P w=.ok (.defer {target:=.fn (.func fv) cp,args:=fi}) w:=by
  simp[execOp,resolve,ha.eval hx,Deferred.ofValue]
 unfold Oper.wp;rw[e];exact h _ w ⟨ha.size,by show _::a.defers=_;rw[ha.defers],ha.get⟩ hw
theorem KC.Kv{c:Code}{Rv:Value->List HP->Prop}(hf:P.funcs[f]? =some fn)(hb:fn.body=some c)(hn:fn.ntmps=n)(cj:args.size<=n)(h:K P c (bodyPostD P fn (R5 w0 Rv)) n [] w0 (jW 0 args.toList) L):KC P f args w0 L Rv:=fun w hw=>by
 subst hn;exact calls_of_wp_defers hf hb (h _ w (ct.enter cj) hw)
end
def KX (P:Program) (f:FuncId) (args:Array Value) (w0:World) (L:List HP) (R:Ending->List HP->Prop):Prop:=
 ∀w,St w0 L w->Calls P f args w fun e w'=> ∃M,R e M/\St w0 M w'/\Below w.heap.size w w'
def KD (P:Program) (f:FuncId) (args:Array Value) (u:FrameMode) (w0:World) (L:List HP) (R:FrameMode->List HP->Prop):Prop:=
 ∀w,St w0 L w->CallsD P f args u w fun e u' w'=> ∃v M,e=.returned v/\R u' M/\St w0 M w'
section
variable {P:Program} {ops:Array Oper} {Q:Exit->Act->World->Prop} {n:Nat} {D:List Deferred} {w0:World} {G:Env} {L L' M:List HP} {l:List (Kd×Oper)} {k:Kd} {dst:Option Nat}
 {ty T E:TypeId} {pos:String} {af:Array Edge} {x:Operand} {v:Value} {ch:List PanicEntry} {f:FuncId} {args:Array Value} {fn:Func} {RE:Ending->World->Prop} {R:Ending->List HP->Prop}
theorem KX.mk{c:Code}(hf:P.funcs[f]? =some fn)(hb:fn.body=some c)(hn:fn.ntmps=n)(cj:args.size<=n)(h:∀w,St w0 L w->K P c (bodyPost P fn fun e w'=> ∃M,R e M/\St w0 M w'/\Below w.heap.size w w') n [] w (jW 0 args.toList) []):KX P f args w0 L R:=fun w hw=>by
 subst hn;exact calls_of_wp hf hb (h w hw _ w (ct.enter cj) (St.init w))
theorem KX.e{Rv:Value->List HP->Prop}(h:KX P f args w0 L R)(hr:∀e M,R e M->∃v,e=.returned v/\Rv v M):KE P f args w0 L Rv:=fun w hw=>
 (h w hw).mono fun _ _ ⟨M,r,s,b⟩=>let⟨v,e,rv⟩:=hr _ _ r;⟨v,M,e,rv,s,b⟩
theorem KX.no{Rp:List PanicEntry->List HP->Prop}(h:KX P f args w0 L R)(hr:∀e M,R e M->∃ch,e=.panicked ch/\Rp ch M):KN P f args w0 L Rp:=fun w hw=>
 (h w hw).mono fun _ _ ⟨M,r,s,_⟩=>let⟨ch,e,rp⟩:=hr _ _ r;⟨ch,M,e,rp,s⟩
theorem KP.c{Rv:Value->List HP->Prop}(h:KP P f args w0 L R)(hr:∀e M,R e M->∃v,e=.returned v/\Rv v M):KC P f args w0 L Rv:=fun w hw=>
 (h w hw).mono fun _ _ ⟨M,r,s⟩=>let⟨v,e,rv⟩:=hr _ _ r;⟨v,M,e,rv,s⟩
theorem KO.aan{xs:Array Operand}{ts:Array TypeId}{vs:List Value}{fi cp:List Value}{Rp:List PanicEntry->List HP->Prop}(hf:ev G x=some (.func (.func f) fi.toArray cp.toArray))(oc:D3 G xs.toList=some vs)(dx:∀args w,(callFunc f args).run P w=.ok (.enter f args) w)(hc:KN P f (fi++(vs++cp)).toArray w0 L Rp)(h:∀ch M,Rp ch M->KQ Q (.panic ch) n D w0 G M):
 KO P ops false Q n D w0 G L ((k,⟨dst,.call ⟨.value x,xs,ts⟩,ty,pos,af,none⟩)::l):=fun a w ha hw=>by
 refine lh rfl ?_;unfold Oper.wp;rw[nW ha hf (la oc) (by simp :fi.toArray++vs.toArray++cp.toArray=(fi++(vs++cp)).toArray) dx];refine(hc w hw).mono ?_;rintro e w' ⟨ch,M,rfl,hr,hs⟩;exact h ch M hr a w' ha hs
theorem Sx{t b:Nat}{fz:Nat×Nat}(hr:fn.results=#[.cell t T])(h1:cF G t=some (.pointer (some ⟨b,0,none⟩)))(hT:∀w,(isAgg T).run P w=.ok false w)(hp:bC L (bD b (.cells [v].toArray E fz)) M)(a:Act)(w:World)(ha:ct n D G a)(hw:St w0 L w):
 (results fn a.tmps).run P w=.ok v w:=by
 have l1:(loadVar T ⟨b,0,none⟩).run P w=.ok v w:=fb (hT w) (by rw[World.cell?,(hw.lK hp).2];simp);simp[results,hr,Array.getD_eq_getD_getElem?,ha.get _ _ h1,asAddr,l1]
theorem KQ.leave{e:Exit}{u:FrameMode}{fv:FuncId}{fi cp:Array Value}{R2:List HP->Prop}(he:(e=.ret/\u=.returning)\/(e=.normal/\u=.returning)\/e=.panic ch/\u=.panicking ch)(dx:∀args w,(callFunc fv args).run P w=.ok (.enter fv args) w)(hD:KD P fv (fi++cp) u w0 L fun u' M=>settle u'=.returning/\R2 M)(Qg:∀M,R2 M->∃v,(∀a w,ct n [{target:=.fn (.func fv) cp,args:=fi}] G a->St w0 M w->(results fn a.tmps).run P w=.ok v w)/\∀w,St w0 M w->RE (.returned v) w):
 KQ (bodyPostD P fn RE) e n [{target:=.fn (.func fv) cp,args:=fi}] w0 G L:=fun a w ha hw=>by
 have key:Leaves P fn a.tmps RE a.defers u w:=by
  rw[ha.defers];refine leaves_cons (f:=fv) (args:=fi++cp) ?_ ?_ ?_
  ·rcases he with⟨-,rfl⟩|⟨-,rfl⟩|⟨-,rfl⟩<;>simp
  ·simp[invoke,dx]
  ·refine(hD w hw).mono ?_;rintro e u' w' ⟨v,M,rfl,⟨hs,hr⟩,hw'⟩;obtain⟨v,h1,h2⟩:=Qg M hr
   show Leaves P fn a.tmps RE [] (settle u') w'
   rw[hs];exact⟨v,h1 a w' ha hw',h2 w' hw'⟩
 rcases he with⟨rfl,rfl⟩|⟨rfl,rfl⟩|⟨rfl,rfl⟩<;>exact key
end
theorem GU{P:Program}{w0 w:World}{L:List HP}(t u ty e:TypeId)(i:TypeInfo)(ht:P.underlying t=some (.slice e))(hu:P.underlying u=some .string)(hi:P.info? e=some i)(hz:i.zero=some (.int .u8 0))(Dn:i.size=1)(SX:i.bytes=1){v:Value}{n:Nat}{xs:List Value}(h:St w0 (ie e 1 v n xs::L) w)(s:ak)(hb:n+s.size<=140737488355328):
 ∃v' w',(Builtin.append_ #[t,u] ty #[v,.string s]).run P w=.ok v' w'/\St w0 (ie e 1 v' (n+s.size) (xs++Lib.strCells s)::L) w':=by
 have ZN:n+s.size<=maxLen:=by simp only[maxLen];omega
 have qd:xs.length=n:=by have :=h.r8;omega
 have SI:=Lib.strCells_length s;have fresh:∀(yH:Nat),St w0 L w->St w0 (ie e 1 (.slice (some ⟨w.heap.size,0,none⟩) (n+s.size) (grownCap w (n+s.size) yH e)) (n+s.size) (xs++Lib.strCells s)::L)
  (w.drew.alloc (.cells (xs.toArray++(Lib.strCells s).toArray++Builtin.zeroCells (Value.int .u8 0).cells (grownCap w (n+s.size) yH e-(n+s.size))) e)):=by
  intro yH hL;have B7:=grownCap_ge w (n+s.size) yH e;refine(hL.drew.alloc _).ju B7 (grownCap_le_maxLen w (n+s.size) yH e ZN) ?_ ?_
  ·have l0:(Value.int IntKind.u8 0).cells.size=1:=rfl;simp only[Array.size_append,List.size_toArray,size_zeroCells,l0,qd,SI];omega
  ·simp only[Array.toList_append,aK];rw[<-aK,show(n+s.size)*1=(xs++Lib.strCells s).length by rw[aQ,qd,SI,Nat.mul_one]];exact List.take_left
 rcases h.cr with⟨rfl,rfl,rfl,hL⟩|⟨g,cap,cur,rfl,tF,sP,mL,eO,_,hblk⟩
 ·by_cases hm:s.size=0
  ·have hn:Lib.strCells s=[]:=List.eq_nil_of_length_eq_zero (by rw[SI];exact hm);refine⟨.slice none 0 0,w,?_,by rw[hm,hn];exact hL.pM⟩;have hf:=Lib.run_firstCells_string (P:=P) w 1 s;rw[hm]at hf;simp[Builtin.append_,run_underlying ht,run_underlying hu,Go.sizeOf,typeInfo,hi,Dn,Builtin.lenOf,hm,hf]
  ·have hr:=run_append_nil_string (P:=P) w t u ty e i (.int .u8 0) ht hu hi hz s ae ae (by rw[SX];omega);have hgr:=fresh 0 hL;simp only[Nat.zero_add,List.nil_append,Array.empty_append]at hgr ⊢;have e1:(s.data.map fun b=>Value.int .u8 b.toNat)=(Lib.strCells s).toArray:=by
    apply Array.ext';simp[Lib.strCells]
   rw[e1]at hr;exact⟨_,_,hr,hgr⟩
 ·rw[Nat.mul_one]at mL eO;by_cases jM:n+s.size<=cap
  ·have hr:=Lib.run_append_room_string (P:=P) w t u ty e i ht hu hi Dn g n cap cur hblk.look.2 s jM ae;refine⟨_,_,hr,hblk.setRow.ju jM sP ?_ ?_⟩
   ·simp only[List.size_toArray,aQ,bp,bo,Array.length_toList,SI];omega
   ·rw[eO,show(n+s.size)*1=(xs++Lib.strCells s).length by rw[aQ,qd,SI,Nat.mul_one]];exact List.take_left
  ·have holds:∀j u,xs[j]? =some u->w.cell? ((⟨g,0,none⟩:Addr).add j)=some u:=h.o8.cells (g:=g) rfl;have hr:=Lib.run_append_grow_string (P:=P) w t u ty e i (.int .u8 0) ht hu hi hz ⟨g,0,none⟩ n cap xs (by rw[Dn];omega) holds s ae ae (by rw[SX];exact growslice_fits ae ae);exact⟨_,_,hr,fresh cap hblk.drop⟩
theorem KO.VW{P:Program}{ops:Array Oper}{d:Bool}{Q:Exit->Act->World->Prop}{n m t:Nat}{D:List Deferred}{w0:World}{G:Env}{L R:List HP}{l:List (Kd×Oper)}{k:Kd}{ty T U e:TypeId}{pos:String}{af:Array Edge}{x y:Operand}{v:Value}{xs:List Value}{s:ak}(hk:(!d||k== .write)=true)(hx:ev G x=some v)(hy:ev G y=some (.string s))(hp:bC L (ie e 1 v m xs) R)(hT:P.underlying T=some (.slice e))(hU:P.underlying U=some .string)(hi:(P.info? e).map (fun i=>(i.zero,i.size,i.bytes))=some (some (.int .u8 0),1,1))(hb:m+s.size<=140737488355328)(ht:Nat.blt t n=true)(h:∀v',KO P ops d Q n D w0 ((t,v')::G) (ie e 1 v' (m+s.size) (xs++Lib.strCells s)::R) l):KO P ops d Q n D w0 G L ((k,⟨some t,.call ⟨.builtin .append,#[x,y],#[T,U]⟩,ty,pos,af,none⟩)::l):=by
 obtain⟨i0,KI,uF,l0,u9⟩:=info_parts hi;refine KO.wvE hk (F:=fun v'=>ie e 1 v' (m+s.size) (xs++Lib.strCells s)::R) (fun a w ha hw=>?_) ht h;obtain⟨v',w',hr,kO⟩:=GU (P:=P) T U ty e i0 hT hU KI uF l0 u9 (hw.pick hp) s hb;exact⟨v',w',jA x y T U rfl v _ (ha.eval hx) (ha.eval hy) hr,kO⟩
open Go
def canon (s:ak):Option Int:=match dM s with|some v=>if bH v=s then some v else none|none=>none
def Ue (s:ak):Int:=(canon s).getD 0
def ac8:List ak:=[⟨#[]⟩,⟨#[]⟩,⟨#[]⟩,⟨#[]⟩,⟨#[]⟩]
def wE (p:ak):List ak:=cH 32 p++ac8
def ac7 (p:ak):Ms:=⟨Ue ((wE p).getD 0 default),Ue ((wE p).getD 1 default),(wE p).getD 2 default,(wE p).getD 3 default,Ue ((wE p).getD 4 default)⟩
theorem C3{s:ak}{v:Int}(h:dM s=some v):jG v:=by
 unfold dM at h;split at h
 ·rename_i x hx;simp only[ay]at h;subst h;have h2:=Lib.parseIntB_64 s.data.toList;rw[hx]at h2;have :=Lib.parseIntB_bounds h2;unfold jG;simp at this;omega
 ·cases h
theorem KC.oI{P:Program}{f:FuncId}{args:Array Value}{w0:World}{L:List HP}{R R':Value->List HP->Prop}(h:KC P f args w0 L R)(hr:∀v M,R v M->∃M',R' v M'/\∀w,St w0 M w->St w0 M' w):KC P f args w0 L R':=fun w hw=>
 (h w hw).mono fun _ _ ⟨v,M,a,b,c⟩=>by
  obtain⟨M',h1,h2⟩:=hr v M b;exact⟨v,M',a,h1,h2 _ c⟩
theorem KC.ri{α β:Type}{f:α->β->HP}{P:Program}{g:FuncId}{args:Array Value}{w0:World}{L R:List HP}{ps:List α}{xs:List β}{p:α}{x y:β}{i:Nat}{φ:Value->Prop}(hp:ps[i]? =some p)(hx:xs[i]? =some x)(pk:bC L (ck f ps xs) R)(h:∀L,KC P g args w0 (f p x::L) (fun u M=>φ u/\M=f p y::L)):
 KC P g args w0 L (fun u M=>φ u/\M=ck f ps (xs.set i y)::R):=
 KC.perm (L':=f p x::ck f (ps.eraseIdx i) (xs.eraseIdx i)::R) (fun w hw=>ew hp hx (hw.pick pk)) (KC.oI (h _) (by
  rintro v M ⟨h1,rfl⟩
  exact⟨_,⟨h1,rfl⟩,fun w hw=>wj hp (au.1 hx).1 hw⟩))
theorem KE.Iu{α β:Type}{f:α->β->HP}{P:Program}{g:FuncId}{args:Array Value}{w0:World}{L R:List HP}{ps:List α}{xs:List β}{p:α}{x:β}{i:Nat}{φ:Value->Prop}(hp:ps[i]? =some p)(hx:xs[i]? =some x)(pk:bC L (ck f ps xs) R)(h:∀L,KE P g args w0 (f p x::L) (fun u M=>φ u/\M=f p x::L)):
 KE P g args w0 L (fun u M=>φ u/\M=ck f ps xs::R):=
 KE.perm (L':=f p x::ck f (ps.eraseIdx i) (xs.eraseIdx i)::R) (fun w hw=>ew hp hx (hw.pick pk)) (KE.oI (h _) (by
  rintro v M ⟨h1,rfl⟩
  exact⟨_,⟨h1,rfl⟩,fun w hw=>kz hp hx hw⟩))
theorem KE.D1{α β:Type}{f:α->β->HP}{P:Program}{g:FuncId}{args:Array Value}{w0:World}{L R:List HP}{ps:List α}{xs:List β}{p:α}{x:β}{i:Nat}{A:Value->HP}{φ:Value->Prop}(hp:ps[i]? =some p)(hx:xs[i]? =some x)(pk:bC L (ck f ps xs) R)(h:∀L,KE P g args w0 (f p x::L) (fun u M=>φ u/\M=A u::f p x::L)):
 KE P g args w0 L (fun u M=>φ u/\M=A u::ck f ps xs::R):=
 KE.perm (L':=f p x::ck f (ps.eraseIdx i) (xs.eraseIdx i)::R) (fun w hw=>ew hp hx (hw.pick pk)) (KE.oI (h _) (by
  rintro v M ⟨h1,rfl⟩
  exact⟨_,⟨h1,rfl⟩,fun w hw=>(kz hp hx (hw.all (.cons (.tail .head) (.cons (.tail .head) .refl)))).fL⟩))
section
variable {n:Nat} {H:Ho} {q:Qu} {i j:Nat}
theorem oH(h4:H.ways.length=4)(hi:i<H.aE.length):H.all[4+i]? =some (H.dX i):=by
 unfold Ho.all Ho.dX;rw[bM ae,h4,Nat.add_sub_cancel_left,aH,ao hi,aq,ao hi];rfl
theorem qH(h4:H.ways.length=4)(hj:j<4):H.all[j]? =some (H.hF j):=by
 unfold Ho.all Ho.hF;rw[List.getElem?_append_left ae,ao ae,aq,ao ae];rfl
theorem ox(h4:H.ways.length=4):H.all.length=4+H.aE.length:=by unfold Ho.all;simp[h4]
theorem lU(h4:H.ways.length=4)(i:Nat)(q:Qu):(H.ft i q).all=H.all.set (4+i) q:=by
 unfold Ho.all Ho.ft;rw[List.map_set,List.set_append_right _ _ ae,h4,Nat.add_sub_cancel_left]
theorem nB(hj:j<H.ways.length)(q:Qu):(H.iS j q).all=H.all.set j q:=by
 unfold Ho.all Ho.iS;rw[List.set_append_left _ _ hj]
theorem ki(i:Nat)(q:Qu):(H.ft i q).aE.map (·.1)=H.aE.map (·.1):=by
 unfold Ho.ft;rw[List.map_set];apply List.ext_getElem?;intro k;rw[List.getElem?_set];split
 ·rename_i e;subst e;split
  ·rename_i hk;rw[aV]at hk;rw[aH,ao hk,aq,ao hk];rfl
  ·rename_i hk;rw[cG ae]
 ·rfl
theorem o5(s:ak):H.qI s=(H.aE.map (·.1)).findIdx? fun x=>decide (x=s):=by
 unfold Ho.qI;rw[List.findIdx?_map];rfl
theorem Px(i:Nat)(q:Qu)(s:ak):(H.ft i q).qI s=H.qI s:=by rw[o5,o5,ki]
theorem sd:∀(qs rs:List (ak×Qu)) (ps:List Nat),qs.map (·.1)=rs.map (·.1)->q9 qs ps=q9 rs ps
 |[],[],_,_=>rfl
 |a::qs,b::rs,[],_=>rfl
 |a::qs,b::rs,p::ps,h=>by
  simp only[aT,List.cons.injEq]at h;have ih:=sd qs rs ps h.2;unfold q9 at *;rw[List.zipWith_cons_cons,List.zipWith_cons_cons,ih,h.1]
 |[],b::rs,_,h=>by simp at h
 |a::qs,[],_,h=>by simp at h
theorem wR(i:Nat)(q:Qu):(H.ft i q).aE.length=H.aE.length:=by simp[Ho.ft]
theorem cE.le{k:Nat}(h:cE n H)(hk:n<=k):cE k H:=⟨h.id,h.used,h.next,h.sorted,h.kr,Nat.le_trans h.mV hk,fun q hq=>(h.qs q hq).le hk,h.nodup,h.ways,h.az,h.batch,h.bU,h.aF,h.right,h.loc,h.ext.le hk⟩
theorem cE.ft(h:cE n H)(hq:QB n q)(i:Nat):cE n (H.ft i q):=by
 refine⟨h.id,h.used,h.next,h.sorted,h.kr,by rw[wR];exact h.mV,fun q' yW=>?_,by rw[ki];exact h.nodup,h.ways,h.az,h.batch,h.bU,h.aF,h.right,fun x hx ht=>by(rw[Px];exact h.loc x hx ht),h.ext⟩;rw[lU h.ways]at yW;rcases br yW with h1|rfl
 ·exact h.qs _ h1
 ·exact hq
theorem cE.iS(h:cE n H)(hq:QB n q)(hj:j<4):cE n (H.iS j q):=by
 refine⟨h.id,h.used,h.next,h.sorted,h.kr,h.mV,fun q' yW=>?_,h.nodup,by simp[Ho.iS,h.ways],h.az,h.batch,h.bU,h.aF,h.right,h.loc,h.ext⟩;rw[nB (by rw[h.ways];exact hj)]at yW;rcases br yW with h1|rfl
 ·exact h.qs _ h1
 ·exact hq
theorem cE.qa(h:cE n H)(hi:i<H.aE.length):QB n (H.dX i):=h.qs _ (ax (oH h.ways hi))
theorem cE.w(h:cE n H)(hj:j<4):QB n (H.hF j):=h.qs _ (ax (qH h.ways hj))
theorem cE.PJ(h:cE n H){k:Int}(hk:0<=k/\k<=274877906945):cE n {H with next:=k}:=⟨h.id,h.used,hk,h.sorted,h.kr,h.mV,h.qs,h.nodup,h.ways,h.az,h.batch,h.bU,h.aF,h.right,h.loc,h.ext⟩
theorem i_{s:ak}(h:H.qI s=some i):i<H.aE.length/\(H.aE.getD i (⟨#[]⟩,default)).1=s:=by
 unfold Ho.qI at h;obtain⟨h1,h2,_⟩:=List.findIdx?_eq_some_iff_getElem.1 h;refine⟨h1,?_⟩;rw[aq,ao h1];simpa using h2
theorem s4{l:List Nm}{x y:Nm}(h:y∈d_ l x):(y=x/\cu l x=0)\/y∈l:=by
 by_cases h0:cu l x=0
 ·unfold d_ at h;split at h
  ·exact .inr h
  ·split at h
   ·rcases br h with h|h
    ·exact .inr h
    ·exact .inl ⟨h,h0⟩
   ·split at h
    ·exact .inr h
    ·rcases aP.1 h with h|h
     ·exact .inr (List.mem_of_mem_take h)
     ·rcases aJ.1 h with h|h
      ·exact .inl ⟨h,h0⟩
      ·exact .inr (List.mem_of_mem_drop h)
 ·rw[zr h0]at h;exact .inr h
theorem kV{l:List Nm}{x:Nm}(h:cu l x=0):bW x=true:=by
 cases hr:bW x with
 |true=>rfl
 |false=>unfold cu at h;rw[if_pos hr]at h;cases h
theorem rW{l:List Nm}(h:du l)(x:Nm):du (d_ l x):=((⟨h,.refl _⟩:nK l l).set x).sorted
theorem yX{l:List Nm}(h:du l)(s:ak):du (jC l s):=((⟨h,.refl _⟩:nK l l).drop s).sorted
theorem HW{s t:ak}{q:Qu}{i:Nat}(h:H.qI t=some i):({H with aE:=H.aE++[(s,q)]}:Ho).qI t=some i:=by
 unfold Ho.qI at *;rw[List.findIdx?_append,h];rfl
theorem T9{s:ak}{q:Qu}(h:H.qI s=none):({H with aE:=H.aE++[(s,q)]}:Ho).qI s=some H.aE.length:=by
 unfold Ho.qI at *;rw[List.findIdx?_append,h];simp
theorem cE.set(h:cE n H)(x:Nm):cE (n+1) (eP H x):=by
 unfold eP;split
 ·rename_i h0;have hl:(d_ H.names x).length<=20:=Nat.le_trans (IX _ _) (by have :=h.kr;omega);have hr:∀y∈d_ H.names x,bW y=true:=fun y hy=>by
   rcases s4 hy with⟨rfl,-⟩|hy
   ·exact kV h0
   ·exact h.right y hy
  by_cases hc:x.iQ=⟨#[]⟩/\H.qI x.name=none
  ·rw[if_pos hc];refine⟨h.id,h.used,h.next,rW h.sorted x,hl,by have :=h.mV;simp;omega,fun q hq=>?_,?_,h.ways,h.az,h.batch,h.bU,h.aF,hr,fun y hy ht=>?_,h.ext.le (Nat.le_succ n)⟩
   ·simp only[Ho.all,bu,aP]at hq;rcases hq with hq|hq|hq
    ·exact(h.qs q (by simp[hq])).le (Nat.le_succ n)
    ·exact(h.qs q (by unfold Ho.all;exact aP.2 (.inr hq))).le (Nat.le_succ n)
    ·simp at hq;subst hq;exact QB.nil
   ·rw[bu,List.nodup_append];refine⟨h.nodup,by simp,fun a ha b hb=>?_⟩;simp at hb;subst hb;rintro rfl;have h2:=hc.2;rw[o5,List.findIdx?_eq_none_iff]at h2;simpa using h2 _ ha
   ·rcases s4 hy with⟨rfl,-⟩|hy
    ·exact⟨_,T9 hc.2⟩
    ·obtain⟨i,hi⟩:=h.loc y hy ht;exact⟨i,HW hi⟩
  ·rw[if_neg hc];refine⟨h.id,h.used,h.next,rW h.sorted x,hl,Nat.le_succ_of_le h.mV,fun q hq=>(h.qs q hq).le (Nat.le_succ n),h.nodup,h.ways,h.az,h.batch,h.bU,h.aF,hr,fun y hy ht=>?_,h.ext.le (Nat.le_succ n)⟩;rcases s4 hy with⟨rfl,-⟩|hy
   ·cases hq:H.qI y.name with
    |none=>exact absurd ⟨ht,hq⟩ hc
    |some i=>exact⟨i,hq⟩
   ·exact h.loc y hy ht
 ·exact h.le (Nat.le_succ n)
theorem cE.drop(h:cE n H)(s:ak):cE n (nn H s):=by
 have hs:∀y∈jC H.names s,y∈H.names:=fun y hy=>by
  unfold jC at hy;split at hy
  ·exact(List.eraseIdx_sublist _ _).subset hy
  ·exact hy
 exact⟨h.id,h.used,h.next,yX h.sorted s,Nat.le_trans (Gv _ _) h.kr,h.mV,h.qs,h.nodup,h.ways,h.az,h.batch,h.bU,h.aF,fun y hy=>h.right y (hs y hy),fun y hy=>h.loc y (hs y hy),h.ext⟩
theorem cE.T_(h:cE n H){m:Ms}{H1:Ho}(hm:bG m=true)(hp:fO H m=some H1):cE (n+1) H1:=by
 obtain⟨m1,m2,m3,m4,-,-,m7,m8⟩:=bP hm;have hx:=h.next
 have h1:cE n {H with next:=max H.next (m.id/4+1)}:=h.PJ ⟨by omega,by omega⟩;unfold fO at hp;dsimp only at hp;split at hp
 ·simp only[ay]at hp;subst hp;exact(h1.le (Nat.le_succ n)).iS ((h.w ae).s9 ⟨m3,m4⟩ ⟨m1,m2⟩ (-1)) ae
 ·split at hp
  ·cases hp
  ·rename_i i hi;simp only[ay]at hp;subst hp;exact(h1.le (Nat.le_succ n)).ft ((h.qa (i_ hi).1).s9 ⟨m3,m4⟩ ⟨m1,m2⟩ (-1)) i
theorem cE.aU(l:List Ms):∀{n:Nat} {H:Ho},cE n H->(∀m∈l,bG m=true)->cE (n+l.length) (fG H l).1:=by
 induction l with
 |nil=>exact fun h _=>h
 |cons m l ih=>
  intro n H h hl;unfold fG;cases hp:fO H m with
  |none=>
   obtain⟨m1,m2,_⟩:=bP (hl m aj);have hx:=h.next
   exact(h.PJ ⟨by omega,by omega⟩).le aj
  |some H1=>
   have :=ih (h.T_ (hl m aj) hp) fun m hm=>hl m (by simp[hm])
   exact this.le fV
theorem cE.Vp(h:cE n H){s:ak}{H1:Ho}(hp:gQ H s=some H1):cE n H1:=by
 unfold gQ at hp;split at hp
 ·cases hp
 ·split at hp
  ·cases hp
  ·rename_i k i hi;split at hp
   ·simp only[ay]at hp;subst hp;exact h.ft ((h.qa (i_ hi).1).take _) i
   ·cases hp
theorem cE.bj(l:List ak):∀{H:Ho},cE n H->cE n (gP H l).1:=by
 induction l with
 |nil=>exact fun h=>h
 |cons s l ih=>
  intro H h;unfold gP;cases hp:gQ H s with
  |none=>exact h
  |some H1=>exact ih (h.Vp hp)
theorem cE.ends{s:ak}(h:cE n H)(hr:∀l,qZ (cQ 47 s).1=some l->∀m∈l,bG m=true){k:Nat}(hk:∀l,qZ (cQ 47 s).1=some l->n+l.length<=k)(qB:n<=k):cE k (fq H s).1:=by
 unfold fq;split
 ·exact h.le qB
 ·split
  ·exact h.le qB
  ·rename_i l hl;have h1:=(h.aU l (hr l hl)).le (hk l hl);split
   ·exact h1
   ·split
    ·exact h1
    ·exact h1.bj _
theorem cE.log{D:Dk}(h:cE n H):cE n (dY H D):=by
 unfold dY;split
 ·exact h
 ·rename_i h0;have h0:jJ H=0:=by simpa using h0
  split
  ·exact⟨h.id,h.used,h.next,h.sorted,h.kr,h.mV,h.qs,h.nodup,h.ways,h.az,h.batch,h.bU,h.aF,h.right,h.loc,h.ext⟩
  ·exact⟨h.id,(vR h0).2,h.next,h.sorted,h.kr,h.mV,h.qs,h.nodup,h.ways,h.az,h.batch,h.bU,h.aF,h.right,h.loc,h.ext⟩
def oU (H:Ho) (D:Dk) (s:ak):Ho:=if ep H D=0 then(bO (dY H D) s).1 else dY H D
theorem bT{k:Int}:bQ H k=true↔0<=k/\k<4/\k≠H.id:=by unfold bQ;simp
theorem np{l:List Int}{k:Nat}{n:Nat}(h:∀x∈l,0<=x/\x<=(n:Int)):0<=l.getD k 0/\l.getD k 0<=(n:Int):=by
 rw[aq];cases hk:l[k]? with
 |none=>exact⟨Int.le_refl 0,by show(0:Int)<=n;omega⟩
 |some x=>exact h x (ax hk)
theorem C9{α β:Type}{f:α->Option β}:∀{l:List α} {r:List β},l.mapM f=some r->r.length=l.length
 |[],r,h=>by cases h;rfl
 |a::l,r,h=>by
  rw[List.mapM_cons]at h;cases ha:f a with
  |none=>rw[ha]at h;cases h
  |some b=>
   rw[ha]at h;cases hl:l.mapM f with
   |none=>rw[hl]at h;cases h
   |some r'=>rw[hl]at h;cases h;simp[C9 hl]
theorem Jv{s:ak}{l:List Int}(h:oF s=some l):l.length<=s.size+1:=by
 have :=C9 h;have :=qU 32 s;omega
theorem cE.made(h:cE n H)(s:ak)(hs:s.size<=90000):cE (n+1) (gO H s).1:=by
 unfold gO;split
 ·rename_i k a r hi;split
  ·have h2:=h.le (Nat.le_succ n);refine⟨h2.id,h2.used,h2.next,h2.sorted,h2.kr,h2.mV,h2.qs,h2.nodup,h2.ways,h2.az,by simp[h.batch],by simp[h.bU],h2.aF,h2.right,h2.loc,⟨fun l hl=>?_,fun x hx=>?_,h2.ext.arr⟩⟩
   ·rcases br hl with h3|rfl
    ·exact h.ext.Te l h3
    ·have :=Jv hi;simp at this ⊢;omega
   ·rcases br hx with h3|rfl
    ·exact h2.ext.W3 x h3
    ·have :=np (k:=k.toNat) h.ext.W3;unfold da;push_cast;omega
  ·exact h.le (Nat.le_succ n)
 ·exact h.le (Nat.le_succ n)
theorem QB.Sd{q:Qu}(h:QB n q)(l:List Int):QB n (dA q l):=by
 unfold dA
 induction l generalizing q with
 |nil=>exact h
 |cons a l ih=>exact ih (h.take a)
theorem cE.known(h:cE n H)(s:ak):cE n (eQ H s).1:=by
 unfold eQ;split
 ·rename_i k _;split
  ·rename_i h1;have h2:=bT.1 h1;have tG:k.toNat<4:=by omega
   have h3:=h.iS ((h.w (j:=k.toNat) tG).Sd (bR H k.toNat)) tG
   exact⟨h3.id,h3.used,h3.next,h3.sorted,h3.kr,h3.mV,h3.qs,h3.nodup,h3.ways,h3.az,by simp[h.batch],h3.bU,h3.aF,h3.right,h3.loc,⟨fun l hl=>by
    rcases br hl with h4|rfl
    ·exact h.ext.Te l h4
    ·simp,h3.ext.W3,h3.ext.arr⟩⟩
  ·exact h
 ·exact h
theorem cE.comes:∀(l:List (Ms×ak)) {n:Nat} {H:Ho},cE n H->(∀x∈l,(0<=x.1.pri/\x.1.pri<=9)/\0<=x.1.id/\x.1.id<=1099511627776)->cE (n+l.length) (dP H l).1
 |[],_,_,h,_=>h
 |(m,t)::l,n,H,h,hp=>by
  unfold dP;split
  ·exact h.le ae
  ·rename_i i hi;have h1:=(h.le (Nat.le_succ n)).ft ((h.qa (i_ hi).1).s9 (hp (m,t) aj).1 (hp (m,t) aj).2 (-1)) i;exact(cE.comes l h1 fun x hx=>hp x sR).le fV
theorem cE.NQ(h:cE n H)(s:ak){k:Nat}(ON:1<=k)(hk:∀l,(∃a b c,cH 47 s=[a,b,c]/\qZ b=some l)->l.length<=k):cE (n+k) (gR H s).1:=by
 unfold gR;split
 ·rename_i a b c e;split
  ·rename_i kk l _ hl;have h1:=hk l ⟨a,b,c,e,hl⟩;have hr:=dm (mY hl).1
   have h2:=(cE.comes (l.zip (cH 43 c)) h fun x hx=>by
    have :=bP (hr x.1 (List.of_mem_zip hx).1)
    exact⟨⟨this.2.2.1,this.2.2.2.1⟩,this.1,this.2.1⟩).le (k:=n+k) (by rw[List.length_zip];omega)
   split
   ·split
    ·exact⟨h2.id,h2.used,h2.next,h2.sorted,h2.kr,h2.mV,h2.qs,h2.nodup,h2.ways,h2.az,h2.batch,h2.bU,by simp[h.aF],h2.right,h2.loc,⟨h2.ext.Te,h2.ext.W3,fun x hx=>by
      rcases br hx with h3|rfl
      ·have :=h.ext.arr x h3;omega
      ·have :=np (k:=kk.toNat) h.ext.arr
       unfold cT;omega⟩⟩
    ·exact h2
   ·exact h.le ae
  ·exact h.le ae
 ·exact h.le ae
structure eX (n:Nat) (s:ak):Prop where
 size:s.size<=80000
 many:(cQ 58 s).1=bV 117->∀l,qZ (cQ 47 (cQ 58 s).2.1).1=some l->l.length<=n
 Q_:(cQ 58 s).1=bV 114->∀a b c l,cH 47 (cQ 58 s).2.1=[a,b,c]->qZ b=some l->l.length<=n/\l.length<=(cH 43 c).length
theorem ny(c:UInt8)(s:ak):(cQ c s).1.size<=s.size/\(cQ c s).2.1.size<=s.size:=by
 unfold cQ Lib.cut;split
 ·simp only[toB,jE];constructor<;>simp <;>omega
 ·simp only[toB,jE];constructor<;>simp
theorem cE.HZ{k:Nat}{s:ak}(h:cE n H)(hr:eX k s)(hk:1<=k):cE (n+k) (bO H s).1:=by
 have hc:=(ny 58 s).2;have hs:=hr.size;unfold bO;split
 ·split
  ·exact h.le ae
  ·exact(h.set _).le ae
 ·split
  ·exact(h.drop _).le ae
  ·split
   ·rename_i h3;exact h.ends (fun l hl=>dm (mY hl).1) (fun l hl=>by have :=hr.many h3 l hl;omega) ae
   ·split
    ·exact(h.made _ ae).le ae
    ·split
     ·exact(h.known _).le ae
     ·split
      ·rename_i h6;exact h.NQ _ hk fun l hl=>by
        obtain⟨a,b,c,h7,h8⟩:=hl;exact(hr.Q_ h6 a b c l h7 h8).1
      ·exact h.le ae
end
theorem Ft{l:List Nm}{x:Nm}(hr:bW x=true)(hs:∀y∈l,iu y.name x.name<0)(hl:l.length<20):d_ l x=l++[x]/\cu l x=0:=by
 have hk:bF l x.name=l.length:=by
  unfold bF;rw[show(l.takeWhile fun y=>decide (iu y.name x.name<0))=l from ?_];clear hl
  induction l with
  |nil=>rfl
  |cons a l ih=>
   rw[List.takeWhile_cons,if_pos (by simpa using hs a aj),ih fun y hy=>hs y (by simp[hy])]
 have hh:eW l x.name (bF l x.name)=false:=by unfold eW;rw[hk];simp
 constructor
 ·unfold d_;rw[if_neg (by simp[hr]),if_neg (by simp[hh]),if_neg ae,hk,List.take_length,List.drop_length]
 ·unfold cu;rw[if_neg (by simp[hr]),if_neg (by simp[hh]),if_neg ae]
theorem LG{l:List Nm}(hs:du l)(hr:∀y∈l,bW y=true)(hl:l.length<=20){k:Nat}{y:Nm}(hy:l[k]? =some y):d_ (l.take k) y=l.take (k+1):=by
 obtain⟨hk,rfl⟩:=au.1 hy;rw[(Ft (hr _ (List.getElem_mem hk)) (fun z hz=>?_) fV).1,bA hy];obtain⟨j,hj,rfl⟩:=List.getElem_of_mem hz;rw[bp]at hj;rw[List.getElem_take];exact List.pairwise_iff_getElem.1 hs j k ae hk ae
theorem iO{s:ak}(h:cS s=true):1<=s.size/\s.size<=8:=by
 unfold cS dh at h;simp at h;exact⟨h.1,h.2.1⟩
theorem eJ{x:Nm}(h:bW x=true):cS x.name=true/\(cS x.iQ=true\/x.iQ=⟨#[]⟩)/\ -1<=x.b9/\x.b9<=3:=by
 unfold bW at h;simp only[aW,Bool.or_eq_true,decide_eq_true_eq]at h;refine⟨h.1,?_,h.2.1,h.2.2.1⟩;rcases h.2.2.2 with h1|h1
 ·exact .inl h1
 ·have :=h1.1;rw[tV]at this;exact .inr (of_decide_eq_true this)
theorem mT{x:Nm}(h:bW x=true):x.name.size<=8/\x.iQ.size<=8:=by
 obtain⟨h1,h2,_⟩:=eJ h;refine⟨(iO h1).2,?_⟩;rcases h2 with h2|h2
 ·exact(iO h2).2
 ·rw[h2];decide
def jD (s:ak):ak:=if s=⟨#[]⟩then bV 45 else s
def jK (x:Nm):ak:=⟨#[110,58]⟩++x.name++⟨#[32]⟩++jD x.iQ++⟨#[32]⟩++bH x.b9
def c_:ak:=⟨#[100,101,97,100]⟩
theorem C6(x:Nm):jK x=bV 110++bV 58++(x.name++bV 32++(jD x.iQ++bV 32++bH x.b9)):=by
 unfold jK;rw[show(⟨#[110,58]⟩:ak)=bV 110++bV 58 by decide];rw[show(⟨#[32]⟩:ak)=bV 32 from rfl];simp only[ByteArray.append_assoc]
theorem dH{c d:UInt8}(h:d≠c):n_ c (bV d):=fun b hb=>by
 simp[bV]at hb;subst hb;exact h
theorem rn(x:Nm):cQ 58 (jK x)=(bV 110,x.name++bV 32++(jD x.iQ++bV 32++bH x.b9),true):=by
 rw[C6,cutB_hit (dH ai)]
theorem w9{x:Nm}(h:bW x=true):eX 1 (jK x):=by
 obtain⟨h1,h2⟩:=mT h;obtain⟨_,_,h5,h6⟩:=eJ h;have h3:=bJ (n:=x.b9) ⟨by omega,by omega⟩;have h4:(jD x.iQ).size<=8:=by
  unfold jD;split
  ·decide
  ·omega
 have e1:(⟨#[110,58]⟩:ak).size=2:=rfl;have e2:(⟨#[32]⟩:ak).size=1:=rfl;refine⟨?_,fun hk=>?_,fun hk=>?_⟩
 ·unfold jK;simp only[aB];omega
 ·rw[rn]at hk;exact absurd (show bV 110=bV 117 from hk) ai
 ·rw[rn]at hk;exact absurd (show bV 110=bV 114 from hk) ai
def fC (H:Ho) (x:Nm):Int:=if cu H.names x≠0 then cu H.names x else if x.name=c_ then 5 else 0
def jL (H:Ho) (D:Dk) (x:Nm):Int:=if fC H x≠0 then fC H x else ep H D
def gL (H:Ho) (D:Dk) (x:Nm):Ho:=if fC H x≠0 then H else oU H D (jK x)
def jb (H:Ho) (D:Dk) (x:Nm):Dk:=if fC H x≠0 then D else ig H D (jK x)
namespace Ho
def uR (H:Ho) (j:Nat):Qu:=H.all.getD j default
def eI (H:Ho) (j:Nat) (q:Qu):Ho:=if j<4 then H.iS j q else H.ft (j-4) q
end Ho
section
variable {n:Nat} {H:Ho} {q:Qu} {i j:Nat}
theorem qL(j:Nat)(q:Qu):(H.eI j q).names=H.names:=by unfold Ho.eI;split<;>rfl
theorem wT(j:Nat)(q:Qu):(H.eI j q).aE.map (·.1)=H.aE.map (·.1):=by
 unfold Ho.eI;split
 ·rfl
 ·exact ki _ _
theorem zu(j:Nat)(q:Qu):(H.eI j q).aE.length=H.aE.length:=by
 have :=congrArg List.length (wT (H:=H) j q);simpa using this
theorem iT(j:Nat)(q:Qu):(H.eI j q).az=H.az:=by unfold Ho.eI;split<;>rfl
theorem qM(j:Nat)(q:Qu):(H.eI j q).batch=H.batch:=by unfold Ho.eI;split<;>rfl
theorem AN(j:Nat)(q:Qu):(H.eI j q).id=H.id:=by unfold Ho.eI;split<;>rfl
theorem pJ(j:Nat)(q:Qu):(H.eI j q).used=H.used:=by unfold Ho.eI;split<;>rfl
theorem I1(j:Nat)(q:Qu):(H.eI j q).down=H.down:=by unfold Ho.eI;split<;>rfl
theorem I0(j:Nat)(q:Qu):(H.eI j q).c6=H.c6:=by unfold Ho.eI;split<;>rfl
theorem s5(j:Nat)(q:Qu):(H.eI j q).bU=H.bU:=by unfold Ho.eI;split<;>rfl
theorem nU(j:Nat)(q:Qu):(H.eI j q).aF=H.aF:=by unfold Ho.eI;split<;>rfl
theorem IZ(j:Nat)(q:Qu):(H.eI j q).ways.length=H.ways.length:=by unfold Ho.eI;split<;>simp[Ho.iS,Ho.ft]
theorem Ei(h4:H.ways.length=4)(j:Nat)(q:Qu):(H.eI j q).all=H.all.set j q:=by
 unfold Ho.eI;split
 ·exact nB ae q
 ·rw[lU h4,show 4+(j-4)=j by omega]
theorem Ej(hj:j<H.all.length):H.all[j]? =some (H.uR j):=by
 unfold Ho.uR;rw[aq,ao hj];rfl
theorem aaH(h4:H.ways.length=4)(hj:j<4):H.uR j=H.hF j:=by
 have h1:=qH h4 hj;have h2:H.all[j]? =some (H.uR j):=Ej (by rw[ox h4];omega);rw[h1]at h2;exact(Option.some.inj h2).symm
theorem cE.a(h:cE n H)(hj:j<H.all.length):QB n (H.uR j):=h.qs _ (ax (Ej hj))
theorem cE.eI(h:cE n H)(hq:QB n q)(j:Nat):cE n (H.eI j q):=by
 unfold Ho.eI;split
 ·exact h.iS hq uT
 ·exact h.ft hq _
end
theorem KQ.Pt{P:Program}{fn:Func}{R:Ending->World->Prop}{n:Nat}{w0:World}{G:Env}{L:List HP}{v1 v2 v3 v4:Value}{t1 t2 t3 t4:Nat}(hr:fn.results=#[.tmp t1,.tmp t2,.tmp t3,.tmp t4])(h1:cF G t1=some v1)(h2:cF G t2=some v2)(h3:cF G t3=some v3)(h4:cF G t4=some v4)(h:∀w,St w0 L w->R (.returned (.tuple #[v1,v2,v3,v4])) w):KQ (bodyPost P fn R) .ret n [] w0 G L:=
 KQ.fin (fun a w ha _=>by simp[results,hr,Array.getD_eq_getD_getElem?,ha.get _ _ h1,ha.get _ _ h2,ha.get _ _ h3,ha.get _ _ h4]) h
def kE (H:Ho) (s:ak):ak×Int×Int:=
 if(fe H.names (H.names.length+1) s).2.2≠0 then(⟨#[]⟩,0,(fe H.names (H.names.length+1) s).2.2)
 else if(fe H.names (H.names.length+1) s).2.1<0\/(fe H.names (H.names.length+1) s).2.1=H.id then
  if dO H.names (fe H.names (H.names.length+1) s).1=false then(⟨#[]⟩,0,7)else((fe H.names (H.names.length+1) s).1,-1,0)
 else((fe H.names (H.names.length+1) s).1,(fe H.names (H.names.length+1) s).2.1,0)
def lI (H:Ho) (s:ak):Nat:=if(kE H s).2.1<0 then 4+(H.qI (kE H s).1).getD 0 else(kE H s).2.1.toNat
theorem w6{l:List Nm}:∀{n:Nat} {s t:ak} {k:Int},fe l n s=(t,k,0)->k= -1\/∃x∈l,x.b9=k/\0<=k
 |0,s,t,k,h=>by simp[fe]at h
 |n+1,s,t,k,h=>by
  rw[fe]at h;split at h
  ·simp at h
  ·rename_i x hx;split at h
   ·simp at h;exact .inl h.2.symm
   ·split at h
    ·rename_i h2;simp at h;refine .inr ⟨x,?_,h.2,h.2▸h2⟩;unfold look at hx;split at hx
     ·rename_i h3;simp only[ay]at hx;subst hx;unfold dU;have :=tH h3;rw[aq,ao this];exact List.getElem_mem this
     ·cases hx
    ·exact w6 h
theorem H9{n:Nat}{H:Ho}(hB:cE n H){s:ak}(h:dO H.names s=true):∃i,H.qI s=some i:=by
 unfold dO at h;cases hl:look H.names s with
 |none=>rw[hl]at h;cases h
 |some x=>
  rw[hl]at h;rw[jd hB.sorted]at hl;obtain⟨h1,h2⟩:=pQ hl;obtain⟨i,hi⟩:=hB.loc x h1 (by simp only[tV]at h;exact of_decide_eq_true h);exact⟨i,by rw[<-h2];exact hi⟩
theorem xe{n:Nat}{H:Ho}(hB:cE n H){s:ak}(h:(kE H s).2.2=0):lI H s<H.all.length/\((kE H s).2.1<0->(kE H s).2.1= -1/\∃i,H.qI (kE H s).1=some i/\lI H s=4+i)/\(¬(kE H s).2.1<0->lI H s<4/\(kE H s).2.1=((lI H s:Nat):Int)):=by
 rw[ox hB.ways];unfold lI;unfold kE at h ⊢;split
 ·rename_i h1;rw[if_pos h1]at h;exact absurd h h1
 ·rename_i h1;rw[if_neg h1]at h;have KU:(fe H.names (H.names.length+1) s).2.2=0:=by simpa using h1
  generalize hr:fe H.names (H.names.length+1) s=r at *;obtain⟨t,k,e⟩:=r;dsimp only at h KU ⊢;subst KU;split
  ·rename_i h2;rw[if_pos h2]at h;split
   ·rename_i h3;rw[if_pos h3]at h;cases h
   ·rename_i h3;obtain⟨i,hi⟩:=H9 hB (s:=t) (by simpa using h3);have :=(i_ hi).1;dsimp only;rw[if_pos ai];refine⟨by rw[hi];simp;omega,fun _=>⟨rfl,i,hi,by rw[hi];rfl⟩,fun h=>absurd ai h⟩
  ·rename_i h2;dsimp only;have h3:¬k<0:=fun h=>h2 (.inl h)
   rw[if_neg h3];rcases w6 hr with h4|⟨x,hx,hk,h0⟩
   ·omega
   ·obtain⟨-,-,-,h5⟩:=eJ (hB.right x hx);exact⟨by omega,fun h=>absurd h h3,fun _=>⟨by omega,by omega⟩⟩
theorem PT{l:List Nm}{s:ak}{x:Nm}(h:look l s=some x):x∈l/\x.name=s:=by
 unfold look at h;split at h
 ·rename_i h3;simp only[ay]at h;subst h;have :=tH h3;refine⟨?_,?_⟩
  ·unfold dU;rw[aq,ao this];exact List.getElem_mem this
  ·unfold eW at h3;rw[aW]at h3;exact sC (by simpa using h3.2)
 ·cases h
theorem zw{l:List Nm}(hr:∀x∈l,bW x=true):∀{n:Nat} {s t:ak} {k:Int},fe l n s=(t,k,0)->cS t=true
 |0,s,t,k,h=>by simp[fe]at h
 |n+1,s,t,k,h=>by
  rw[fe]at h;split at h
  ·simp at h
  ·rename_i x hx;obtain⟨h1,h2⟩:=PT hx;obtain⟨w1,w2,-,-⟩:=eJ (hr x h1);split at h
   ·simp at h;rw[<-h.1,<-h2];exact w1
   ·rename_i he;split at h
    ·simp at h;rw[<-h.1];rcases w2 with w2|w2
     ·exact w2
     ·exact absurd (by rw[tV,w2];rfl) he
    ·exact zw hr h
theorem L9{n:Nat}{H:Ho}(hB:cE n H){s:ak}(h:(kE H s).2.2=0):cS (kE H s).1=true:=by
 unfold kE at h ⊢;split
 ·rename_i h1;rw[if_pos h1]at h;exact absurd h h1
 ·rename_i h1;rw[if_neg h1]at h;have KU:(fe H.names (H.names.length+1) s).2.2=0:=by simpa using h1
  generalize hr:fe H.names (H.names.length+1) s=r at *;obtain⟨t,k,e⟩:=r;dsimp only at h KU ⊢;subst KU;have :=zw hB.right hr;split
  ·rename_i h2;rw[if_pos h2]at h;split
   ·rename_i h3;rw[if_pos h3]at h;cases h
   ·exact this
  ·exact this
def fk (H:Ho) (s:ak) (pri:Int) (body:ak):Ms:=⟨H.next *4+H.id,pri,body,(kE H s).1,if(kE H s).2.1<0 then H.id else(kE H s).2.1⟩
def ic (H:Ho) (u:Int) (s:ak) (pri:Int) (body:ak):Int:=
 if u<0\/5<=u then 2 else if(pri<0\/9<pri)\/jN body=false then 1 else if(kE H s).2.2≠0 then(kE H s).2.2 else if H.down=true then 6
 else jr (H.uR (lI H s)) (fk H s pri body)
def dc (H:Ho) (u:Nat) (x:rL):Ho:={H with az:=H.az.set u x}
def jt (H:Ho) (u:Int) (s:ak) (pri:Int) (body:ak):Ho:=
 if ic H u s pri body=0 then
  dc {H.eI (lI H s) (nY (H.uR (lI H s)) (fk H s pri body) u)with next:=H.next+1} u.toNat ⟨(H.iJ u.toNat).aU++[(fk H s pri body,(kE H s).2.1)],(H.iJ u.toNat).bj⟩
 else H
def u4 (H:Ho) (u:Int) (s:ak) (pri:Int) (body:ak):Int:=if ic H u s pri body=0 then(fk H s pri body).id else 0
def gm (H:Ho) (u:Int) (s:ak):Int:=
 if u<0\/5<=u then 2 else match H.qI s with
 |none=>7
 |some i=>if s≠c_/\dO H.names s=false then 7 else if H.down=true then 6 else lH (H.dX i)
def getM (H:Ho) (u:Int) (s:ak):Ms:=if gm H u s=0 then lG (H.dX ((H.qI s).getD 0))else mm
def iE (H:Ho) (u:Int) (s:ak):Ho:=
 if gm H u s=0 then dc (H.ft ((H.qI s).getD 0) (mW (H.dX ((H.qI s).getD 0)) u)) u.toNat ⟨(H.iJ u.toNat).aU,(H.iJ u.toNat).bj++[((lG (H.dX ((H.qI s).getD 0))).id,s)]⟩else H
theorem cE.dc{n:Nat}{H:Ho}(h:cE n H)(u:Nat)(x:rL):cE n (dc H u x):=⟨h.id,h.used,h.next,h.sorted,h.kr,h.mV,h.qs,h.nodup,h.ways,by simp[WB.dc,h.az],h.batch,h.bU,h.aF,h.right,h.loc,h.ext⟩
theorem cE.put{n:Nat}{H:Ho}(h:cE n H)(u:Int)(s:ak)(pri:Int)(body:ak):cE (n+1) (jt H u s pri body):=by
 unfold jt;split
 ·rename_i h0;unfold ic at h0;split at h0
  ·cases h0
  ·split at h0
   ·cases h0
   ·split at h0
    ·exact absurd h0 uT
    ·rename_i h1;split at h0
     ·cases h0
     ·have hj:=(xe h (s:=s) WK).1;have hn:H.next+1<=274877906945:=by
       unfold jr at h0;cases hr:bG (fk H s pri body)with
       |false=>rw[if_pos hr]at h0;cases h0
       |true=>
        have h2:=(bP hr).2.1;have :=h.id;unfold fk at h2;dsimp only at h2;omega
      have hx:=h.next
      exact cE.dc (((h.le (Nat.le_succ n)).eI ((h.a hj).put _ u) _).PJ ⟨by omega,hn⟩) _ _
 ·exact h.le (Nat.le_succ n)
theorem cE.get{n:Nat}{H:Ho}(h:cE n H)(u:Int)(s:ak):cE n (iE H u s):=by
 unfold iE;split
 ·rename_i h0;unfold gm at h0;split at h0
  ·cases h0
  ·cases hq:H.qI s with
   |none=>rw[hq]at h0;cases h0
   |some i=>exact cE.dc (h.ft ((h.qa (i_ hq).1).get u) _) _ _
 ·exact h
open Go Go.RowKit Go.ChangeMaps Go.MapKept
section
variable {κ:Type}
structure itB (kv:κ->Value) (es:Array MapEntry) (gY:Nat) (seen:Array Nat) (m left:List (κ×Value)) (cur:Option (κ×Value)):Prop where
 esb:esB kv es.toList gY m
 left:((leftOf es seen).toList.map fun e=>(e.key,e.val))=left.map fun x=>(kv x.1,x.2)
 cur:∀x,cur=some x->∃e∈es.toList,e.key=kv x.1/\e.val=x.2/\∃s:Array Nat,seen=s.push e.born
def EX (kv:κ->Value) (b r:Nat) (m left:List (κ×Value)) (cur:Option (κ×Value)):HP:=
 ex fun es:Array MapEntry=>ex fun gY:Nat=>ex fun seen:Array Nat=>sep (CP (itB kv es gY seen m left cur)) (sep (bD b (.map es gY)) (bD r (.mapIter (some b) gY seen gY)))
variable {kv:κ->Value} {w0 w:World} {L:List HP} {P:Program} {b r:Nat} {m left:List (κ×Value)} {cur:Option (κ×Value)}
theorem xD(h:St w0 (EX kv b r m left cur::L) w):∃es gY seen,itB kv es gY seen m left cur/\St w0 (bD b (.map es gY)::bD r (.mapIter (some b) gY seen gY)::L) w:=by
 obtain⟨es,h⟩:=h.B9;obtain⟨gY,h⟩:=h.B9;obtain⟨seen,h⟩:=h.B9;obtain⟨hi,h⟩:=h.split.qQ;exact⟨es,gY,seen,hi,h.split⟩
theorem MH{es:Array MapEntry}{gY:Nat}{seen:Array Nat}(hi:itB kv es gY seen m left cur)(h:St w0 (bD b (.map es gY)::bD r (.mapIter (some b) gY seen gY)::L) w):St w0 (EX kv b r m left cur::L) w:=
 St.Bk es (St.Bk gY (St.Bk seen (St.join (St.u5 hi h.join))))
theorem MI(h:St w0 (EX kv b r m left cur::L) w):St w0 (cD kv b m::L) w:=by
 obtain⟨es,gY,seen,hi,h⟩:=xD h;exact St.Bk es (St.Bk gY (St.join (St.u5 hi.esb (h.pick (.tail .head)).drop)))
theorem FP(es:Array MapEntry):leftOf es #[]=es:=by
 unfold leftOf;rw[Array.filter_eq_self];intro e _;simp
theorem Jt(h:St w0 (cD kv b m::L) w){t k E:TypeId}(ht:P.underlying t=some (.map k E)):
 ∃w',(Instr.range t (.map (some b))).run P w=.ok (.pointer (some ⟨w.heap.size,0,none⟩)) w'/\Ext w w'/\St w0 (EX kv b w.heap.size m m none::L) w':=by
 obtain⟨es,h⟩:=h.B9;obtain⟨gY,h⟩:=h.B9;obtain⟨hr,h⟩:=h.split.qQ;refine⟨_,run_range_map w t k E b es gY ht h.look.2,Ext.alloc w _,MH (es:=es) (gY:=gY) (seen:=#[]) ⟨hr,?_,fun x hx=>by cases hx⟩ (h.alloc (.mapIter (some b) gY #[] gY)).fL⟩;rw[FP];exact hr.Vt
theorem xZ:∀{l:List MapEntry} {i:Nat} {e:MapEntry},(l.map (·.born)).Nodup->l[i]? =some e->l.filter (fun f=> !(f.born==e.born))=l.eraseIdx i
 |[],_,_,_,h=>by simp at h
 |a::l,0,e,hn,h=>by
  simp only[List.getElem?_cons_zero,ay]at h;subst h;rw[aT,bZ]at hn;simp only[fh,BEq.rfl,Bool.not_true,Bool.false_eq_true,if_false,List.eraseIdx_cons_zero];rw[b_];intro f hf;have :f.born≠a.born:=fun e=>hn.1 (aD.2 ⟨f,hf,e⟩)
  simp[this]
 |a::l,i+1,e,hn,h=>by
  simp only[List.getElem?_cons_succ]at h;rw[aT,bZ]at hn;have :a.born≠e.born:=fun ee=>hn.1 (aD.2 ⟨e,ax h,ee.symm⟩)
  simp only[fh,List.eraseIdx_cons_succ];rw[if_pos (by simp[this]),xZ hn.2 h]
theorem MG(h:St w0 (EX kv b r m left cur::L) w)(ty:TypeId):
 (left=[]/\(Instr.next (.pointer (some ⟨r,0,none⟩)) false ty).run P w=.ok (.tuple #[.bool false]) w)\/
 ∃(i:Nat) (x:κ×Value) (w':World),left[i]? =some x/\(Instr.next (.pointer (some ⟨r,0,none⟩)) false ty).run P w=.ok (.tuple #[.bool true,kv x.1,x.2]) w'/\St w0 (EX kv b r m (left.eraseIdx i) (some x)::L) w':=by
 obtain⟨es,gY,seen,hi,h⟩:=xD h;have hb:=h.look.2;have hr:=h.drop.look.2;rcases run_next_at (P:=P) w ty r b gY gY seen es gY hr hb hi.esb.yH (aC _)with⟨h0,UK⟩|⟨e,he,w1,F0,UK⟩
 ·left;refine⟨?_,UK⟩;have :=congrArg List.length hi.left;simp[h0]at this;exact List.eq_nil_of_length_eq_zero this.symm
 ·right;obtain⟨i,U3,hie⟩:=List.getElem_of_mem he;have Xi:(leftOf es seen).toList.length=left.length:=by have :=congrArg List.length hi.left;simpa using this
  have k9:e∈es.toList:=by
   have :=he;unfold leftOf at this;rw[Array.toList_filter]at this;exact(aI.1 this).1
  have hx:∃x,left[i]? =some x/\e.key=kv x.1/\e.val=x.2:=by
   have uK:i<left.length:=by omega
   refine⟨left[i],ao uK,?_⟩;have :=congrArg (fun l=>l[i]?) hi.left;simp only[aH,ao U3,ao uK,Option.map_some,ay,Prod.mk.injEq]at this;rw[hie]at this;exact this
  obtain⟨x,FZ,Dj,hx3⟩:=hx;have kO:St w0 (bD b (.map es gY)::bD r (.mapIter (some b) gY seen gY)::L) w1:=by
   rcases F0 with rfl|rfl
   ·exact h
   ·exact h.drew
  refine⟨i,x,_,FZ,by rw[UK,Dj,hx3],MH (es:=es) (gY:=gY) (seen:=seen.push e.born) ⟨hi.esb,?_,fun y hy=>?_⟩ ?_⟩
  ·have h1:(leftOf es (seen.push e.born)).toList=(leftOf es seen).toList.filter fun f=> !(f.born==e.born):=by
    unfold leftOf;rw[Array.toList_filter,Array.toList_filter,cB];congr 1;funext f;simp only[Array.contains_push,Bool.not_or];exact Bool.and_comm _ _
   have hn:((leftOf es seen).toList.map (·.born)).Nodup:=by
    unfold leftOf;rw[Array.toList_filter];exact(List.filter_sublist.map _).nodup hi.esb.nodup
   rw[h1,xZ hn (i:=i) (by rw[ao U3,hie]),map_eraseIdx,map_eraseIdx,hi.left]
  ·cases hy
   exact⟨e,k9,Dj,hx3,seen,rfl⟩
  ·refine(St.fL (h.fL.upd (w':=setBlock w1 r (.mapIter (some b) gY (seen.push e.born) gY)) ?_ ?_ ?_ ?_ ?_ ?_))
   ·rcases F0 with rfl|rfl<;>rfl
   ·rcases F0 with rfl|rfl<;>rfl
   ·rcases F0 with rfl|rfl<;>rfl
   ·rcases F0 with rfl|rfl<;>simp[setBlock]
   ·have dI:r<w.heap.size:=h.drop.lt;rcases F0 with rfl|rfl<;>simp[setBlock,dI]
   ·intro k hk;rcases F0 with rfl|rfl
    ·simp[setBlock,Array.getElem?_setIfInBounds,Ne.symm hk]
    ·simp[setBlock,Array.getElem?_setIfInBounds,Ne.symm hk];rfl
theorem Ju{x:κ×Value}(h:St w0 (EX kv b r m left (some x)::L) w){w1:World}(he:Ext w w1):
 (Instr.entry (.pointer (some ⟨r,0,none⟩))).run P w1=.ok (.tuple #[kv x.1,x.2]) w1:=by
 obtain⟨es,gY,seen,hi,h⟩:=xD h;obtain⟨e,hm,h1,h2,s,rfl⟩:=hi.cur x rfl;have hb:=h.look.2;have hr:=h.drop.look.2;have jV:w1.heap[b]? =some (.map es gY):=by rw[he.2 b h.lt];exact hb
 have Xc:w1.heap[r]? =some (.mapIter (some b) gY (s.push e.born) gY):=by rw[he.2 r h.drop.lt];exact hr
 rw[run_entry_at w1 r b gY s es gY e Xc jV hm hi.esb.nodup,h1,h2]
end
section
variable {κ:Type} {kv:κ->Value}
variable {P:Program} {ops:Array Oper} {d:Bool} {Q:Exit->Act->World->Prop} {n:Nat} {D:List Deferred} {w0:World} {G:Env} {L R:List HP} {l:List (Kd×Oper)} {k:Kd}
 {t:Nat} {op:Op} {ty T KT E:TypeId} {pos:String} {af:Array Edge} {x y u:Operand} {v z:Value} {b r:Nat} {m left:List (κ×Value)} {cur:Option (κ×Value)} {e:κ×Value}
theorem KO.wvP{ι:Type}(hk:(!d||k== .write)=true){φ:ι->Value->Prop}{N:ι->List HP}(hr:∀a w,ct n D G a->St w0 L w->∃v w' p,(execOp a.eval ⟨some t,op,ty,pos,af,none⟩).run P w=.ok (.value v) w'/\φ p v/\St w0 (N p) w')(ht:Nat.blt t n=true)(h:∀p v,φ p v->KO P ops d Q n D w0 ((t,v)::G) (N p) l):KO P ops d Q n D w0 G L ((k,⟨some t,op,ty,pos,af,none⟩)::l):=fun a w ha hw=>by
 obtain⟨v,w',p,hr,hp,hs⟩:=hr a w ha hw;refine jO hk rfl ?_;unfold Oper.wp;rw[hr];exact h p v hp _ w' (fQ ha _ ht) hs
theorem KO.rng(hk:(!d||(k== .cx||k== .write))=true)(hx:ev G x=some (.map (some b)))(hT:P.underlying T=some (.map KT E))(hp:bC L (cD kv b m) R)(ht:Nat.blt t n=true)(h:∀r,KO P ops d Q n D w0 ((t,.pointer (some ⟨r,0,none⟩))::G) (EX kv b r m m none::R) l):KO P ops d Q n D w0 G L ((k,⟨some t,.range T x,ty,pos,af,none⟩)::l):=
 KO.pS hk (F:=fun bb=>.pointer (some ⟨bb,0,none⟩)) (N:=fun r=>EX kv b r m m none::R) (fun a w ha hw=>by
  obtain⟨w',h1,h2,h3⟩:=Jt (P:=P) (hw.pick hp) hT
  exact⟨w.heap.size,w',by simp[execOp,ha.eval hx,h1],h2,h3⟩) ht h
theorem KO.PJ(hk:(!d||k== .write)=true)(hx:ev G x=some (.pointer (some ⟨r,0,none⟩)))(hp:bC L (EX kv b r m left cur) R)(ht:Nat.blt t n=true)(h0:left=[]->KO P ops d Q n D w0 ((t,.tuple #[.bool false])::G) (cD kv b m::R) l)(h1:∀(i:Nat) (e:κ×Value),left[i]? =some e->KO P ops d Q n D w0 ((t,.tuple #[.bool true,kv e.1,e.2])::G) (EX kv b r m (left.eraseIdx i) (some e)::R) l):
 KO P ops d Q n D w0 G L ((k,⟨some t,.next x false,ty,pos,af,none⟩)::l):=
 KO.wvP (ι:=Option (Nat×(κ×Value))) hk (φ:=fun p v=>match p with|none=>left=[]/\v=.tuple #[.bool false]|some (i,e)=>left[i]? =some e/\v=.tuple #[.bool true,kv e.1,e.2])
  (N:=fun p=>match p with|none=>cD kv b m::R|some (i,e)=>EX kv b r m (left.eraseIdx i) (some e)::R) (fun a w ha hw=>by
   rcases MG (P:=P) (hw.pick hp) ty with⟨g0,g1⟩|⟨i,e,w',g0,g1,g2⟩
   ·exact⟨_,w,none,by simp[execOp,ha.eval hx,g1],⟨g0,rfl⟩,MI (hw.pick hp)⟩
   ·exact⟨_,w',some (i,e),by simp[execOp,ha.eval hx,g1],⟨g0,rfl⟩,g2⟩) ht
  (fun p v Dr=>by
   match p,Dr with
   |none,⟨g0,g1⟩=>subst g1;exact h0 g0
   |some (i,e),⟨g0,g1⟩=>subst g1;exact h1 i e g0)
theorem KO.JW(hk:(!d||k != .pure)=true)(hx:ev G x=some (.pointer (some ⟨r,0,none⟩)))(hp:bC L (EX kv b r m left (some e)) R)(ht:Nat.blt t n=true)(h:KO P ops d Q n D w0 ((t,.tuple #[kv e.1,e.2])::G) L l):KO P ops d Q n D w0 G L ((k,⟨some t,.entry x,ty,pos,af,none⟩)::l):=
 KO.rd hk (fun a w w' ha hw he=>by
  have :=Ju (P:=P) (hw.pick hp) he
  simp[execOp,ha.eval hx,this]) ht h
end
theorem KO.VI{P:Program}{ops:Array Oper}{d:Bool}{Q:Exit->Act->World->Prop}{n:Nat}{D:List Deferred}{w0:World}{G:Env}{L:List HP}{l:List (Kd×Oper)}{k:Kd}{t:Nat}{ty T:TypeId}{pos:String}{af:Array Edge}{x:Operand}{ad:Addr}{len sz:Nat}(hx:ev G x=some (.pointer (some ad)))(hT:P.underlying T=some (.array (P.arrayLen T) (P.elem T)))(hl:P.arrayLen T=len+1)(hs:∀w,(Go.sizeOf (P.elem T)).run P w=.ok sz w)(ht:Nat.blt t n=true)(h:KO P ops d Q n D w0 ((t,.slice (some (ad.add 0)) (len+1) (len+1))::G) L l):KO P ops d Q n D w0 G L ((k,⟨some t,.slice T x none none none,ty,pos,af,none⟩)::l):=
 KO.val (fun a w ha=>by
  have :=run_sliceAt_array_all (P:=P) w T ad hT;rw[hs w]at this
  simp[execOp,ha.eval hx,this,slicedAt,hl]) ht h
theorem KO.Sf{P:Program}{ops:Array Oper}{d:Bool}{Q:Exit->Act->World->Prop}{n:Nat}{D:List Deferred}{w0:World}{G:Env}{L R:List HP}{l:List (Kd×Oper)}{k:Kd}{ty T E:TypeId}{pos:String}{af:Array Edge}{x y:Operand}{v:Value}{off b:Nat}{ad:Addr}{cs vp us:List Value}(hk:(!d||k== .write)=true)(hx:ev G x=some (.pointer (some ad)))(ha:ad=⟨b,off,none⟩)(hy:ev G y=some v)(hv:v.cells=us.toArray)(hn:∀w,(Go.sizeOf T).run P w=.ok us.length w)(h1:us.all Value.oneCell'=true)(hp:bC L (bD b (.cells cs.toArray E (0,0))) R)(nj:off+us.length<=cs.length)(hc:nZ off us cs=vp)(h:KO P ops d Q n D w0 G (bD b (.cells vp.toArray E (0,0))::R) l):
  KO P ops d Q n D w0 G L ((k,⟨none,.store T x y,ty,pos,af,none⟩)::l):=by
 subst ha;exact KO.Pd hk hx hy hv hn h1 hp (by simpa[Nat.ble_eq]using nj) hc h
def cY (H:Ho) (u:Int):Ho:={H with ways:=H.ways.map (fun q=>fp q u true),aE:=H.aE.map (fun x=>(x.1,fp x.2 u true))}
theorem tP(H:Ho)(u:Int):(cY H u).all=H.all.map fun q=>fp q u true:=by
 unfold cY Ho.all;simp
def jB (u:Int) (l:List Qu) (js:List Nat):List Qu:=js.foldl (fun l j=>l.set j (fp (l.getD j default) u true)) l
theorem tT(u:Int):∀(js:List Nat) (l:List Qu),(jB u l js).length=l.length
 |[],_=>rfl
 |j::js,l=>by
  have :=tT u js (l.set j (fp (l.getD j default) u true));rw[List.length_set]at this;exact this
theorem Am(u:Int):∀(js:List Nat) (l:List Qu) (i:Nat),js.Nodup->(jB u l js)[i]? =if i∈js then(l[i]?).map (fun q=>fp q u true)else l[i]?
 |[],l,i,_=>by simp[jB]
 |j::js,l,i,h=>by
  rw[bZ]at h;have ih:=Am u js (l.set j (fp (l.getD j default) u true)) i h.2;rw[show jB u l (j::js)=jB u (l.set j (fp (l.getD j default) u true)) js from rfl,ih];by_cases e:j=i
  ·subst e;rw[if_neg h.1,if_pos aj,List.getElem?_set,if_pos rfl];split
   ·rename_i hj;rw[aq,ao hj];rfl
   ·rename_i hj;rw[cG ae];rfl
  ·rw[List.getElem?_set,if_neg e];simp only[aJ,Ne.symm e,false_or]
theorem Al(u:Int){js:List Nat}{l:List Qu}(h:js.Perm (List.range l.length)):jB u l js=l.map fun q=>fp q u true:=by
 apply List.ext_getElem?;intro i;rw[Am u js l i (h.nodup_iff.2 List.nodup_range),aH];split
 ·rfl
 ·rename_i hi;rw[h.mem_iff,bz]at hi;rw[cG ae];rfl
theorem x6{n:Nat}(u:Int):∀(js:List Nat) (l:List Qu),(∀q∈l,QB n q)->∀q∈jB u l js,QB n q
 |[],_,h,q,hq=>h q hq
 |j::js,l,h,q,hq=>x6 u js (l.set j (fp (l.getD j default) u true)) (fun q hq=>by
  rcases br hq with h1|rfl
  ·exact h q h1
  ·rcases Nat.lt_or_ge j l.length with hj|hj
   ·rw[aq,ao hj];exact(h _ (List.getElem_mem hj)).ends u true
   ·rw[List.set_eq_of_length_le hj]at hq
    exact h _ hq) q hq
theorem x5{u:Int}{l:List Qu}{js:List Nat}{k j:Nat}(hj:js[k]? =some j):jB u l (js.take (k+1))=(jB u l (js.take k)).set j (fp ((jB u l (js.take k)).getD j default) u true):=by
 rw[bA hj];unfold jB;rw[List.foldl_append];rfl
theorem cE.cY{n:Nat}{H:Ho}(h:cE n H)(u:Int):cE n (cY H u):=by
 have hf:(WB.cY H u).aE.map (·.1)=H.aE.map (·.1):=by unfold WB.cY;simp
 have hq:∀s,(WB.cY H u).qI s=H.qI s:=fun s=>by rw[o5,o5,hf]
 refine⟨h.id,h.used,h.next,h.sorted,h.kr,by unfold WB.cY;simpa using h.mV,fun q hq=>?_,by rw[hf];exact h.nodup,by unfold WB.cY;simpa using h.ways,h.az,h.batch,h.bU,h.aF,h.right,fun x hx ht=>by(rw[hq];exact h.loc x hx ht),h.ext⟩;rw[tP]at hq;obtain⟨q0,h0,rfl⟩:=aD.1 hq;exact(h.qs q0 h0).ends u true
def dt:rL:=⟨[],[]⟩
def wq (H:Ho) (u:Int):Int:=if u<0\/5<=u then 2 else if(H.iJ u.toNat).aU.length+(H.iJ u.toNat).bj.length=0 then 8 else if H.down=true then 6 else 0
def uQ (H:Ho) (u:Int):Ho:=if wq H u=0 then dc (cY H u) u.toNat dt else H
theorem cE.bk{n:Nat}{H:Ho}(h:cE n H)(u:Int):cE n (uQ H u):=by
 unfold uQ;split
 ·exact(h.cY u).dc _ _
 ·exact h
def gX (g:Int×ak):ak:=bH g.1++sp++g.2
def o4 (x:rL):ak:=bL (x.aU.map (·.1))++bV 47++cJ (x.bj.map gX) plus
def oK (x:rL):ak:=⟨#[117,58]⟩++bL (x.aU.map (·.1))++bV 47++cJ (x.bj.map gX) plus
def kC (H:Ho) (u:Int):Int:=if u<0\/5<=u then 2 else if(H.iJ u.toNat).aU.length+(H.iJ u.toNat).bj.length=0 then 8 else 0
def vq (H:Ho) (D:Dk) (u:Int):Int:=if kC H u≠0 then kC H u else ep H D
def p5 (H:Ho) (D:Dk) (u:Int):Ho:=if kC H u≠0 then H else if ep H D≠0 then dY H D else(fq (dc (cY (dY H D) u) u.toNat dt) (o4 (H.iJ u.toNat))).1
def t_ (H:Ho) (D:Dk) (u:Int):Dk:=if kC H u≠0 then D else ig H D (oK (H.iJ u.toNat))
structure ga (x:rL):Prop where
 aU:∀p∈x.aU,bG p.1=true
 bj:∀g∈x.bj,0<=g.1/\g.1<=1099511627776/\cS g.2=true
 many:x.aU.length+x.bj.length<=700
section
variable {x:rL}
theorem ga.bad(h:ga x):iX (x.aU.map (·.1))=none:=Ay fun j m hm=>by
 obtain⟨p,hp,rfl⟩:=aD.1 (ax hm);exact h.aU p hp
theorem Aa{g:Int×ak}(h:0<=g.1/\g.1<=1099511627776/\cS g.2=true):(gX g).size<=30:=by
 have h1:=bJ (n:=g.1) ⟨by omega,by omega⟩;have h2:=(iO h.2.2).2;have h3:sp.size=1:=rfl;unfold gX;simp only[aB];omega
theorem ga.ZQ(h:ga x):(cJ (x.bj.map gX) plus).size<=700*31:=by
 have :=eM plus 30 (x.bj.map gX) (fun y hy=>by
  obtain⟨g,hg,rfl⟩:=aD.1 hy
  exact Aa (h.bj g hg))
 have h2:=h.many;have h3:plus.size=1:=rfl;rw[h3,aV]at this;omega
theorem ga.Yp(h:ga x):(bL (x.aU.map (·.1))).size<=700*101:=by
 have :=gE (l:=x.aU.map (·.1)) (fun m hm=>by
  obtain⟨p,hp,rfl⟩:=aD.1 hm
  exact h.aU p hp)
 have h2:=h.many;rw[aV]at this;omega
theorem ga.size(h:ga x):(o4 x).size<=72000:=by
 have h2:=h.many;have h1:(bV 47).size=1:=rfl;have h3:plus.size=1:=rfl
 have a:=eM plus 30 (x.bj.map gX) (fun y hy=>by
  obtain⟨g,hg,rfl⟩:=aD.1 hy
  exact Aa (h.bj g hg))
 have b:=gE (l:=x.aU.map (·.1)) (fun m hm=>by
  obtain⟨p,hp,rfl⟩:=aD.1 hm
  exact h.aU p hp)
 rw[h3,aV]at a;rw[aV]at b;unfold o4;simp only[aB];omega
theorem pN{c:UInt8}(h1:c.toNat≠45/\(c.toNat<48\/57<c.toNat))(h2:isLet c=false)(h3:c≠32/\c≠43){l:List Ms}(h:∀m∈l,bG m=true):n_ c (bL l):=fun b hb=>by
 unfold bL at hb;rcases jc hb with hb|⟨y,hy,hb⟩
 ·simp[plus]at hb;subst hb;exact fun e=>h3.2 e.symm
 ·obtain⟨m,hm,rfl⟩:=aD.1 hy;obtain⟨-,-,-,-,m5,m6,-,-⟩:=bP (h m hm);rw[pO]at hb;have Zc:∀s:ak,gT s=true->b∈s.data.toList->b≠c:=fun s hs hb e=>by
   subst e;unfold gT at hs;rw[aG]at hs;rw[hs b hb]at h2;cases h2
  rcases jc hb with hb|⟨z,hz,hb⟩
  ·simp[sp]at hb;subst hb;exact fun e=>h3.1 e.symm
  ·simp only[aJ,List.not_mem_nil,or_false]at hz;rcases hz with rfl|rfl|rfl|rfl|rfl
   ·exact fE _ h1 b hb
   ·exact fE _ h1 b hb
   ·exact Zc _ (sD m5) hb
   ·exact Zc _ (gF m6) hb
   ·exact fE _ h1 b hb
theorem ga.cut(h:ga x):cQ 47 (o4 x)=(bL (x.aU.map (·.1)),cJ (x.bj.map gX) plus,true):=by
 unfold o4
 exact cutB_hit (pN ai ai ai fun m hm=>by
  obtain⟨p,hp,rfl⟩:=aD.1 hm
  exact h.aU p hp) _
theorem ga.read(h:ga x):qZ (cQ 47 (o4 x)).1=some (x.aU.map (·.1)):=by
 rw[h.cut];exact pP h.bad
theorem vT(x:rL):oK x=bV 117++bV 58++o4 x:=by
 unfold oK o4;rw[show(⟨#[117,58]⟩:ak)=bV 117++bV 58 by decide];simp only[ByteArray.append_assoc]
theorem nz(x:rL):cQ 58 (oK x)=(bV 117,o4 x,true):=by rw[vT];exact cutB_hit (dH ai) _
theorem ga.Yl(h:ga x):eX 700 (oK x):=by
 have h1:=h.size;refine⟨?_,fun _ l hl=>?_,fun hk=>?_⟩
 ·have e1:(bV 117).size=1:=rfl;have e2:(bV 58).size=1:=rfl;rw[vT];simp only[aB];omega
 ·rw[nz,h.read]at hl;simp only[ay]at hl;subst hl;have :=h.many;simp;omega
 ·rw[nz]at hk;exact absurd (show bV 117=bV 114 from hk) ai
end
theorem xu(H:Ho)(D:Dk):(dY H D).az=H.az:=by
 unfold dY;split
 ·rfl
 ·split<;>rfl
theorem cE.cm{n:Nat}{H:Ho}{D:Dk}(h:cE n H)(u:Int)(hu:∀x∈H.az,ga x):cE (n+(H.iJ u.toNat).aU.length) (p5 H D u):=by
 unfold p5;split
 ·exact h.le ae
 ·rename_i h1;split
  ·exact(h.log (D:=D)).le ae
  ·have Qa:u.toNat<5:=by
    unfold kC at h1;rcases Decidable.em (u<0\/5<=u)with h2|h2
    ·rw[if_pos h2]at h1;exact absurd ai h1
    ·omega
   have hx:ga (H.iJ u.toNat):=by
    apply hu;unfold Ho.iJ;rw[aq,ao (by rw[h.az];exact Qa)];exact List.getElem_mem _
   refine(((h.log (D:=D)).cY u).dc _ _).ends (fun l hl=>?_) (fun l hl=>?_) ae
   ·rw[hx.read]at hl;simp only[ay]at hl;subst hl;exact dm hx.bad
   ·rw[hx.read]at hl;simp only[ay]at hl;subst hl;simp
open Go Go.RowKit Go.Sort Go.Shelf Go.Proofs
section
variable {w0 w:World} {L R:List HP} {E:TypeId} {α:Type} [Inhabited α] {cf:α->List Value} {k:Nat} {xs ys:List α} {v:Value} {g n cap:Nat}
theorem Af(hk:∀x,(cf x).length=k)(xs:List α)(j:Nat)(hj:j<xs.length *k):(xs.flatMap cf)[j]? =some (flatK cf k xs.toArray)[j]! :=by
 have vf:0<k:=by rcases Nat.eq_zero_or_pos k with h|h;· subst h;simp at hj
                 ·exact h
 have hd:j/k<xs.length:=(Nat.div_lt_iff_lt_mul vf).2 hj;have hm:j%k<k:=Nat.mod_lt _ vf;rw[get_flatK _ _ _ _ (by simpa using hj)];have :=flat_get cf k hk default xs (j/k) (j%k) hd hm;rw[Nat.div_add_mod']at this;rw[this];have e1:xs.toArray[j/k]! =xs.getD (j/k) default:=by simp[aq,hd]
 rw[e1,ao (by rw[hk];exact hm),List.getElem!_eq_getElem?_getD,ao (by rw[hk];exact hm)];rfl
theorem zU(hk:∀x,(cf x).length=k)(h:St w0 (SL E k cf (.slice (some ⟨g,0,none⟩) n cap) xs::R) w):HoldsK cf k w g 0 xs.toArray:=by
 obtain⟨rfl,h2,_,cur,h4,h5,h6⟩:=g_ h;intro j hj;have Xk:j<xs.length *k:=by simpa using hj
 have hl:=h6.look.2;refine⟨?_,?_⟩
 ·rw[Nat.zero_add,World.cell?,hl];have :=Af (cf:=cf) hk xs j Xk;rw[<-h5,List.getElem?_take,if_pos Xk]at this;simpa using this
 ·rw[World.frozen?,hl];simp
theorem St.grow(h:St w0 L w)(q:Nat)(os:Array Obj):St w0 L (Sort.grow (Sort.ahead w q) os):=h.aA (Lib.below_grow w.heap.size w (aC _) q os)
theorem St.sorted(hk:∀x,(cf x).length=k)(h:St w0 (SL E k cf (.slice (some ⟨g,0,none⟩) n cap) xs::R) w)(hl:ys.length=xs.length)(q:Nat)(os:Array Obj):
 St w0 (SL E k cf (.slice (some ⟨g,0,none⟩) n cap) ys::R) (Sort.grow (putRowK cf k (Sort.ahead w q) g 0 ys.toArray) os):=by
 obtain⟨rfl,h2,h3,cur,h4,h5,h6⟩:=g_ h;have SO:=h6.look.2;have hle:xs.length *k<=cap *k:=Nat.mul_le_mul_right _ h2;have hup:St w0 (bD g (.cells (putCells id 0 (flatK cf k ys.toArray) cur) E (0,0))::R) (putRowK cf k (Sort.ahead w q) g 0 ys.toArray):=by
  refine h6.upd rfl rfl rfl (by simp[putRowK]) ?_ ?_
  ·simp[putRowK,putRow,mapBlock,Array.getElem?_modify,SO,onCells]
  ·intro b hb;simp[putRowK,putRow,mapBlock,Array.getElem?_modify,Ne.symm hb]
 have hs:(putCells id 0 (flatK cf k ys.toArray) cur).size=cap *k:=by simp[putCells,h4]
 have hr:=EU (cf:=cf) (sz:=k) (xs:=ys) hup ae h3 hs ?_
 ·rw[hl]at hr;exact hr.grow 0 os
 ·apply List.ext_getElem?;intro j;rw[List.getElem?_take];by_cases hj:j<ys.length *k
  ·rw[if_pos hj,Af hk ys j hj];have hjc:j<cur.size:=by rw[h4];rw[hl]at hj;omega
   simp[putCells,hjc,hj]
  ·rw[if_neg hj,cG (by rw[tS hk];omega)]
end
section
variable {P:Program} {ρ:Ren} {α:Type} [Inhabited α]
def afp (P:Program) (f:Nat) (cf:α->List Value) (k:Nat) (lt:α->α->Bool) (Bs:Nat):Prop:=
 ∀(W:World) (g n c:Nat) (dk:Array α),dk.size=n->W.cell? ⟨Bs,0,none⟩=some (.slice (some ⟨g,0,none⟩) n c)->HoldsK cf k W g 0 dk->∀i j:Nat,i<n->j<n->
  Calls P f #[.int .i64 i,.int .i64 j,.pointer (some ⟨Bs,0,none⟩)] W fun e w'=>e=.returned (.bool (lt dk[i]! dk[j]!))/\∃q,w'=W.drewN q
end
section
variable {κ:Type} [DecidableEq κ] {kv:κ->Value} {kd:TypeDesc}
variable {P:Program} {ops:Array Oper} {d:Bool} {Q:Exit->Act->World->Prop} {n:Nat} {D:List Deferred} {w0:World} {G:Env} {L R:List HP} {l:List (Kd×Oper)} {k:Kd}
 {ty T KT E:TypeId} {pos:String} {af:Array Edge} {x y u:Operand} {v:Value} {b:Nat} {m:List (κ×Value)}
theorem KO.ins(K:KeyLaw kd kv)(s:κ)(hk:(!d||k== .write)=true)(hx:ev G x=some (.map (some b)))(hy:ev G y=some (kv s))(hu:ev G u=some v)(hT:P.underlying T=some (.map KT E))(hK:P.underlying KT=some kd)(hp:bC L (cD kv b m) R)(h:KO P ops d Q n D w0 G (cD kv b (kj m s v)::R) l):KO P ops d Q n D w0 G L ((k,⟨none,.insert T x y u,ty,pos,af,none⟩)::l):=
 KO.Cg hk (fun a w ha hw=>by
  obtain⟨w',hr,hs⟩:=zD (P:=P) K (hw.pick hp) hT hK s v
  exact⟨w',by simp[execOp,ha.eval hx,ha.eval hy,ha.eval hu,hr],hs⟩) h
end
theorem xW{α β:Type}{f:α->β->HP}{w0 w:World}{L:List HP}{p:α}{x:β}(hf:∀L,St w0 L w->St w0 (f p x::L) w)(n:Nat)(h:St w0 L w):St w0 (ck f (List.replicate n p) (List.replicate n x)::L) w:=by
 refine xV ?_
 induction n with
 |zero=>exact h
 |succ n ih=>exact hf _ ih
def eo (id:Int):Ho:=⟨id,0,false,-1,0,[],[(c_,⟨[],0⟩)],List.replicate 4 ⟨[],0⟩,List.replicate 5 ⟨[],[]⟩,List.replicate 4 [],List.replicate 4 0,List.replicate 4 0⟩
theorem Gk{id:Int}(h:0<=id/\id<4):cE 10 (eo id):=by
 refine⟨h,by simp[eo],by simp[eo],Fp,by simp[eo],by simp[eo],fun q hq=>?_,by simp[eo],rfl,rfl,rfl,rfl,rfl,(fun x hx=>by simp[eo]at hx),(fun x hx=>by simp[eo]at hx),⟨fun l hl=>by simp[eo]at hl;subst hl;simp,fun x hx=>by simp[eo]at hx;subst hx;omega,fun x hx=>by simp[eo]at hx;subst hx;omega⟩⟩;have :q=⟨[],0⟩:=by simp[eo,Ho.all]at hq;exact hq
 subst this;exact QB.nil
structure l4 (H H':Ho):Prop where
 id:H'.id=H.id
 used:H'.used=H.used
 down:H'.down=H.down
 c6:H'.c6=H.c6
 az:H'.az=H.az
 batch:H'.batch=H.batch
 bU:H'.bU=H.bU
 aF:H'.aF=H.aF
theorem l4.refl(H:Ho):l4 H H:=⟨rfl,rfl,rfl,rfl,rfl,rfl,rfl,rfl⟩
theorem l4.trans{A B C:Ho}(h:l4 A B)(g:l4 B C):l4 A C:=⟨g.id.trans h.id,g.used.trans h.used,g.down.trans h.down,g.c6.trans h.c6,g.az.trans h.az,g.batch.trans h.batch,g.bU.trans h.bU,g.aF.trans h.aF⟩
theorem pV(H:Ho)(x:Nm):l4 H (eP H x):=by unfold eP;split<;>exact⟨rfl,rfl,rfl,rfl,rfl,rfl,rfl,rfl⟩
theorem F3{H H1:Ho}{m:Ms}(h:fO H m=some H1):l4 H H1:=by
 unfold fO at h;dsimp only at h;split at h
 ·simp only[ay]at h;subst h;exact⟨rfl,rfl,rfl,rfl,rfl,rfl,rfl,rfl⟩
 ·split at h
  ·cases h
  ·simp only[ay]at h;subst h;exact⟨rfl,rfl,rfl,rfl,rfl,rfl,rfl,rfl⟩
theorem od:∀(l:List Ms) (H:Ho),l4 H (fG H l).1
 |[],H=>.refl H
 |m::l,H=>by
  unfold fG;cases hp:fO H m with
  |none=>exact⟨rfl,rfl,rfl,rfl,rfl,rfl,rfl,rfl⟩
  |some H1=>exact(F3 hp).trans (od l H1)
theorem Ge{H H1:Ho}{s:ak}(h:gQ H s=some H1):l4 H H1:=by
 unfold gQ at h;split at h
 ·cases h
 ·split at h
  ·cases h
  ·split at h
   ·simp only[ay]at h;subst h;exact⟨rfl,rfl,rfl,rfl,rfl,rfl,rfl,rfl⟩
   ·cases h
theorem xK:∀(l:List ak) (H:Ho),l4 H (gP H l).1
 |[],H=>.refl H
 |s::l,H=>by
  unfold gP;cases hp:gQ H s with
  |none=>exact .refl H
  |some H1=>exact(Ge hp).trans (xK l H1)
theorem oi(H:Ho)(s:ak):l4 H (fq H s).1:=by
 unfold fq;split
 ·exact .refl H
 ·split
  ·exact .refl H
  ·rename_i l hl;split
   ·exact od l H
   ·split
    ·exact od l H
    ·exact(od l H).trans (xK _ _)
structure nJ (H H':Ho):Prop where
 id:H'.id=H.id
 used:H'.used=H.used
 down:H'.down=H.down
 c6:H'.c6=H.c6
 az:H'.az=H.az
theorem nJ.refl(H:Ho):nJ H H:=⟨rfl,rfl,rfl,rfl,rfl⟩
theorem nJ.trans{A B C:Ho}(h:nJ A B)(g:nJ B C):nJ A C:=⟨g.id.trans h.id,g.used.trans h.used,g.down.trans h.down,g.c6.trans h.c6,g.az.trans h.az⟩
theorem l4.p{H H':Ho}(h:l4 H H'):nJ H H':=⟨h.id,h.used,h.down,h.c6,h.az⟩
theorem F8(H:Ho)(s:ak):nJ H (gO H s).1:=by
 unfold gO;split
 ·split
  ·exact⟨rfl,rfl,rfl,rfl,rfl⟩
  ·exact .refl H
 ·exact .refl H
theorem DF(H:Ho)(s:ak):nJ H (eQ H s).1:=by
 unfold eQ;split
 ·split
  ·exact⟨rfl,rfl,rfl,rfl,rfl⟩
  ·exact .refl H
 ·exact .refl H
theorem pj:∀(l:List (Ms×ak)) (H:Ho),nJ H (dP H l).1
 |[],H=>.refl H
 |(m,t)::l,H=>by
  unfold dP;split
  ·exact .refl H
  ·rename_i i _;exact nJ.trans (B:=H.ft i (dS (H.dX i) m (-1))) ⟨rfl,rfl,rfl,rfl,rfl⟩ (pj l _)
theorem Gg(H:Ho)(s:ak):nJ H (gR H s).1:=by
 unfold gR;split
 ·rename_i a b c _;split
  ·rename_i k l _ _;split
   ·split
    ·have h1:=pj (l.zip (cH 43 c)) H;exact⟨h1.id,h1.used,h1.down,h1.c6,h1.az⟩
    ·exact pj _ H
   ·exact .refl H
  ·exact .refl H
 ·exact .refl H
theorem fP(H:Ho)(s:ak):nJ H (bO H s).1:=by
 unfold bO;split
 ·split
  ·exact .refl H
  ·exact(pV H _).p
 ·split
  ·exact⟨rfl,rfl,rfl,rfl,rfl⟩
  ·split
   ·exact(oi H _).p
   ·split
    ·exact F8 H _
    ·split
     ·exact DF H _
     ·split
      ·exact Gg H _
      ·exact .refl H
def h_ (D:Dk):Nat->Ho->Ho
 |0,H=>H
 |f+1,H=>match gx (H.used:Nat) (D.places.getD H.used ⟨#[]⟩)with
  |none=>H
  |some s=>if(bO H s).2=false then(bO H s).1 else h_ D f {(bO H s).1 with used:=H.used+1}
def gy (id:Int) (D:Dk):Ho:=h_ D 300 (eo id)
structure Hn (D:Dk):Prop where
 len:D.places.length=300
 left: -4000000000000000000<=D.left/\D.left<=9223372036854775807
 size:∀t∈D.places,t.size<=800000
 mr:∀(k:Nat) t s,D.places[k]? =some t->gx (k:Nat) t=some s->eX 250 s
theorem cE.Sb{n:Nat}{H:Ho}(h:cE n H){k:Nat}(hk:k<=300):cE n {H with used:=k}:=⟨h.id,hk,h.next,h.sorted,h.kr,h.mV,h.qs,h.nodup,h.ways,h.az,h.batch,h.bU,h.aF,h.right,h.loc,h.ext⟩
theorem cE.XN{n:Nat}{H:Ho}(h:cE n H)(k:Int):cE n {H with c6:=k}:=⟨h.id,h.used,h.next,h.sorted,h.kr,h.mV,h.qs,h.nodup,h.ways,h.az,h.batch,h.bU,h.aF,h.right,h.loc,h.ext⟩
theorem CY{D:Dk}(hD:Hn D):∀(f:Nat) (H:Ho),H.used+f<=300->cE (10+250*H.used) H->cE (260+250*(h_ D f H).used) (h_ D f H)
 |0,H,hu,h=>h.le (by simp only[h_];omega)
 |f+1,H,hu,h=>by
  unfold h_;obtain⟨t,ht⟩:∃t,D.places[H.used]? =some t:=⟨_,ao (by rw[hD.len];omega)⟩;have e:D.places.getD H.used ⟨#[]⟩=t:=by rw[aq,ht];rfl
  rw[e];split
  ·exact h.le ae
  ·rename_i s hs;have hr:=hD.mr _ t s ht hs;have h1:=h.HZ hr ae;split
   ·exact h1.le (by rw[(fP H s).used];omega)
   ·have h2:=(h1.Sb (k:=H.used+1) ae).le (k:=10+250*(H.used+1)) ae;exact CY hD f _ ji h2
theorem Mh{id:Int}(h:0<=id/\id<4){D:Dk}(hD:Hn D):cE (260+250*(gy id D).used) (gy id D):=CY hD 300 _ (by simp[eo]) ((Gk h).le ae)
def gN (H:Ho) (s:ak):List Ms:=match H.qI s with
 |some i=>cM (H.dX i)
 |none=>[]
def gh (H:Ho) (s:ak):Int:=match H.qI s with
 |none=>7
 |some _=>if s≠c_/\dO H.names s=false then 7 else 0
def jP (H:Ho) (s:ak):List Ms:=if gh H s=0 then eK (H.dX ((H.qI s).getD 0))else[]
theorem qY(D:Dk):∀(f:Nat) (H:Ho),(h_ D f H).id=H.id/\(h_ D f H).down=H.down/\(h_ D f H).c6=H.c6/\(h_ D f H).az=H.az
 |0,H=>⟨rfl,rfl,rfl,rfl⟩
 |f+1,H=>by
  unfold h_;split
  ·exact⟨rfl,rfl,rfl,rfl⟩
  ·rename_i s hs;have h:=fP H s;split
   ·exact⟨h.id,h.down,h.c6,h.az⟩
   ·obtain⟨a,b,c,d⟩:=qY D f {(bO H s).1 with used:=H.used+1};exact⟨a.trans h.id,b.trans h.down,c.trans h.c6,d.trans h.az⟩
def dZ (xs:List ak):List ak:=((xs.map (·.data.toList)).mergeSort fun x y=>decide (x<=y)).map toB
theorem qK(xs:List ak):(dZ xs).Perm xs:=by
 unfold dZ;refine((List.mergeSort_perm _ _).map toB).trans ?_;rw[List.map_map];have :toB∘(fun x:ak=>x.data.toList)=id:=by funext x;simp[toB]
 rw[this,List.map_id]
section
open Go.Sort Go.Shelf Go.Proofs
variable {w0 w:World} {L R:List HP} {E:TypeId} {xs ys:List ak} {v:Value} {g n cap:Nat}
def VL (l:List UInt8):List Value:=[encStr l]
def Td (s:ak):List Value:=[.string s]
theorem Ow(E:TypeId)(v:Value)(xs:List ak):SL E 1 Td v xs=SL E 1 VL v (xs.map (·.data.toList)):=by
 unfold SL;rw[aV,List.flatMap_map];rfl
theorem Ae(d:Array (List UInt8))(j:Nat)(hj:j<d.size):(flatK VL 1 d)[j]! =encStr d[j]! :=by
 rw[get_flatK _ _ _ _ ae,Nat.div_one,Nat.mod_one];rfl
theorem FC(w:World)(g:Nat)(d:Array (List UInt8)):putRow encStr w g 0 d=putRowK VL 1 w g 0 d:=by
 unfold putRowK putRow;congr 1;funext c;unfold putCells;congr 1;funext k x;have :(flatK VL 1 d).size=d.size:=by simp
 rw[this];by_cases h:0<=k/\k<0+d.size
 ·rw[if_pos h,if_pos h,Nat.sub_zero,Ae d k ae];rfl
 ·rw[if_neg h,if_neg h]
theorem holds_one{d:Array (List UInt8)}(h:HoldsK VL 1 w g 0 d):Holds encStr w g 0 d:=fun j hj=>by
 have :=h j (by simpa using hj);rw[Ae d j hj]at this;exact this
theorem IW{P:Program}{f:FuncId}(h0:∀(p:Option Addr) (cap:Nat) (w:World),Calls P f #[.slice p 0 cap] w fun e w'=>e=.returned (.tuple #[])/\w'=w)(h1:∀(bD off cap:Nat) (ss:List (List UInt8)) (w:World),Holds encStr w bD off ss.toArray->bD<w.heap.size->ss.length<4611686018427387904->
  Calls P f #[.slice (some ⟨bD,off,none⟩) ss.length cap] w fun e w'=>e=.returned (.tuple #[])/\∃n os,w'=Go.Sort.grow (putRow encStr (Go.Sort.ahead w n) bD off (ss.mergeSort fun x y=>decide (x<=y)).toArray) os)(w0:World)(L:List HP)(v:Value)(xs:List ak)(hl:xs.length<1000000):
 KC P f #[v] w0 (SL E 1 Td v xs::L) (fun u M=>u=.tuple #[]/\M=SL E 1 Td v (dZ xs)::L):=fun w hw=>by
 obtain⟨a,cap,rfl,ha⟩:=aN hw;by_cases hz:xs=[]
 ·subst hz;refine(h0 a cap w).mono ?_;rintro e w' ⟨rfl,rfl⟩;exact⟨_,_,rfl,⟨rfl,rfl⟩,by rw[show dZ []=[]by simp[dZ]];exact hw⟩
 ·have hlen:0<xs.length:=List.length_pos_iff.2 hz;obtain⟨g,rfl⟩:=ha hlen;rw[Ow]at hw;have hH:=holds_one (zU (cf:=VL) (fun _=>rfl) hw);obtain⟨-,-,-,cur,-,-,h6⟩:=g_ hw;have dI:=h6.lt;have hc:=h1 g 0 cap (xs.map (·.data.toList)) w hH dI lY
  rw[aV]at hc;refine hc.mono ?_;rintro e w' ⟨rfl,q,os,rfl⟩;refine⟨_,_,rfl,⟨rfl,rfl⟩,?_⟩;rw[FC];have hs:=St.sorted (cf:=VL) (fun _=>rfl) hw (ys:=(xs.map (·.data.toList)).mergeSort fun x y=>decide (x<=y)) aj q os
  rw[Ow];have e:(dZ xs).map (·.data.toList)=(xs.map (·.data.toList)).mergeSort fun x y=>decide (x<=y):=by
   unfold dZ;rw[List.map_map];have :(fun x:ak=>x.data.toList)∘toB=id:=by funext l;simp[toB]
   rw[this,List.map_id]
  rw[e];exact hs
end
end WB
