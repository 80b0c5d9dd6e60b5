import Derived.WalkKit
import Derived.LoopN
import Derived.ChangeMaps5
import Derived.Laws.CopyOwn
import Derived.Lib.Hide
import Derived.Lib.Bytealg
import Derived.Lib.SlTrimSet
import Derived.Test.YtjhogocabcdjbabGreatDoorShelf
import Derived.Shelf.Strings.SlTrimAscii
import Derived.LaidEql
import Derived.Stop.Asserts
import Derived.RowKitTokens
import Derived.Lib.Overlaps
import Derived.Lib.AppendZeros
import Derived.Maps.OwnOps
import Derived.IntWalk
set_option linter.unusedSimpArgs false
set_option linter.unusedVariables false
set_option maxRecDepth 100000
set_option maxHeartbeats 8000000
theorem ao{α:Type}{l:List α}{i:Nat}(h:i<l.length):l[i]? =some l[i]:=List.getElem?_eq_getElem h
theorem aq{α:Type}{l:List α}{i:Nat}{d:α}:l.getD i d=(l[i]?).getD d:=List.getD_eq_getElem?_getD
theorem au{α:Type}{l:List α}{i:Nat}{a:α}:l[i]? =some a↔∃h:i<l.length,l[i]=a:=List.getElem?_eq_some_iff
theorem ax{α:Type}{l:List α}{i:Nat}{a:α}(h:l[i]? =some a):a∈l:=List.mem_of_getElem? h
theorem ay{α β:Type}{b:β}{f:α→β}{l:List α}:b∈l.map f↔∃a,a∈l∧f a=b:=List.mem_map
theorem az{α:Type}(a b:α):(some a=some b)=(a=b):=Option.some.injEq _ _
theorem aA(n:Nat):(n:Int).toNat=n:=Int.toNat_natCast _
theorem aC{α:Type}{p:α→Bool}{l:List α}{x:α}:x∈l.filter p↔x∈l∧p x=true:=List.mem_filter
theorem aD(n:Nat):n≤n:=Nat.le_refl _
theorem aF{α:Type}{b:α}{l:List α}{a:α}:a∈b::l↔a=b∨a∈l:=List.mem_cons
theorem aG{α β:Type}{f:α→β}{l:List α}{i:Nat}:(l.map f)[i]? =(l[i]?).map f:=List.getElem?_map
theorem aH{α:Type}(a b c:List α):a++b++c=a++(b++c):=List.append_assoc _ _ _
theorem aJ{α:Type}{p:α→Bool}{l:List α}:l.all p=true↔∀x,x∈l→p x=true:=List.all_eq_true
theorem aL{α β:Type}{f:α→β}{a:α}{l:List α}:(a::l).map f=f a::l.map f:=List.map_cons
theorem aN{α:Type}{a:α}{s t:List α}:a∈s++t↔a∈s∨a∈t:=List.mem_append
theorem aO{m n:Nat}:m∈List.range n↔m<n:=List.mem_range
theorem aP{α:Type}{a b:List α}:(a++b).length=a.length+b.length:=List.length_append
theorem aR{α β:Type}{x:α}{l:List α}{f:α→List β}:(x::l).flatMap f=f x++l.flatMap f:=List.flatMap_cons
theorem aT{α:Type}{p:α→Bool}{l:List α}:l.filter p=l↔∀a∈l,p a=true:=List.filter_eq_self
theorem aU{a b:ByteArray}:(a++b).size=a.size+b.size:=ByteArray.size_append
theorem aV(n:Nat):0≤n:=Nat.zero_le _
theorem aZ{α β:Type}{f:α→β}{a b:List α}:(a++b).map f=a.map f++b.map f:=List.map_append
theorem a_{α:Type}{l:List α}{i:Nat}{a b:α}(h:a∈l.set i b):a∈l∨a=b:=List.mem_or_eq_of_mem_set h
theorem bf{α:Type}{a b:List α}{i:Nat}(h:a.length≤i):(a++b)[i]? =b[i-a.length]?:=List.getElem?_append_right h
theorem bj{α β:Type}{l:List α}(f:α→β):(l.map f).length=l.length:=List.length_map _
theorem bn(a b:Bool):((a&&b)=true)=(a=true∧b=true):=Bool.and_eq_true _ _
theorem bp{α:Type}{p q:α→Bool}{l:List α}:(l.filter q).filter p=l.filter fun a=>p a&&q a:=List.filter_filter
theorem br{α:Type}{l:List α}{i:Nat}(h:l.length≤i):l[i]? =none:=List.getElem?_eq_none h
theorem bB{α:Type}{p:α→Bool}(a b:List α):(a++b).filter p=a.filter p++b.filter p:=List.filter_append _ _
theorem bC{α:Type}{i:Nat}{l:List α}:(l.drop i).length=l.length-i:=List.length_drop
theorem bE{α:Type}{x:α}{l:List α}{p:α→Bool}:(x::l).filter p=if p x=true then x::l.filter p else l.filter p:=List.filter_cons
theorem bF{α:Type}{a:α}{s t:List α}:a::s++t=a::(s++t):=List.cons_append
theorem bI{α:Type}{a:α}{l:List α}:(a::l).Nodup↔¬a∈l∧l.Nodup:=List.nodup_cons
theorem bL{α:Type}{i:Nat}{l:List α}:(l.take i).length=min i l.length:=List.length_take
theorem bO{α β:Type}{a:α}{l:List α}{f:α→β}(h:a∈l):f a∈l.map f:=List.mem_map_of_mem h
theorem ae{p:Prop}(h:p:=by omega):p:=h
theorem ai{p:Prop}(h:p:=by decide):p:=h
theorem aj{p:Prop}(h:p:=by simp):p:=h
abbrev ak:=ByteArray
section
variable {p q:Prop}
structure ZH (q:Prop):Prop where
 t:q
theorem Y0(h:p:=by(try simp only[l9,List.drop_succ_cons,List.drop_zero,List.drop_nil,bF,List.nil_append,List.length_cons,List.length_nil,Nat.zero_add,Nat.reduceAdd]);(try exact rfl)):p:=h
theorem Y1(h:p:=by with_reducible repeat(first|exact gP.refl|refine gP.cons (by with_reducible repeat(first|exact bQ.head|apply bQ.tail)) ?_|apply gP.drop)):p:=h
theorem Y2(h:p:=by rintro v M ⟨c,h1,rfl⟩;exact⟨_,⟨c,h1,rfl⟩,fun w hw=>((hw.gk (A:=dL p.1 p.2 x.1) (B:=fR p.2 x.2) (.tail .head) (.tail .head)).join).gJ⟩):p:=h
theorem Y3(h:p:=by with_reducible repeat(first|exact gP.refl|refine gP.cons (by with_reducible repeat(first|exact bQ.head|apply bQ.tail)) ?_)):p:=h
theorem Y4(h:p:=by with_reducible repeat(first|exact gP.nil|refine gP.cons (by with_reducible repeat(first|exact bQ.head|apply bQ.tail)) ?_)):p:=h
theorem Y5(h:p:=by repeat(first|exact gP.refl|refine gP.cons (by repeat(first|exact bQ.head|apply bQ.tail)) ?_|apply gP.drop)):p:=h
theorem Y6(h:p:=by simp only[decide_eq_true_eq,decide_eq_false_iff_not,Bool.not_eq_true,Bool.not_true,Bool.not_false,ne_eq];omega):p:=h
theorem Y7(h:p:=by repeat(first|exact gP.refl|refine gP.cons (by repeat(first|exact bQ.head|apply bQ.tail)) ?_)):p:=h
theorem Y8(h:p:=by repeat(first|exact gP.nil|refine gP.cons (by repeat(first|exact bQ.head|apply bQ.tail)) ?_)):p:=h
theorem Y9(h:p:=by(try simp only[List.drop_zero,List.drop_succ_cons,List.take_succ_cons,List.take_zero]);(try exact rfl)):p:=h
theorem Y10(h:p:=by rw[hv,n0,show Nat.min 1 (n+1-k)=1 from Nat.min_eq_left ae,Nat.one_mul]):p:=h
theorem Y11(h:p:=by repeat(first|exact gP.nil|refine gP.cons (by repeat(exact bQ.head)) ?_)):p:=h
theorem Y12(h:p:=by intro x hx;simp at hx;rcases hx with rfl|rfl|rfl|rfl<;>omega):p:=h
theorem Y13(h:p:=by rw[cJ hx];show bY H3=bY _;funext d;unfold bY;rw[h5]):p:=h
theorem bo(h:p:=by with_reducible (repeat(first|exact bQ.head|apply bQ.tail))):p:=h
theorem EL(h:p:=by with_reducible repeat(first|exact vF.refl|apply vF.drop)):p:=h
theorem Y16(h:p:=by show bY H3=bY (C0 k.toNat);funext b;unfold bY;rw[h5]):p:=h
theorem Y17(h:p:=by rintro v M ⟨h1,rfl⟩;exact⟨_,⟨h1,rfl⟩,fun w hw=>hw.join⟩):p:=h
theorem Y18(h:p:=by rw[cJ hx];show bD H3 _=bD _ _;unfold bD;rw[h4]):p:=h
theorem Y19(h:p:=by intro w;simp[sizeOf3,sizeOf4,sizeOf49]):p:=h
theorem Y20(h:p:=by dsimp only[Wo.bU];rw[List.length_set];exact hV):p:=h
theorem Y21(h:p:=by have :=(au.1 hu).1;omega):p:=h
theorem Ru(h:p:=by unfold ix;simp only[Addr.add_lit];(simp;done)):p:=h
theorem Y23(h:p:=by simp only[aU,z6,z7];omega):p:=h
theorem Y24(h:p:=by intro w;simp[sizeOf3,sizeOf120]):p:=h
theorem Y25(h:p:=by intro w;simp[sizeOf3,sizeOf9]):p:=h
theorem bZ(h:p:=by with_reducible (repeat(exact bQ.head))):p:=h
theorem Y27(h:p:=by simp only[aU];omega):p:=h
theorem QE(h:p:=by with_reducible repeat(exact gP.refl)):p:=h
theorem Uy(h:p:=by simp only[Addr.add_lit];(simp;done)):p:=h
theorem Y30(h:p:=by rw[hd];simp[Program.intKind,hd]):p:=h
theorem Y31(h:p:=by rw[KK (by exact h3)];omega):p:=h
theorem YM(h:p:=by rw[List.length_range];omega):p:=h
theorem Y33(h:p:=by rw[bL];omega):p:=h
theorem nI(h:p:=by rw[bj];omega):p:=h
theorem ZN(h:p:=by rw[Lz e0];exact h1):p:=h
theorem Y36(h:p:=by as_aux_lemma=>kernel_rfl):p:=h
theorem Y37(h:p:=by rw[ML];exact ob):p:=h
theorem nH(h:p:=by repeat(exact gP.refl)):p:=h
theorem Bd(h:p:=by rw[Addr.add_lit];simp):p:=h
theorem YL(h:p:=by rw[hB.aB];exact hu):p:=h
theorem Y41(h:p:=by rw[KK h3];omega):p:=h
theorem Rs(h:p:=by rw[rZ hV];omega):p:=h
theorem Y43(h:p:=by rw[<-Q9];exact hint):p:=h
theorem Y44(h:p:=by rw[qQ.batch];omega):p:=h
theorem Y45(h:p:=by rw[hop];exact S3.1):p:=h
theorem Ux(h:p:=by unfold maxLen;omega):p:=h
theorem Y47(h:p:=by exact sizeOf243):p:=h
theorem Y48(h:p:=by exact sizeOf120):p:=h
theorem QD(h:p:=by exact sizeOf256):p:=h
theorem Y50(h:p:=by exact sizeOf160):p:=h
theorem Y51(h:p:=by exact sizeOf161):p:=h
theorem K9(h:p:=by exact sizeOf44):p:=h
theorem Y53(h:p:=by exact sizeOf49):p:=h
theorem Y54(h:p:=by exact sizeOf31):p:=h
theorem Y55(h:p:=by exact sizeOf23):p:=h
theorem Y56(h:p:=by rw[hop];exact IU):p:=h
theorem za(h:p:=by exact sizeOf3):p:=h
theorem ZM(h:p:=by exact sizeOf9):p:=h
theorem iK(h:p:=by dsimp only;omega):p:=h
theorem VC(h:p:=by simp[bT, *]):p:=h
theorem QC(h:p:=by rw[<-p6];rfl):p:=h
theorem Y62(h:p:=by simpa using hl):p:=h
theorem ZL(h:p:=by simpa using h0):p:=h
theorem ZK(h:p:=by simpa using hc):p:=h
theorem Rq(h:p:=by simpa using h2):p:=h
theorem Nn(h:p:=by simpa using h1):p:=h
theorem Y67(h:p:=by simp_all;done):p:=h
theorem JK(h:p:=by rw[hl];simp):p:=h
theorem HV(h:p:=by simpa using h):p:=h
theorem QA(h:p:=by(simp;omega)):p:=h
theorem YK(h:p:=by rw[hk];simp):p:=h
theorem ZJ(h:p:=by rw[hh,mf]):p:=h
theorem Uw(h:p:=by simpa using e):p:=h
theorem Y74(h:p:=by(simp;done)):p:=h
theorem ga(h:p:=by simp;omega):p:=h
theorem bH(h:p:=by kernel_rfl):p:=h
theorem xG(h:p:=by assumption):p:=h
theorem YJ(h:p:=by simp[sq]):p:=h
theorem ZI(h:p:=by simp[Ry]):p:=h
theorem Y80(h:p:=by simp;done):p:=h
theorem yK(h:p:=by simp[hx]):p:=h
theorem aQ(h:p:=by exact rfl):p:=h
theorem EK(h:p:=by simp[h1]):p:=h
theorem Uv(h:p:=by simp[hj]):p:=h
theorem Z0(a:q)(h:ZH q->p:=by intro a;refine KO.nil ?_;(repeat(first|(with_reducible refine K.seq ?_)|(with_reducible refine KQ.next ?_)));exact a.1):p:=h ⟨a⟩
theorem Z1(a:q)(h:ZH q->p:=by intro a;refine KO.mv rfl rfl ?_;exact a.1):p:=h ⟨a⟩
theorem Z2(a:q)(h:ZH q->p:=by intro a;refine KO.nil ?_;(repeat((with_reducible refine KQ.next ?_)));exact a.1):p:=h ⟨a⟩
theorem Z3(a:q)(h:ZH q->p:=by intro a;(repeat((with_reducible refine K.seq ?_)));refine K.M5 ?_;exact a.1):p:=h ⟨a⟩
theorem Z4(a:q)(h:ZH q->p:=by intro a;refine KO.nil ?_;(repeat(first|(with_reducible refine KQ.next ?_)|(with_reducible refine KQ.oE ?_)|(with_reducible refine K.ret ?_)));exact a.1):p:=h ⟨a⟩
theorem Z5(a:q)(h:ZH q->p:=by intro a;refine KO.nil ?_;(repeat(first|(with_reducible refine KQ.next ?_)|(with_reducible refine K.ret ?_)));exact a.1):p:=h ⟨a⟩
theorem Z6(a:q)(h:ZH q->p:=by intro a;(repeat(first|(with_reducible refine K.seq ?_)|(with_reducible refine KQ.next ?_)|(with_reducible refine K.skip ?_)));exact a.1):p:=h ⟨a⟩
theorem Z7(a:q)(h:ZH q->p:=by intro a;refine KO.as rfl rfl ?_;exact a.1):p:=h ⟨a⟩
theorem Z8(a:q)(h:ZH q->p:=by intro a;refine K.M5 ?_;refine Z1 ?_;exact a.1):p:=h ⟨a⟩
theorem Z9(a:q)(h:ZH q->p:=by intro a;(repeat(first|(with_reducible refine K.seq ?_)|(with_reducible refine KQ.next ?_)|(with_reducible refine KQ.jy ?_)|(with_reducible refine KQ.lH ?_)|(with_reducible refine K.exit ?_)));exact a.1):p:=h ⟨a⟩
theorem HU(a:q)(h:ZH q->p:=by intro a;(repeat(first|(with_reducible refine K.seq ?_)|(with_reducible refine KQ.next ?_)|(with_reducible refine K.skip ?_)|(with_reducible refine K.block ?_)));exact a.1):p:=h ⟨a⟩
theorem Z11(a:q)(h:ZH q->p:=by intro a;refine KO.nil ?_;(repeat(first|(with_reducible refine KQ.next ?_)|(with_reducible refine KQ.oE ?_)|(with_reducible refine KQ.y9 ?_)|(with_reducible refine K.ret ?_)));exact a.1):p:=h ⟨a⟩
theorem EJ(a:q)(h:ZH q->p:=by intro a;refine KO.no rfl rfl rfl rfl ?_;refine KO.no rfl rfl rfl rfl ?_;exact a.1):p:=h ⟨a⟩
theorem VB(a:q)(h:ZH q->p:=by intro a;refine KO.nil ?_;(repeat(first|(with_reducible refine KQ.next ?_)|(with_reducible refine KQ.iF ?_)));exact a.1):p:=h ⟨a⟩
theorem K8(a:q)(h:ZH q->p:=by intro a;refine KO.nil ?_;(repeat(first|(with_reducible refine KQ.next ?_)|(with_reducible refine K.block ?_)));exact a.1):p:=h ⟨a⟩
theorem Z15(a:q)(h:ZH q->p:=by intro a;refine KO.Pz rfl aQ rfl ?_;refine KO.Pz rfl aQ rfl ?_;exact a.1):p:=h ⟨a⟩
theorem HQ(a:q)(h:ZH q->p:=by intro a;refine Z1 ?_;refine KO.on rfl rfl rfl ?_;exact a.1):p:=h ⟨a⟩
theorem tL(a:q)(h:ZH q->p:=by intro a;refine KO.ld rfl rfl isAgg3 bZ aQ rfl ?_;exact a.1):p:=h ⟨a⟩
theorem VA(a:q)(h:ZH q->p:=by intro a;refine KO.no rfl rfl Y6 rfl ?_;refine KO.no rfl rfl Y6 rfl ?_;exact a.1):p:=h ⟨a⟩
theorem lL(a:q)(h:ZH q->p:=by intro a;refine KO.on rfl rfl Y6 ?_;exact a.1):p:=h ⟨a⟩
theorem Ul(a:q)(h:ZH q->p:=by intro a;refine KO.nc rfl rfl ?_;refine KO.gd (off:=0) rfl runUnderlying164 rfl rfl sizeOf160 rfl ?_;exact a.1):p:=h ⟨a⟩
theorem Z21(a:q)(h:ZH q->p:=by intro a;(repeat(first|(with_reducible refine KQ.next ?_)|(with_reducible refine KQ.iF ?_)|(with_reducible refine K.skip ?_)));exact a.1):p:=h ⟨a⟩
theorem lK(a:q)(h:ZH q->p:=by intro a;refine Z7 ?_;refine Z0 ?_;exact a.1):p:=h ⟨a⟩
theorem vP(a:q)(h:ZH q->p:=by intro a;refine KO.add rfl rfl rfl ae rfl ?_;exact a.1):p:=h ⟨a⟩
theorem Z24(a:q)(h:ZH q->p:=by intro a;refine KO.nc rfl rfl ?_;refine KO.gd (off:=1) rfl runUnderlying164 rfl rfl sizeOf161 rfl ?_;exact a.1):p:=h ⟨a⟩
theorem Qm(a:q)(h:ZH q->p:=by intro a;refine KO.gd (off:=0) rfl runUnderlying44 rfl rfl sizeOf3 rfl ?_;exact a.1):p:=h ⟨a⟩
theorem mA(a:q)(h:ZH q->p:=by intro a;refine Z1 ?_;refine KO.nc rfl rfl ?_;exact a.1):p:=h ⟨a⟩
theorem rB(a:q)(h:ZH q->p:=by intro a;refine KO.nd rfl rfl rfl rfl ?_;exact a.1):p:=h ⟨a⟩
theorem mS(a:q)(h:ZH q->p:=by intro a;refine lK ?_;refine Z8 ?_;exact a.1):p:=h ⟨a⟩
theorem Yk(a:q)(h:ZH q->p:=by intro a;refine KO.gd (off:=7) rfl runUnderlying133 rfl rfl sizeOf123 rfl ?_;refine KO.dB (i:=7) rfl rfl isAgg123 bZ rfl rfl rfl ?_;exact a.1):p:=h ⟨a⟩
theorem Z30(a:q)(h:ZH q->p:=by intro a;refine KO.mki rfl bH rfl ?_;refine Z7 ?_;exact a.1):p:=h ⟨a⟩
theorem yz(a:q)(h:ZH q->p:=by intro a;refine KO.lss rfl rfl rfl ?_;exact a.1):p:=h ⟨a⟩
theorem A1(a:q)(h:ZH q->p:=by intro a;refine Z1 ?_;refine lL ?_;exact a.1):p:=h ⟨a⟩
theorem vy(a:q)(h:ZH q->p:=by intro a;refine KO.ld rfl rfl isAgg3 bo aQ rfl ?_;exact a.1):p:=h ⟨a⟩
theorem jH(a:q)(h:ZH q->p:=by intro a;refine Z7 ?_;refine Z5 ?_;exact a.1):p:=h ⟨a⟩
theorem nB(a:q)(h:ZH q->p:=by intro a;refine Z1 ?_;refine Z1 ?_;exact a.1):p:=h ⟨a⟩
theorem Qf(a:q)(h:ZH q->p:=by intro a;refine KR.M5 bH (fun a w h=>by exact sG a w h) ?_;exact a.1):p:=h ⟨a⟩
theorem X5(a:q)(h:ZH q->p:=by intro a;refine KO.gd (off:=0) rfl runUnderlying122 rfl rfl sizeOf120 rfl ?_;exact a.1):p:=h ⟨a⟩
theorem ZG(a:q)(h:ZH q->p:=by intro a;refine KO.nil ?_;(repeat(first|(with_reducible refine KR.seq ?_)|(with_reducible refine KQ.uL ?_)));exact a.1):p:=h ⟨a⟩
theorem Qe(a:q)(h:ZH q->p:=by intro a;refine KO.nil ?_;(repeat(first|(with_reducible refine K.seq ?_)|(with_reducible refine KQ.next ?_)|(with_reducible refine K.block ?_)));exact a.1):p:=h ⟨a⟩
theorem Z40(a:q)(h:ZH q->p:=by intro a;refine KO.nc rfl rfl ?_;refine KO.gd (off:=3) rfl runUnderlying133 rfl rfl sizeOf4 rfl ?_;exact a.1):p:=h ⟨a⟩
theorem Z41(a:q)(h:ZH q->p:=by intro a;refine KO.gd (off:=22) rfl runUnderlying133 rfl rfl sizeOf94 rfl ?_;refine KO.kM (i:=j) rfl rfl runUnderlying94 sizeOf23 rfl ae rfl ?_;exact a.1):p:=h ⟨a⟩
theorem T6(a:q)(h:ZH q->p:=by intro a;refine KO.gd (off:=1) rfl runUnderlying44 rfl rfl sizeOf3 rfl ?_;exact a.1):p:=h ⟨a⟩
theorem sO(a:q)(h:ZH q->p:=by intro a;refine KO.uD rfl Y6 rfl rfl ?_;exact a.1):p:=h ⟨a⟩
theorem Vz(a:q)(h:ZH q->p:=by intro a;refine EJ ?_;refine KO.no rfl rfl rfl rfl ?_;exact a.1):p:=h ⟨a⟩
theorem G3(a:q)(h:ZH q->p:=by intro a;refine Z1 ?_;refine Z15 ?_;exact a.1):p:=h ⟨a⟩
theorem lJ(a:q)(h:ZH q->p:=by intro a;refine KO.nc rfl rfl ?_;exact a.1):p:=h ⟨a⟩
theorem BB(a:q)(h:ZH q->p:=by intro a;refine KO.nil ?_;(repeat((with_reducible refine KQ.iF ?_)));exact a.1):p:=h ⟨a⟩
theorem x8(a:q)(h:ZH q->p:=by intro a;refine KO.nd rfl Y6 rfl rfl ?_;exact a.1):p:=h ⟨a⟩
theorem yx(a:q)(h:ZH q->p:=by intro a;refine KO.uD rfl rfl rfl rfl ?_;exact a.1):p:=h ⟨a⟩
theorem Z50(a:q)(h:ZH q->p:=by intro a;refine KO.xe (pl:=[(0,1),(1,1),(2,1),(3,1),(4,1)]) rfl zeroValue44 runUnderlying44 Y25 aQ rfl ?_;exact a.1):p:=h ⟨a⟩
theorem GZ(a:q)(h:ZH q->p:=by intro a;refine Z2 ?_;refine K.dp rfl rfl ?_;exact a.1):p:=h ⟨a⟩
theorem ZF(a:q)(h:ZH q->p:=by intro a;refine Ul ?_;refine KO.dB (i:=0) rfl rfl isAgg160 bo rfl rfl rfl ?_;exact a.1):p:=h ⟨a⟩
theorem Qd(a:q)(h:ZH q->p:=by intro a;refine KO.gd (off:=0) rfl runUnderlying256 rfl rfl sizeOf3 rfl ?_;exact a.1):p:=h ⟨a⟩
theorem qq(a:q)(h:ZH q->p:=by intro a;(repeat((with_reducible refine K.seq ?_)));exact a.1):p:=h ⟨a⟩
theorem X4(a:q)(h:ZH q->p:=by intro a;refine KO.gd (off:=12) rfl runUnderlying133 rfl rfl sizeOf131 rfl ?_;refine KO.kM (i:=u.toNat) rfl rfl runUnderlying131 sizeOf130 Mf ae rfl ?_;exact a.1):p:=h ⟨a⟩
theorem BA(a:q)(h:ZH q->p:=by intro a;refine Z2 ?_;refine K.cV rfl rfl ?_;exact a.1):p:=h ⟨a⟩
theorem ZE(a:q)(h:ZH q->p:=by intro a;refine K.M5 ?_;refine KO.gd (off:=6) rfl runUnderlying243 rfl rfl sizeOf3 rfl ?_;exact a.1):p:=h ⟨a⟩
theorem ZD(a:q)(h:ZH q->p:=by intro a;refine Z1 ?_;refine KO.nil ?_;exact a.1):p:=h ⟨a⟩
theorem rA(a:q)(h:ZH q->p:=by intro a;refine KO.on rfl rfl rfl ?_;exact a.1):p:=h ⟨a⟩
theorem ZC(a:q)(h:ZH q->p:=by intro a;refine KO.eX (i:=1) rfl rfl runUnderlying115 sizeOf9 rfl aj rfl ?_;refine KO.iw (i:=1) (sz:=1) (cf:=ln) (e:=wb) rfl rfl isAgg9 bZ (fun _=>rfl) rfl aQ aQ rfl ?_;exact a.1):p:=h ⟨a⟩
theorem sN(a:q)(h:ZH q->p:=by intro a;refine Z7 ?_;refine Z4 ?_;exact a.1):p:=h ⟨a⟩
theorem Z62(a:q)(h:ZH q->p:=by intro a;refine KO.gd (off:=30) rfl runUnderlying133 rfl rfl sizeOf95 rfl ?_;refine KO.kM (i:=j) rfl rfl runUnderlying95 sizeOf3 rfl ae rfl ?_;exact a.1):p:=h ⟨a⟩
theorem D_(a:q)(h:ZH q->p:=by intro a;refine KO.eqI rfl rfl rfl ?_;exact a.1):p:=h ⟨a⟩
theorem X3(a:q)(h:ZH q->p:=by intro a;(repeat(first|(with_reducible refine K.seq ?_)|(with_reducible refine KQ.next ?_)|(with_reducible refine KQ.iF ?_)|(with_reducible refine K.skip ?_)));exact a.1):p:=h ⟨a⟩
theorem Qc(a:q)(h:ZH q->p:=by intro a;refine G3 ?_;refine Z7 ?_;exact a.1):p:=h ⟨a⟩
theorem K7(a:q)(h:ZH q->p:=by intro a;refine KO.pD rfl rfl rfl aQ K9 aQ bZ aQ ?_;exact a.1):p:=h ⟨a⟩
theorem MS(a:q)(h:ZH q->p:=by intro a;refine HQ ?_;refine HQ ?_;exact a.1):p:=h ⟨a⟩
theorem ji(a:q)(h:ZH q->p:=by intro a;refine Z8 ?_;refine Z1 ?_;exact a.1):p:=h ⟨a⟩
theorem Z70(a:q)(h:ZH q->p:=by intro a;refine KO.gd (off:=1) rfl runUnderlying62 rfl rfl sizeOf3 rfl ?_;exact a.1):p:=h ⟨a⟩
theorem T5(a:q)(h:ZH q->p:=by intro a;refine KO.xe (pl:=[(0,1),(1,1),(2,1),(3,1)]) rfl zeroValue256 runUnderlying256 Y19 aQ rfl ?_;exact a.1):p:=h ⟨a⟩
theorem qp(a:q)(h:ZH q->p:=by intro a;refine KO.not rfl rfl ?_;exact a.1):p:=h ⟨a⟩
theorem Z73(a:q)(h:ZH q->p:=by intro a;(repeat(first|(with_reducible refine KQ.next ?_)|(with_reducible refine KQ.jy ?_)|(with_reducible refine KQ.lH ?_)|(with_reducible refine KQ.iF ?_)|(with_reducible refine K.exit ?_)));exact a.1):p:=h ⟨a⟩
theorem X2(a:q)(h:ZH q->p:=by intro a;refine KO.gd (off:=43) rfl runUnderlying62 rfl rfl sizeOf60 rfl ?_;refine KO.dB (i:=43) rfl rfl isAgg60 bo rfl Tp rfl ?_;exact a.1):p:=h ⟨a⟩
theorem Z75(a:q)(h:ZH q->p:=by intro a;refine KO.eX (i:=0) rfl rfl runUnderlying23 sizeOf3 rfl aj rfl ?_;refine KO.iw (i:=0) (sz:=1) (cf:=kL) (e:=(j:Int)) rfl rfl isAgg3 bo (fun _=>rfl) rfl aQ aQ rfl ?_;exact a.1):p:=h ⟨a⟩
theorem ZB(a:q)(h:ZH q->p:=by intro a;(repeat(first|(with_reducible refine KQ.next ?_)|(with_reducible refine KQ.jy ?_)|(with_reducible refine KQ.lH ?_)|(with_reducible refine K.exit ?_)));exact a.1):p:=h ⟨a⟩
theorem Rp(a:q)(h:ZH q->p:=by intro a;refine K.M5 ?_;refine vP ?_;refine ZD ?_;exact a.1):p:=h ⟨a⟩
theorem ZA(a:q)(h:ZH q->p:=by intro a;refine KO.gd (off:=3) rfl runUnderlying62 rfl rfl sizeOf58 rfl ?_;refine KO.kM (i:=k) rfl rfl runUnderlying58 sizeOf57 rfl ae rfl ?_;exact a.1):p:=h ⟨a⟩
theorem Qb(a:q)(h:ZH q->p:=by intro a;refine KO.gd (off:=3) rfl runUnderlying44 rfl rfl sizeOf9 rfl ?_;exact a.1):p:=h ⟨a⟩
theorem vO(a:q)(h:ZH q->p:=by intro a;refine KO.geq rfl rfl rfl ?_;exact a.1):p:=h ⟨a⟩
theorem Nl(a:q)(h:ZH q->p:=by intro a;refine Z3 ?_;refine Z30 ?_;exact a.1):p:=h ⟨a⟩
theorem Z82(a:q)(h:ZH q->p:=by intro a;(repeat(first|(with_reducible refine KQ.uL ?_)|(with_reducible refine KQ.oE ?_)|(with_reducible refine KQ.y9 ?_)|(with_reducible refine KR.ret ?_)));refine KQ.conv (fun w hw=>hw.all (M:=NU b4 b3 b2 v (cS 70 3) xs++N) Y5) ?_;exact a.1):p:=h ⟨a⟩
theorem Z83(a:q)(h:ZH q->p:=by intro a;refine KO.gd (off:=1) rfl runUnderlying256 rfl rfl sizeOf3 rfl ?_;exact a.1):p:=h ⟨a⟩
theorem Qa(a:q)(h:ZH q->p:=by intro a;refine KO.gd (off:=4) rfl runUnderlying44 rfl rfl sizeOf3 rfl ?_;exact a.1):p:=h ⟨a⟩
theorem sx(a:q)(h:ZH q->p:=by intro a;refine Z7 ?_;refine Z2 ?_;exact a.1):p:=h ⟨a⟩
theorem Vy(a:q)(h:ZH q->p:=by intro a;refine KO.gd (off:=2) rfl runUnderlying164 rfl rfl sizeOf162 rfl ?_;exact a.1):p:=h ⟨a⟩
theorem K6(a:q)(h:ZH q->p:=by intro a;refine KO.dB (i:=1) rfl rfl isAgg161 bo rfl rfl rfl ?_;exact a.1):p:=h ⟨a⟩
theorem Zz(a:q)(h:ZH q->p:=by intro a;refine KO.gd (off:=2) rfl runUnderlying133 rfl rfl sizeOf3 rfl ?_;refine KO.dB (i:=2) rfl rfl isAgg3 bZ rfl rfl rfl ?_;exact a.1):p:=h ⟨a⟩
theorem Z91(a:q)(h:ZH q->p:=by intro a;refine KO.gd (off:=23) rfl runUnderlying62 rfl rfl sizeOf59 rfl ?_;refine KO.kM (i:=k) rfl rfl runUnderlying59 sizeOf36 rfl ae rfl ?_;exact a.1):p:=h ⟨a⟩
theorem Vx(a:q)(h:ZH q->p:=by intro a;refine KO.eX rfl rfl runUnderlying120 sizeOf243 aQ ae rfl ?_;exact a.1):p:=h ⟨a⟩
theorem Z93(a:q)(h:ZH q->p:=by intro a;refine KO.pD rfl rfl rfl aQ Y53 aQ bo aQ ?_;refine KO.pD rfl rfl rfl aQ Y54 aQ bo aQ ?_;exact a.1):p:=h ⟨a⟩
theorem P_(a:q)(h:ZH q->p:=by intro a;refine KO.len rfl underlying115 rfl ?_;refine KO.neI rfl rfl rfl ?_;exact a.1):p:=h ⟨a⟩
theorem T4(a:q)(h:ZH q->p:=by intro a;(repeat(first|(with_reducible refine KQ.next ?_)|(with_reducible refine K.skip ?_)));exact a.1):p:=h ⟨a⟩
theorem Jo(a:q)(h:ZH q->p:=by intro a;refine KO.aeB rfl bH rfl ?_;exact a.1):p:=h ⟨a⟩
theorem Z97(a:q)(h:ZH q->p:=by intro a;refine Z40 ?_;refine KO.dB (i:=3) rfl rfl isAgg4 bZ rfl rfl rfl ?_;exact a.1):p:=h ⟨a⟩
theorem Z98(a:q)(h:ZH q->p:=by intro a;refine KO.eX (i:=j) rfl rfl runUnderlying161 sizeOf25 rfl nI rfl ?_;refine KO.iw (i:=j) (sz:=1) (cf:=qM) (e:=p.2) rfl rfl isAgg25 bo (fun _=>rfl) ku aj aQ rfl ?_;exact a.1):p:=h ⟨a⟩
theorem Zy(a:q)(h:ZH q->p:=by intro a;refine KO.gd (off:=2) rfl runUnderlying62 rfl rfl sizeOf56 rfl ?_;refine KO.ld rfl rfl isAgg56 bo aQ rfl ?_;exact a.1):p:=h ⟨a⟩
theorem o_(a:q)(h:ZH q->p:=by intro a;refine lL ?_;refine tL ?_;refine lL ?_;exact a.1):p:=h ⟨a⟩
theorem mC(a:q)(h:ZH q->p:=by intro a;refine Z1 ?_;refine EJ ?_;exact a.1):p:=h ⟨a⟩
theorem Bc(a:q)(h:ZH q->p:=by intro a;refine KO.len rfl underlying49 rfl ?_;exact a.1):p:=h ⟨a⟩
theorem Es(a:q)(h:ZH q->p:=by intro a;refine KO.gd (off:=6) rfl runUnderlying133 rfl rfl sizeOf125 rfl ?_;exact a.1):p:=h ⟨a⟩
theorem ky(a:q)(h:ZH q->p:=by intro a;refine Qc ?_;refine mS ?_;exact a.1):p:=h ⟨a⟩
theorem JJ(a:q)(h:ZH q->p:=by intro a;refine VA ?_;refine KO.no rfl rfl Y6 rfl ?_;exact a.1):p:=h ⟨a⟩
theorem Er(a:q)(h:ZH q->p:=by intro a;refine K.M5 ?_;refine jH ?_;exact a.1):p:=h ⟨a⟩
theorem kp(a:q)(h:ZH q->p:=by intro a;refine Z8 ?_;refine lJ ?_;exact a.1):p:=h ⟨a⟩
theorem Uu(a:q)(h:ZH q->p:=by intro a;refine KO.gd (off:=8) rfl runUnderlying133 rfl rfl sizeOf126 rfl ?_;refine KO.kM (i:=j) rfl rfl runUnderlying126 sizeOf119 rfl ae rfl ?_;exact a.1):p:=h ⟨a⟩
theorem iJ(a:q)(h:ZH q->p:=by intro a;refine Z3 ?_;refine yz ?_;refine Z0 ?_;exact a.1):p:=h ⟨a⟩
theorem jI(a:q)(h:ZH q->p:=by intro a;refine Z3 ?_;refine Z1 ?_;exact a.1):p:=h ⟨a⟩
theorem Ut(a:q)(h:ZH q->p:=by intro a;refine KO.gd (off:=26) rfl runUnderlying133 rfl rfl sizeOf95 rfl ?_;refine KO.kM (i:=j) rfl rfl runUnderlying95 sizeOf3 rfl ae rfl ?_;exact a.1):p:=h ⟨a⟩
theorem rG(a:q)(h:ZH q->p:=by intro a;refine KO.len rfl underlying23 rfl ?_;exact a.1):p:=h ⟨a⟩
theorem Hp(a:q)(h:ZH q->p:=by intro a;refine KO.gd (off:=3) rfl runUnderlying256 rfl rfl sizeOf49 rfl ?_;exact a.1):p:=h ⟨a⟩
theorem BM(a:q)(h:ZH q->p:=by intro a;refine KO.uS rfl rfl isAgg44 sizeOf44 bo aQ rfl ?_;exact a.1):p:=h ⟨a⟩
theorem Hn(a:q)(h:ZH q->p:=by intro a;refine KO.gd (off:=7) rfl runUnderlying243 rfl rfl sizeOf3 rfl ?_;exact a.1):p:=h ⟨a⟩
theorem Hm(a:q)(h:ZH q->p:=by intro a;refine KO.gd (off:=0) rfl runUnderlying133 rfl rfl sizeOf3 rfl ?_;exact a.1):p:=h ⟨a⟩
theorem YI(a:q)(h:ZH q->p:=by intro a;refine K.draw [.pure,.read,.pure,.pure,.pure,.pure,.pure,.read,.pure,.read,.read,.pure,.pure] [0,1,2,3,4,5,6,7,8,9,10,11,12] bH bH ?_;refine KO.gd (off:=1) rfl runUnderlying75 rfl rfl sizeOf9 rfl ?_;exact a.1):p:=h ⟨a⟩
theorem vE(a:q)(h:ZH q->p:=by intro a;refine KO.ld rfl rfl isAgg9 bo aQ rfl ?_;exact a.1):p:=h ⟨a⟩
theorem ox(a:q)(h:ZH q->p:=by intro a;refine Z1 ?_;refine K8 ?_;exact a.1):p:=h ⟨a⟩
theorem xF(a:q)(h:ZH q->p:=by intro a;refine Z7 ?_;refine KO.nil ?_;exact a.1):p:=h ⟨a⟩
theorem tN(a:q)(h:ZH q->p:=by intro a;refine A1 ?_;refine A1 ?_;exact a.1):p:=h ⟨a⟩
theorem rF(a:q)(h:ZH q->p:=by intro a;refine KO.cat rfl rfl ae rfl ?_;exact a.1):p:=h ⟨a⟩
theorem JI(a:q)(h:ZH q->p:=by intro a;refine K.conv (fun w hw=>dH (hd:=hd) ⟨hv,dv,wv,ps⟩ Kv hw e8 e9) ?_;exact a.1):p:=h ⟨a⟩
theorem Ep(a:q)(h:ZH q->p:=by intro a;refine X5 ?_;refine KO.ld rfl rfl isAgg120 bo aQ rfl ?_;exact a.1):p:=h ⟨a⟩
theorem Eo(a:q)(h:ZH q->p:=by intro a;refine KO.uS rfl rfl isAgg44 sizeOf44 bZ aQ rfl ?_;exact a.1):p:=h ⟨a⟩
theorem qG(a:q)(h:ZH q->p:=by intro a;refine nB ?_;refine Z1 ?_;exact a.1):p:=h ⟨a⟩
theorem Us(a:q)(h:ZH q->p:=by intro a;refine KO.neN rfl bH rfl ?_;refine Z2 ?_;exact a.1):p:=h ⟨a⟩
theorem mB(a:q)(h:ZH q->p:=by intro a;refine lK ?_;refine K.M5 ?_;exact a.1):p:=h ⟨a⟩
theorem vD(a:q)(h:ZH q->p:=by intro a;refine VB ?_;refine Rp ?_;exact a.1):p:=h ⟨a⟩
theorem YH(a:q)(h:ZH q->p:=by intro a;refine KO.eX (i:=0) rfl rfl runUnderlying115 sizeOf9 rfl aj rfl ?_;refine KO.iw (i:=0) (sz:=1) (cf:=ln) (e:=wa) rfl rfl isAgg9 bZ (fun _=>rfl) rfl aQ aQ rfl ?_;exact a.1):p:=h ⟨a⟩
theorem YG(a:q)(h:ZH q->p:=by intro a;refine KO.eX (i:=2) rfl rfl runUnderlying115 sizeOf9 rfl aj rfl ?_;refine KO.iw (i:=2) (sz:=1) (cf:=ln) (e:=wc) rfl rfl isAgg9 bZ (fun _=>rfl) rfl aQ aQ rfl ?_;exact a.1):p:=h ⟨a⟩
theorem tM(a:q)(h:ZH q->p:=by intro a;refine Z1 ?_;refine Vz ?_;exact a.1):p:=h ⟨a⟩
theorem yJ(a:q)(h:ZH q->p:=by intro a;refine KO.ld rfl rfl isAgg9 bZ aQ rfl ?_;exact a.1):p:=h ⟨a⟩
theorem Ur(a:q)(h:ZH q->p:=by intro a;(repeat(first|(with_reducible refine KQ.jy ?_)|(with_reducible refine KQ.lH ?_)|(with_reducible refine K.exit ?_)));exact a.1):p:=h ⟨a⟩
theorem qF(a:q)(h:ZH q->p:=by intro a;refine HU ?_;refine K.M5 ?_;exact a.1):p:=h ⟨a⟩
theorem Hl(a:q)(h:ZH q->p:=by intro a;refine KO.no rfl rfl xG rfl ?_;refine KO.no rfl rfl xG rfl ?_;exact a.1):p:=h ⟨a⟩
theorem YF(a:q)(h:ZH q->p:=by intro a;refine KR.cV rfl rfl ?_;(repeat(first|(with_reducible refine KR.seq ?_)|(with_reducible refine KQ.uL ?_)|(with_reducible refine KR.skip ?_)|(with_reducible refine KR.block ?_)));exact a.1):p:=h ⟨a⟩
theorem acQ(a:q)(h:ZH q->p:=by intro a;refine K.conv (L':=oi bw ⟨hv,dv,wv,ps⟩ S.W (ll bt bw Sj::bP b3 (.cells (nP ⟨xw,xk,xn,xm,xu⟩).toArray 38 (0,0))::L)) (fun w hw=>(dZ (bt:=bt) (bw:=bw) (S:=Sj) (L:=oi bw ⟨hv,dv,wv,ps⟩ S.W (bP b3 (.cells (nP ⟨xw,xk,xn,xm,xu⟩).toArray 38 (0,0))::L)) ⟨us',vs',os',mT',mO'⟩ Rb (hw.all nH)).all Y7) ?_;exact a.1):p:=h ⟨a⟩
theorem yI(a:q)(h:ZH q->p:=by intro a;refine Z8 ?_;refine yz ?_;exact a.1):p:=h ⟨a⟩
theorem BL(a:q)(h:ZH q->p:=by intro a;refine GZ ?_;refine Z6 ?_;exact a.1):p:=h ⟨a⟩
theorem M1(a:q)(h:ZH q->p:=by intro a;refine Z41 ?_;refine KO.dB (i:=22+j) rfl rfl isAgg23 bo Bd c1 rfl ?_;exact a.1):p:=h ⟨a⟩
theorem Hk(a:q)(h:ZH q->p:=by intro a;refine KO.nil ?_;(repeat((with_reducible refine KQ.uL ?_)));exact a.1):p:=h ⟨a⟩
theorem M0(a:q)(h:ZH q->p:=by intro a;refine o_ ?_;refine KO.leq rfl rfl rfl ?_;exact a.1):p:=h ⟨a⟩
theorem lT(a:q)(h:ZH q->p:=by intro a;refine Z7 ?_;refine Z11 ?_;exact a.1):p:=h ⟨a⟩
theorem Bb(a:q)(h:ZH q->p:=by intro a;refine Z1 ?_;refine VA ?_;exact a.1):p:=h ⟨a⟩
theorem MZ(a:q)(h:ZH q->p:=by intro a;refine KO.mki rfl bH rfl ?_;refine KO.pD rfl rfl rfl aQ QD aQ bo aQ ?_;exact a.1):p:=h ⟨a⟩
theorem MY(a:q)(h:ZH q->p:=by intro a;refine KO.gd (off:=0) rfl runUnderlying243 rfl rfl sizeOf44 rfl ?_;exact a.1):p:=h ⟨a⟩
theorem acP(a:q)(h:ZH q->p:=by intro a;refine K.draw [.pure,.pure,.pure,.read,.pure,.pure,.pure,.read,.pure,.pure,.pure,.pure,.pure,.pure,.pure,.pure,.pure,.pure,.pure,.read,.pure,.pure,.pure,.pure,.read,.pure,.pure,.pure] [0,1,2,3,4,5,6,7,8,9,10,11,12,13,14,15,16,17,18,19,20,21,22,23,24,25,26,27] bH bH ?_;refine Z1 ?_;exact a.1):p:=h ⟨a⟩
theorem Uq(a:q)(h:ZH q->p:=by intro a;refine KO.gd (off:=0) rfl runUnderlying62 rfl rfl sizeOf55 rfl ?_;exact a.1):p:=h ⟨a⟩
theorem qE(a:q)(h:ZH q->p:=by intro a;refine Z3 ?_;refine mS ?_;exact a.1):p:=h ⟨a⟩
theorem MX(a:q)(h:ZH q->p:=by intro a;refine KO.gd (off:=2) rfl runUnderlying44 rfl rfl sizeOf9 rfl ?_;exact a.1):p:=h ⟨a⟩
theorem Qz(a:q)(h:ZH q->p:=by intro a;(repeat(first|(with_reducible refine KQ.iF ?_)|(with_reducible refine K.skip ?_)));exact a.1):p:=h ⟨a⟩
theorem Qy(a:q)(h:ZH q->p:=by intro a;refine KO.no2 rfl rfl rfl ?_;refine KO.no2 rfl rfl rfl ?_;exact a.1):p:=h ⟨a⟩
theorem YE(a:q)(h:ZH q->p:=by intro a;refine KO.gd (off:=300) rfl runUnderlying28 rfl rfl sizeOf4 rfl ?_;refine KO.dB (i:=300) rfl rfl isAgg4 .head rfl (by rw[TM h3,hcut]) rfl ?_;exact a.1):p:=h ⟨a⟩
theorem Hj(a:q)(h:ZH q->p:=by intro a;(repeat((with_reducible refine KR.seq ?_)));refine Qf ?_;exact a.1):p:=h ⟨a⟩
theorem Ba(a:q)(h:ZH q->p:=by intro a;refine KO.len rfl underlying120 rfl ?_;exact a.1):p:=h ⟨a⟩
theorem acO(a:q)(h:ZH q->p:=by intro a;refine K.draw [.read,.pure,.pure,.pure,.read,.dm,.pure,.pure,.pure,.pure,.pure,.pure,.pure,.dm,.pure,.pure,.read,.read,.pure,.pure,.pure] [0,1,2,3,4,5,6,7,8,9,10,11,12,14,15,16,17,13,18,19,20] bH bH ?_;refine KO.ld (v:=bA bh) rfl rfl isAgg29 bo aQ rfl ?_;exact a.1):p:=h ⟨a⟩
theorem Qx(a:q)(h:ZH q->p:=by intro a;refine KO.kM (i:=u) rfl rfl runUnderlying57 sizeOf49 rfl ae rfl ?_;exact a.1):p:=h ⟨a⟩
theorem Qw(a:q)(h:ZH q->p:=by intro a;refine KO.kM (i:=u) rfl rfl runUnderlying36 sizeOf23 rfl ae rfl ?_;exact a.1):p:=h ⟨a⟩
theorem YD(a:q)(h:ZH q->p:=by intro a;refine KO.eX rfl rfl runUnderlying49 sizeOf44 aQ ae rfl ?_;refine KO.wC rfl rfl isAgg44 sizeOf44 bo (fun _=>rfl) xG rfl ?_;exact a.1):p:=h ⟨a⟩
theorem YC(a:q)(h:ZH q->p:=by intro a;refine KO.gd (off:=0) rfl runUnderlying28 rfl rfl sizeOf26 rfl ?_;refine KO.kM rfl rfl runUnderlying26 sizeOf9 rfl ae rfl ?_;exact a.1):p:=h ⟨a⟩
theorem Up(a:q)(h:ZH q->p:=by intro a;refine KO.dB (i:=0) rfl rfl isAgg160 bZ rfl rfl rfl ?_;refine KO.len rfl underlying160 rfl ?_;exact a.1):p:=h ⟨a⟩
theorem qc(a:q)(h:ZH q->p:=by intro a;refine Qc ?_;refine lK ?_;exact a.1):p:=h ⟨a⟩
theorem vC(a:q)(h:ZH q->p:=by intro a;refine KO.gtr rfl rfl rfl ?_;exact a.1):p:=h ⟨a⟩
theorem nQ(a:q)(h:ZH q->p:=by intro a;refine Z7 ?_;refine Z7 ?_;exact a.1):p:=h ⟨a⟩
theorem Em(a:q)(h:ZH q->p:=by intro a;refine mC ?_;refine EJ ?_;exact a.1):p:=h ⟨a⟩
theorem Uo(a:q)(h:ZH q->p:=by intro a;refine KO.xe (pl:=[(0,1),(1,1),(2,1)]) rfl zeroValue75 runUnderlying75 Y25 aQ rfl ?_;exact a.1):p:=h ⟨a⟩
theorem xE(a:q)(h:ZH q->p:=by intro a;refine yx ?_;refine BA ?_;exact a.1):p:=h ⟨a⟩
theorem qb(a:q)(h:ZH q->p:=by intro a;refine Nl ?_;refine sN ?_;exact a.1):p:=h ⟨a⟩
theorem o8(a:q)(h:ZH q->p:=by intro a;refine Z8 ?_;refine mA ?_;exact a.1):p:=h ⟨a⟩
theorem vB(a:q)(h:ZH q->p:=by intro a;refine KO.on rfl rfl xG ?_;exact a.1):p:=h ⟨a⟩
theorem Qv(a:q)(h:ZH q->p:=by intro a;refine KO.gd (off:=301) rfl runUnderlying28 rfl rfl sizeOf3 rfl ?_;exact a.1):p:=h ⟨a⟩
theorem Qt(a:q)(h:ZH q->p:=by intro a;refine KO.gd (off:=5) rfl runUnderlying133 rfl rfl sizeOf3 rfl ?_;exact a.1):p:=h ⟨a⟩
theorem Qs(a:q)(h:ZH q->p:=by intro a;refine KO.gd (off:=2) rfl runUnderlying256 rfl rfl sizeOf4 rfl ?_;exact a.1):p:=h ⟨a⟩
theorem qD(a:q)(h:ZH q->p:=by intro a;refine Z21 ?_;refine Rp ?_;exact a.1):p:=h ⟨a⟩
theorem Qr(a:q)(h:ZH q->p:=by intro a;refine KO.fo (off:=7) rfl runUnderlying243 rfl rfl sizeOf3 rfl ?_;exact a.1):p:=h ⟨a⟩
theorem Qq(a:q)(h:ZH q->p:=by intro a;refine KO.gd (off:=0) rfl runUnderlying75 rfl rfl sizeOf9 rfl ?_;exact a.1):p:=h ⟨a⟩
theorem BK(a:q)(h:ZH q->p:=by intro a;refine rB ?_;refine MS ?_;exact a.1):p:=h ⟨a⟩
theorem BJ(a:q)(h:ZH q->p:=by intro a;refine vO ?_;refine x8 ?_;exact a.1):p:=h ⟨a⟩
theorem Qp(a:q)(h:ZH q->p:=by intro a;refine KO.gd (off:=2) rfl runUnderlying38 rfl rfl sizeOf3 rfl ?_;exact a.1):p:=h ⟨a⟩
theorem Hh(a:q)(h:ZH q->p:=by intro a;refine KO.ld rfl rfl isAgg49 bZ aQ rfl ?_;exact a.1):p:=h ⟨a⟩
theorem JH(a:q)(h:ZH q->p:=by intro a;refine Qm ?_;refine tL ?_;exact a.1):p:=h ⟨a⟩
theorem rE(a:q)(h:ZH q->p:=by intro a;refine Z0 ?_;refine Er ?_;exact a.1):p:=h ⟨a⟩
theorem El(a:q)(h:ZH q->p:=by intro a;refine KO.len rfl underlying162 rfl ?_;exact a.1):p:=h ⟨a⟩
theorem Qo(a:q)(h:ZH q->p:=by intro a;refine Z8 ?_;refine qp ?_;exact a.1):p:=h ⟨a⟩
theorem JG(a:q)(h:ZH q->p:=by intro a;refine yI ?_;refine tN ?_;exact a.1):p:=h ⟨a⟩
theorem tK(a:q)(h:ZH q->p:=by intro a;refine KO.Pz rfl aQ rfl ?_;exact a.1):p:=h ⟨a⟩
theorem Ek(a:q)(h:ZH q->p:=by intro a;(repeat((with_reducible refine K.skip ?_)));exact a.1):p:=h ⟨a⟩
theorem Un(a:q)(h:ZH q->p:=by intro a;refine K.conv (fun w hw=>dD Cz wQ (hw.pick (A:=cr dX V.bs H.batch) bo)) ?_;exact a.1):p:=h ⟨a⟩
theorem acN(a:q)(h:ZH q->p:=by intro a;refine Jo ?_;refine MS ?_;exact a.1):p:=h ⟨a⟩
theorem rD(a:q)(h:ZH q->p:=by intro a;refine yz ?_;refine Z2 ?_;exact a.1):p:=h ⟨a⟩
theorem Um(a:q)(h:ZH q->p:=by intro a;refine Z8 ?_;refine vP ?_;exact a.1):p:=h ⟨a⟩
theorem rC(a:q)(h:ZH q->p:=by intro a;refine Z7 ?_;refine jH ?_;exact a.1):p:=h ⟨a⟩
theorem Hg(a:q)(h:ZH q->p:=by intro a;refine Bb ?_;refine VA ?_;exact a.1):p:=h ⟨a⟩
theorem A_(a:q)(h:ZH q->p:=by intro a;refine Z3 ?_;refine sN ?_;exact a.1):p:=h ⟨a⟩
theorem Hf(a:q)(h:ZH q->p:=by intro a;refine Z2 ?_;refine K.dp rfl aj ?_;exact a.1):p:=h ⟨a⟩
theorem acM(a:q)(h:ZH q->p:=by intro a;refine KO.eX (i:=j) rfl rfl runUnderlying160 sizeOf29 rfl nI rfl ?_;refine KO.Y_ (i:=j) (j:=0) (sz:=1) (cf:=qM) (us:=[bA bh]) rfl rfl rfl aQ (by exact sizeOf29) aQ bo (fun _=>rfl) kY rfl bh rfl ?_;exact a.1):p:=h ⟨a⟩
theorem He(a:q)(h:ZH q->p:=by intro a;refine Um ?_;refine xF ?_;exact a.1):p:=h ⟨a⟩
theorem acL(a:q)(h:ZH q->p:=by intro a;(repeat(first|(with_reducible refine K.seq ?_)|(with_reducible refine KQ.next ?_)|(with_reducible refine KQ.jy ?_)|(with_reducible refine KQ.lH ?_)|(refine KQ.GU rfl ?_)|(with_reducible refine K.exit ?_)));exact a.1):p:=h ⟨a⟩
theorem YB(a:q)(h:ZH q->p:=by intro a;refine lK ?_;refine K.draw [.pure,.pure,.pure,.pure,.pure,.pure,.write,.pure] [0,1,2,3,4,5,6,7] bH bH ?_;exact a.1):p:=h ⟨a⟩
theorem acK(a:q)(h:ZH q->p:=by intro a;refine K.draw [.pure,.read,.read,.pure,.pure,.read,.pure,.pure,.pure,.read,.pure,.read,.pure,.pure,.read,.pure,.pure,.pure] [0,1,2,3,4,5,6,7,8,9,10,11,12,13,14,15,16,17] bH bH ?_;refine Qa ?_;exact a.1):p:=h ⟨a⟩
theorem YA(a:q)(h:ZH q->p:=by intro a;refine Vx ?_;refine KO.L3 (cs:=(nJ e).toArray) rfl rfl isAgg243 sizeOf243 rfl (hc g rfl k e he) rfl ?_;exact a.1):p:=h ⟨a⟩
theorem sy(a:q)(h:ZH q->p:=by intro a;refine Z3 ?_;refine nB ?_;exact a.1):p:=h ⟨a⟩
theorem Qn(a:q)(h:ZH q->p:=by intro a;refine sO ?_;refine A1 ?_;exact a.1):p:=h ⟨a⟩
theorem Hd(a:q)(h:ZH q->p:=by intro a;refine KO.sub rfl rfl rfl ae rfl ?_;exact a.1):p:=h ⟨a⟩
theorem vA(a:q)(h:ZH q->p:=by intro a;refine tM ?_;refine rB ?_;exact a.1):p:=h ⟨a⟩
theorem Yz(a:q)(h:ZH q->p:=by intro a;refine KR.dp rfl rfl ?_;(repeat(first|(with_reducible refine KQ.uL ?_)|(with_reducible refine KR.skip ?_)));exact a.1):p:=h ⟨a⟩
theorem A8(a:q)(h:ZH q->p:=by intro a;refine Qo ?_;refine MS ?_;exact a.1):p:=h ⟨a⟩
theorem acI(a:q)(h:ZH q->p:=by intro a;refine qc ?_;refine K.draw [.pure,.pure,.pure,.pure,.pure,.pure,.read,.pure,.pure,.read,.dm,.pure,.pure,.write,.pure,.pure,.pure] [0,1,2,3,4,5,6,7,8,9,11,10,12,13,14,15,16] bH bH ?_;exact a.1):p:=h ⟨a⟩
theorem Uk(a:q)(h:ZH q->p:=by intro a;refine Z62 ?_;refine KO.dB (i:=30+j) rfl rfl isAgg3 bZ Bd d1 rfl ?_;exact a.1):p:=h ⟨a⟩
theorem Yy(a:q)(h:ZH q->p:=by intro a;refine KO.iw (i:=0) (sz:=1) (cf:=ln) (e:=wa) rfl rfl isAgg9 bo (fun _=>rfl) rfl aQ aQ rfl ?_;exact a.1):p:=h ⟨a⟩
theorem Yx(a:q)(h:ZH q->p:=by intro a;refine KO.nil ?_;(repeat(first|(with_reducible refine KQ.uL ?_)|(with_reducible refine KQ.iF ?_)));exact a.1):p:=h ⟨a⟩
theorem Uj(a:q)(h:ZH q->p:=by intro a;refine KO.gd (off:=7) rfl runUnderlying133 rfl rfl sizeOf123 rfl ?_;exact a.1):p:=h ⟨a⟩
theorem Ui(a:q)(h:ZH q->p:=by intro a;refine KO.gd (off:=8) rfl runUnderlying133 rfl rfl sizeOf126 rfl ?_;exact a.1):p:=h ⟨a⟩
theorem acH(a:q)(h:ZH q->p:=by intro a;refine KO.eX (i:=k) rfl rfl runUnderlying160 sizeOf29 rfl ae rfl ?_;refine KO.iw (i:=k) (sz:=1) (cf:=qM) (e:=p.1) rfl rfl isAgg29 bo (fun _=>rfl) kY aj aQ rfl ?_;exact a.1):p:=h ⟨a⟩
theorem Uh(a:q)(h:ZH q->p:=by intro a;refine Vy ?_;refine KO.dB (i:=2) rfl rfl isAgg162 bZ rfl rfl rfl ?_;exact a.1):p:=h ⟨a⟩
theorem tJ(a:q)(h:ZH q->p:=by intro a;refine D_ ?_;refine Z2 ?_;exact a.1):p:=h ⟨a⟩
theorem acG(a:q)(h:ZH q->p:=by intro a;refine K.draw [.pure,.pure,.pure,.pure,.pure,.pure,.pure,.pure,.pure,.read,.read,.write,.pure,.pure,.pure,.pure] [0,1,2,3,4,5,6,7,8,9,10,11,12,13,14,15] bH bH ?_;refine qG ?_;exact a.1):p:=h ⟨a⟩
theorem tI(a:q)(h:ZH q->p:=by intro a;refine Z1 ?_;refine mA ?_;exact a.1):p:=h ⟨a⟩
theorem tH(a:q)(h:ZH q->p:=by intro a;refine Nl ?_;refine Z4 ?_;exact a.1):p:=h ⟨a⟩
theorem acF(a:q)(h:ZH q->p:=by intro a;refine K.draw [.pure,.pure,.pure,.pure,.pure,.pure,.pure,.pure,.pure,.pure,.write,.pure,.pure,.pure,.pure,.write] [0,1,2,3,4,5,6,7,8,9,11,12,13,10,14,15] bH bH ?_;refine nB ?_;exact a.1):p:=h ⟨a⟩
theorem dR(a:q)(h:ZH q->p:=by intro a;refine K.M5 ?_;exact a.1):p:=h ⟨a⟩
theorem vz(a:q)(h:ZH q->p:=by intro a;refine Z7 ?_;refine vD ?_;exact a.1):p:=h ⟨a⟩
theorem acE(a:q)(h:ZH q->p:=by intro a;refine KO.eX (i:=kx) rfl rfl runUnderlying23 sizeOf3 rfl ae rfl ?_;refine KO.iw (i:=kx) (sz:=1) (cf:=iC) (e:=c) rfl rfl isAgg3 bo (fun _=>rfl) hcq aj aQ rfl ?_;exact a.1):p:=h ⟨a⟩
theorem Ug(a:q)(h:ZH q->p:=by intro a;refine KO.gd (off:=2) rfl runUnderlying133 rfl rfl sizeOf3 rfl ?_;exact a.1):p:=h ⟨a⟩
theorem acD(a:q)(h:ZH q->p:=by intro a;refine KO.eX (i:=1) rfl rfl runUnderlying115 sizeOf9 rfl ai rfl ?_;refine KO.iw (i:=1) (sz:=1) (cf:=ln) (e:=wb) rfl rfl isAgg9 bo (fun _=>rfl) rfl aQ aQ rfl ?_;exact a.1):p:=h ⟨a⟩
theorem acC(a:q)(h:ZH q->p:=by intro a;refine KO.eX (i:=4) rfl rfl runUnderlying115 sizeOf9 rfl ai rfl ?_;refine KO.iw (i:=4) (sz:=1) (cf:=ln) (e:=we) rfl rfl isAgg9 bo (fun _=>rfl) rfl aQ aQ rfl ?_;exact a.1):p:=h ⟨a⟩
theorem acB(a:q)(h:ZH q->p:=by intro a;refine KO.eX (i:=j) rfl rfl runUnderlying160 sizeOf29 rfl nI rfl ?_;refine KO.iw (i:=j) (sz:=1) (cf:=qM) (e:=p.1) rfl rfl isAgg29 bo (fun _=>rfl) kY aj aQ rfl ?_;exact a.1):p:=h ⟨a⟩
theorem acA(a:q)(h:ZH q->p:=by intro a;refine KO.eX (i:=m) rfl rfl runUnderlying160 sizeOf29 rfl nI rfl ?_;refine KO.iw (i:=m) (sz:=1) (cf:=qM) (e:=p.1) rfl rfl isAgg29 bo (fun _=>rfl) kY aj aQ rfl ?_;exact a.1):p:=h ⟨a⟩
theorem xD(a:q)(h:ZH q->p:=by intro a;refine KO.aeA rfl bH rfl ?_;exact a.1):p:=h ⟨a⟩
theorem acz(a:q)(h:ZH q->p:=by intro a;refine KO.eX (i:=k) rfl rfl runUnderlying152 sizeOf119 rfl nI rfl ?_;refine KO.iw (i:=k) (sz:=1) (cf:=Dq) (e:=p) rfl rfl isAgg119 .head (fun _=>rfl) hpj aQ aQ rfl ?_;exact a.1):p:=h ⟨a⟩
theorem tG(a:q)(h:ZH q->p:=by intro a;refine Z3 ?_;refine Z7 ?_;exact a.1):p:=h ⟨a⟩
theorem Yw(a:q)(h:ZH q->p:=by intro a;refine qF ?_;refine KO.eX (i:=i) rfl rfl runUnderlying49 sizeOf44 rfl ae rfl ?_;exact a.1):p:=h ⟨a⟩
theorem xC(a:q)(h:ZH q->p:=by intro a;refine mS ?_;refine lJ ?_;exact a.1):p:=h ⟨a⟩
theorem xB(a:q)(h:ZH q->p:=by intro a;refine Z6 ?_;refine dR ?_;exact a.1):p:=h ⟨a⟩
theorem xA(a:q)(h:ZH q->p:=by intro a;refine KO.neI rfl rfl rfl ?_;exact a.1):p:=h ⟨a⟩
theorem MW(a:q)(h:ZH q->p:=by intro a;refine KO.pD rfl rfl rfl aQ K9 aQ bo aQ ?_;exact a.1):p:=h ⟨a⟩
theorem Yv(a:q)(h:ZH q->p:=by intro a;refine K.draw [.pure,.pure,.pure,.read,.read,.pure] [0,1,2,3,4,5] bH bH ?_;refine mA ?_;exact a.1):p:=h ⟨a⟩
theorem yH(a:q)(h:ZH q->p:=by intro a;refine mS ?_;refine Us ?_;exact a.1):p:=h ⟨a⟩
theorem yG(a:q)(h:ZH q->p:=by intro a;refine K.M5 ?_;refine KO.eqS rfl rfl rfl ?_;refine sx ?_;exact a.1):p:=h ⟨a⟩
theorem Uf(a:q)(h:ZH q->p:=by intro a;refine qG ?_;refine ZF ?_;refine nB ?_;refine Z24 ?_;exact a.1):p:=h ⟨a⟩
theorem JF(a:q)(h:ZH q->p:=by intro a;refine KO.Zu rfl bH rfl ?_;refine Z2 ?_;exact a.1):p:=h ⟨a⟩
theorem acx(a:q)(h:ZH q->p:=by intro a;refine dR ?_;refine JH ?_;exact a.1):p:=h ⟨a⟩
theorem Yu(a:q)(h:ZH q->p:=by intro a;refine KO.xe (pl:=[(0,1),(1,1)]) rfl zeroValue122 runUnderlying122 Y24 aQ rfl ?_;exact a.1):p:=h ⟨a⟩
theorem xy(a:q)(h:ZH q->p:=by intro a;refine HU ?_;refine Z8 ?_;exact a.1):p:=h ⟨a⟩
theorem Ej(a:q)(h:ZH q->p:=by intro a;refine sO ?_;refine Z2 ?_;exact a.1):p:=h ⟨a⟩
theorem Hc(a:q)(h:ZH q->p:=by intro a;refine rB ?_;refine Z2 ?_;exact a.1):p:=h ⟨a⟩
theorem Ue(a:q)(h:ZH q->p:=by intro a;refine X5 ?_;refine KO.ldb hw rfl rfl isAgg120 bZ aQ rfl ?_;exact a.1):p:=h ⟨a⟩
theorem yF(a:q)(h:ZH q->p:=by intro a;refine Z0 ?_;refine dR ?_;exact a.1):p:=h ⟨a⟩
theorem yE(a:q)(h:ZH q->p:=by intro a;refine Nl ?_;refine Z11 ?_;exact a.1):p:=h ⟨a⟩
theorem yD(a:q)(h:ZH q->p:=by intro a;refine rA ?_;refine qp ?_;exact a.1):p:=h ⟨a⟩
theorem Yt(a:q)(h:ZH q->p:=by intro a;refine D_ ?_;refine sx ?_;exact a.1):p:=h ⟨a⟩
theorem yC(a:q)(h:ZH q->p:=by intro a;refine Ul ?_;refine KO.gT (i:=0) rfl rfl rfl rfl Y50 rfl bo rfl ZI ?_;refine Z24 ?_;refine KO.gT (i:=1) rfl rfl rfl rfl Y51 rfl bZ rfl ZI ?_;refine VB ?_;exact a.1):p:=h ⟨a⟩
theorem Ys(a:q)(h:ZH q->p:=by intro a;refine qF ?_;refine KO.eX rfl rfl runUnderlying115 sizeOf9 aQ ae rfl ?_;exact a.1):p:=h ⟨a⟩
theorem A7(a:q)(h:ZH q->p:=by intro a;refine Qn ?_;refine T6 ?_;exact a.1):p:=h ⟨a⟩
theorem Yr(a:q)(h:ZH q->p:=by intro a;refine KO.gd (off:=0) rfl runUnderlying258 rfl rfl sizeOf3 rfl ?_;refine vy ?_;exact a.1):p:=h ⟨a⟩
theorem Ud(a:q)(h:ZH q->p:=by intro a;refine KO.uS rfl rfl isAgg243 sizeOf243 bZ aQ rfl ?_;exact a.1):p:=h ⟨a⟩
theorem Yq(a:q)(h:ZH q->p:=by intro a;refine KO.gd (off:=0) rfl runUnderlying38 rfl rfl sizeOf3 rfl ?_;refine vy ?_;exact a.1):p:=h ⟨a⟩
theorem Yp(a:q)(h:ZH q->p:=by intro a;refine KO.gd (off:=3) rfl runUnderlying38 rfl rfl sizeOf3 rfl ?_;refine vy ?_;exact a.1):p:=h ⟨a⟩
theorem xv(a:q)(h:ZH q->p:=by intro a;refine Z6 ?_;refine Z8 ?_;exact a.1):p:=h ⟨a⟩
theorem xr(a:q)(h:ZH q->p:=by intro a;refine Z9 ?_;refine Z8 ?_;exact a.1):p:=h ⟨a⟩
theorem MV(a:q)(h:ZH q->p:=by intro a;refine KO.neS rfl rfl rfl ?_;refine Hc ?_;exact a.1):p:=h ⟨a⟩
theorem yB(a:q)(h:ZH q->p:=by intro a;refine K7 ?_;refine Z0 ?_;exact a.1):p:=h ⟨a⟩
theorem Uc(a:q)(h:ZH q->p:=by intro a;refine X5 ?_;refine KO.ld rfl rfl isAgg120 bZ aQ rfl ?_;exact a.1):p:=h ⟨a⟩
theorem BI(a:q)(h:ZH q->p:=by intro a;refine Bc ?_;refine ox ?_;exact a.1):p:=h ⟨a⟩
theorem Ub(a:q)(h:ZH q->p:=by intro a;refine tL ?_;refine yz ?_;exact a.1):p:=h ⟨a⟩
theorem Ql(a:q)(h:ZH q->p:=by intro a;refine Z1 ?_;refine JJ ?_;exact a.1):p:=h ⟨a⟩
theorem Ua(a:q)(h:ZH q->p:=by intro a;refine KO.pD rfl rfl rfl aQ Y47 aQ bZ aQ ?_;refine Z0 ?_;exact a.1):p:=h ⟨a⟩
theorem MU(a:q)(h:ZH q->p:=by intro a;refine KO.mki rfl bH rfl ?_;refine Z93 ?_;exact a.1):p:=h ⟨a⟩
theorem A6(a:q)(h:ZH q->p:=by intro a;refine mA ?_;refine Z70 ?_;exact a.1):p:=h ⟨a⟩
theorem A5(a:q)(h:ZH q->p:=by intro a;refine KO.eqS rfl rfl rfl ?_;exact a.1):p:=h ⟨a⟩
theorem A4(a:q)(h:ZH q->p:=by intro a;refine KO.neN rfl bH rfl ?_;exact a.1):p:=h ⟨a⟩
theorem T_(a:q)(h:ZH q->p:=by intro a;refine KO.ld (v:=bA bh) rfl rfl isAgg29 bo aQ rfl ?_;exact a.1):p:=h ⟨a⟩
theorem acw(a:q)(h:ZH q->p:=by intro a;refine ji ?_;refine KO.xe (pl:=[(0,1),(1,1)]) rfl zeroValue130 runUnderlying130 (by intro w;simp[sizeOf127,sizeOf128]) aQ rfl ?_;exact a.1):p:=h ⟨a⟩
theorem Yo(a:q)(h:ZH q->p:=by intro a;refine KO.ldE rfl rfl isAgg3 bZ (fun _=>rfl) xG aQ aQ rfl ?_;refine vy ?_;exact a.1):p:=h ⟨a⟩
theorem Yn(a:q)(h:ZH q->p:=by intro a;refine K.conv (fun w' hw'=>dD hvv hGl (hw'.pick (A:=cr gV vs S.G) bo)) ?_;exact a.1):p:=h ⟨a⟩
theorem BH(a:q)(h:ZH q->p:=by intro a;refine yx ?_;refine Em ?_;exact a.1):p:=h ⟨a⟩
theorem Ym(a:q)(h:ZH q->p:=by intro a;refine Qb ?_;refine KO.ld (v:=.string x.queue) rfl rfl isAgg9 bZ aQ rfl ?_;exact a.1):p:=h ⟨a⟩
theorem xo(a:q)(h:ZH q->p:=by intro a;refine K.cV rfl rfl ?_;exact a.1):p:=h ⟨a⟩
theorem Yl(a:q)(h:ZH q->p:=by intro a;refine K.conv (fun w' hw'=>dD huv hPl (hw'.pick (A:=cr Bg us S.P) bo)) ?_;exact a.1):p:=h ⟨a⟩
theorem A3(a:q)(h:ZH q->p:=by intro a;refine Z3 ?_;refine lK ?_;exact a.1):p:=h ⟨a⟩
theorem A2(a:q)(h:ZH q->p:=by intro a;refine HQ ?_;refine Z1 ?_;exact a.1):p:=h ⟨a⟩
theorem Qk(a:q)(h:ZH q->p:=by intro a;refine KO.ld rfl rfl isAgg49 bo aQ rfl ?_;exact a.1):p:=h ⟨a⟩
theorem Qj(a:q)(h:ZH q->p:=by intro a;refine KO.ld rfl rfl isAgg29 bo aQ rfl ?_;exact a.1):p:=h ⟨a⟩
theorem Ei(a:q)(h:ZH q->p:=by intro a;refine ky ?_;refine acN ?_;exact a.1):p:=h ⟨a⟩
theorem Eh(a:q)(h:ZH q->p:=by intro a;refine JG ?_;refine BJ ?_;exact a.1):p:=h ⟨a⟩
theorem BG(a:q)(h:ZH q->p:=by intro a;refine rA ?_;refine D_ ?_;exact a.1):p:=h ⟨a⟩
theorem Yj(a:q)(h:ZH q->p:=by intro a;refine KO.abZ (off:=0) rfl runUnderlying130 rfl rfl sizeOf127 rfl ?_;exact a.1):p:=h ⟨a⟩
theorem Yi(a:q)(h:ZH q->p:=by intro a;refine KO.abZ (off:=1) rfl runUnderlying130 rfl rfl sizeOf128 rfl ?_;exact a.1):p:=h ⟨a⟩
theorem Qi(a:q)(h:ZH q->p:=by intro a;refine KO.ld rfl rfl isAgg4 bZ aQ rfl ?_;exact a.1):p:=h ⟨a⟩
theorem BF(a:q)(h:ZH q->p:=by intro a;refine Z3 ?_;refine Yt ?_;exact a.1):p:=h ⟨a⟩
theorem Hb(a:q)(h:ZH q->p:=by intro a;refine KO.cat rfl rfl Y23 rfl ?_;exact a.1):p:=h ⟨a⟩
theorem acv(a:q)(h:ZH q->p:=by intro a;refine KQ.conv (fun w hw=>(St.zr (B:=[bP l (.loop ⟨.busy,none,fn,tm,#[p],assign,body,b⟩),bP b (.deferred (some []))]) hw)) ?_;exact a.1):p:=h ⟨a⟩
theorem Yh(a:q)(h:ZH q->p:=by intro a;refine Z24 ?_;refine KO.dB (i:=1) rfl rfl isAgg161 bZ rfl rfl rfl ?_;exact a.1):p:=h ⟨a⟩
theorem yA(a:q)(h:ZH q->p:=by intro a;refine K.dp rfl rfl ?_;exact a.1):p:=h ⟨a⟩
theorem acu(a:q)(h:ZH q->p:=by intro a;refine KO.gd (off:=44) rfl runUnderlying62 rfl rfl sizeOf4 rfl ?_;refine KO.dB (i:=44) rfl rfl isAgg4 bZ rfl abp rfl ?_;exact a.1):p:=h ⟨a⟩
theorem Yg(a:q)(h:ZH q->p:=by intro a;refine KO.gd (off:=1) rfl runUnderlying122 rfl rfl sizeOf3 rfl ?_;exact a.1):p:=h ⟨a⟩
theorem Yf(a:q)(h:ZH q->p:=by intro a;refine KO.fo (off:=0) rfl runUnderlying125 rfl rfl sizeOf86 rfl ?_;exact a.1):p:=h ⟨a⟩
theorem Eg(a:q)(h:ZH q->p:=by intro a;refine rB ?_;refine BL ?_;exact a.1):p:=h ⟨a⟩
theorem Ef(a:q)(h:ZH q->p:=by intro a;refine Jo ?_;refine BK ?_;exact a.1):p:=h ⟨a⟩
theorem Ee(a:q)(h:ZH q->p:=by intro a;refine qp ?_;refine BL ?_;exact a.1):p:=h ⟨a⟩
theorem Ed(a:q)(h:ZH q->p:=by intro a;refine A1 ?_;refine Z83 ?_;refine o_ ?_;exact a.1):p:=h ⟨a⟩
theorem BE(a:q)(h:ZH q->p:=by intro a;refine Z7 ?_;refine ZG ?_;exact a.1):p:=h ⟨a⟩
theorem BD(a:q)(h:ZH q->p:=by intro a;refine KO.on rfl rfl Y67 ?_;exact a.1):p:=h ⟨a⟩
theorem Ye(a:q)(h:ZH q->p:=by intro a;refine KO.fo (off:=0) rfl runUnderlying44 rfl rfl sizeOf3 rfl ?_;exact a.1):p:=h ⟨a⟩
theorem Ha(a:q)(h:ZH q->p:=by intro a;refine Qf ?_;refine nB ?_;exact a.1):p:=h ⟨a⟩
theorem Ec(a:q)(h:ZH q->p:=by intro a;refine Uf ?_;refine Z1 ?_;exact a.1):p:=h ⟨a⟩
theorem acs(a:q)(h:ZH q->p:=by intro a;refine KO.kM (i:=j) rfl rfl runUnderlying40 sizeOf9 rfl ae rfl ?_;refine KO.sE rfl rfl isAgg9 hq rfl ?_;exact a.1):p:=h ⟨a⟩
theorem G_(a:q)(h:ZH q->p:=by intro a;refine Ub ?_;refine A1 ?_;exact a.1):p:=h ⟨a⟩
theorem G9(a:q)(h:ZH q->p:=by intro a;refine jI ?_;refine sN ?_;exact a.1):p:=h ⟨a⟩
theorem G8(a:q)(h:ZH q->p:=by intro a;refine Hg ?_;refine VA ?_;exact a.1):p:=h ⟨a⟩
theorem Eb(a:q)(h:ZH q->p:=by intro a;refine rA ?_;refine Z1 ?_;exact a.1):p:=h ⟨a⟩
theorem acr(a:q)(h:ZH q->p:=by intro a;refine acx ?_;refine vO ?_;exact a.1):p:=h ⟨a⟩
theorem Ea(a:q)(h:ZH q->p:=by intro a;refine Qf ?_;refine Z1 ?_;exact a.1):p:=h ⟨a⟩
theorem Qh(a:q)(h:ZH q->p:=by intro a;refine Ej ?_;refine K.cV rfl Y74 ?_;exact a.1):p:=h ⟨a⟩
theorem Yd(a:q)(h:ZH q->p:=by intro a;refine acx ?_;refine KO.rem rfl rfl ai ae rfl ?_;exact a.1):p:=h ⟨a⟩
theorem Yc(a:q)(h:ZH q->p:=by intro a;refine KO.ldb hw rfl rfl isAgg3 bZ aQ rfl ?_;refine D_ ?_;exact a.1):p:=h ⟨a⟩
theorem Qg(a:q)(h:ZH q->p:=by intro a;refine ZE ?_;refine tL ?_;refine KO.sE rfl rfl isAgg3 c1 rfl ?_;refine D_ ?_;refine Z1 ?_;exact a.1):p:=h ⟨a⟩
theorem acq(a:q)(h:ZH q->p:=by intro a;refine A1 ?_;refine Qm ?_;exact a.1):p:=h ⟨a⟩
theorem G7(a:q)(h:ZH q->p:=by intro a;refine kp ?_;refine Yk ?_;refine Z1 ?_;exact a.1):p:=h ⟨a⟩
theorem Yb(a:q)(h:ZH q->p:=by intro a;refine KO.uS rfl rfl isAgg256 sizeOf256 bZ aQ rfl ?_;exact a.1):p:=h ⟨a⟩
theorem MT(a:q)(h:ZH q->p:=by intro a;refine KO.uD rfl xG rfl rfl ?_;exact a.1):p:=h ⟨a⟩
theorem Ya(a:q)(h:ZH q->p:=by intro a;refine vy ?_;refine KO.rem rfl rfl ae ae rfl ?_;exact a.1):p:=h ⟨a⟩
theorem T9(a:q)(h:ZH q->p:=by intro a;refine Qy ?_;refine KO.no rfl rfl rfl rfl ?_;exact a.1):p:=h ⟨a⟩
theorem JE(a:q)(h:ZH q->p:=by intro a;refine acr ?_;refine acq ?_;refine M0 ?_;exact a.1):p:=h ⟨a⟩
theorem JD(a:q)(h:ZH q->p:=by intro a;refine xE ?_;refine A_ ?_;exact a.1):p:=h ⟨a⟩
theorem X_(a:q)(h:ZH q->p:=by intro a;refine Uq ?_;refine KO.ld rfl rfl isAgg55 bo aQ rfl ?_;exact a.1):p:=h ⟨a⟩
theorem X9(a:q)(h:ZH q->p:=by intro a;refine KO.uS rfl rfl isAgg75 sizeOf75 bZ aQ rfl ?_;exact a.1):p:=h ⟨a⟩
theorem acp(a:q)(h:ZH q->p:=by intro a;refine KO.iw (i:=2) (sz:=1) (cf:=ln) (e:=wc) rfl rfl isAgg9 bo (fun _=>rfl) rfl aQ aQ rfl ?_;exact a.1):p:=h ⟨a⟩
theorem T8(a:q)(h:ZH q->p:=by intro a;refine Qg ?_;refine KO.no rfl rfl Y6 rfl ?_;exact a.1):p:=h ⟨a⟩
theorem G6(a:q)(h:ZH q->p:=by intro a;refine Z8 ?_;refine Z97 ?_;exact a.1):p:=h ⟨a⟩
theorem G5(a:q)(h:ZH q->p:=by intro a;refine KO.on rfl rfl Y80 ?_;exact a.1):p:=h ⟨a⟩
theorem JC(a:q)(h:ZH q->p:=by intro a;refine Ql ?_;refine x8 ?_;exact a.1):p:=h ⟨a⟩
theorem JB(a:q)(h:ZH q->p:=by intro a;refine Z21 ?_;refine He ?_;exact a.1):p:=h ⟨a⟩
theorem JA(a:q)(h:ZH q->p:=by intro a;refine vC ?_;refine x8 ?_;exact a.1):p:=h ⟨a⟩
theorem Jz(a:q)(h:ZH q->p:=by intro a;refine dR ?_;refine Qd ?_;exact a.1):p:=h ⟨a⟩
theorem X8(a:q)(h:ZH q->p:=by intro a;refine lL ?_;refine KO.neB rfl rfl underlying4 rfl ?_;exact a.1):p:=h ⟨a⟩
theorem T7(a:q)(h:ZH q->p:=by intro a;refine A8 ?_;refine KO.neS rfl rfl rfl ?_;exact a.1):p:=h ⟨a⟩
theorem aco(a:q)(h:ZH q->p:=by intro a;refine Ha ?_;refine KO.eX (i:=0) rfl rfl runUnderlying115 sizeOf9 rfl ai rfl ?_;exact a.1):p:=h ⟨a⟩
theorem X7(a:q)(h:ZH q->p:=by intro a;refine Z40 ?_;refine KO.sE rfl rfl isAgg4 hc3 rfl ?_;exact a.1):p:=h ⟨a⟩
theorem X6(a:q)(h:ZH q->p:=by intro a;refine KO.len rfl underlying115 rfl ?_;refine ox ?_;exact a.1):p:=h ⟨a⟩
theorem G4(a:q)(h:ZH q->p:=by intro a;refine Z0 ?_;refine Z8 ?_;exact a.1):p:=h ⟨a⟩
theorem acn(a:q)(h:ZH q->p:=by intro a;refine Z1 ?_;refine KO.eX (i:=j) rfl rfl runUnderlying162 sizeOf258 rfl ae rfl ?_;exact a.1):p:=h ⟨a⟩
theorem Jy(a:q)(h:ZH q->p:=by intro a;refine Z9 ?_;refine Er ?_;exact a.1):p:=h ⟨a⟩
theorem Jx(a:q)(h:ZH q->p:=by intro a;refine qE ?_;refine Z1 ?_;exact a.1):p:=h ⟨a⟩
theorem Jw(a:q)(h:ZH q->p:=by intro a;refine vP ?_;refine lJ ?_;exact a.1):p:=h ⟨a⟩
theorem Jv(a:q)(h:ZH q->p:=by intro a;refine Z3 ?_;refine Z50 ?_;refine KO.mki rfl bH rfl ?_;exact a.1):p:=h ⟨a⟩
theorem Ju(a:q)(h:ZH q->p:=by intro a;refine rA ?_;refine tL ?_;exact a.1):p:=h ⟨a⟩
theorem Jt(a:q)(h:ZH q->p:=by intro a;refine rB ?_;refine jH ?_;exact a.1):p:=h ⟨a⟩
theorem Js(a:q)(h:ZH q->p:=by intro a;refine Z1 ?_;refine vB ?_;exact a.1):p:=h ⟨a⟩
theorem Jr(a:q)(h:ZH q->p:=by intro a;refine lJ ?_;refine lL ?_;exact a.1):p:=h ⟨a⟩
theorem Jq(a:q)(h:ZH q->p:=by intro a;refine Qm ?_;refine vy ?_;exact a.1):p:=h ⟨a⟩
theorem Jp(a:q)(h:ZH q->p:=by intro a;refine Z8 ?_;refine acN ?_;exact a.1):p:=h ⟨a⟩
end
namespace WB
open Go Go.RowKit
abbrev PH:=Nat->Option Obj
def HP:=PH->Prop
def vG (h1 h2:PH):Prop:= ∀k,h1 k=none\/h2 k=none
def qe (h1 h2:PH):PH:=fun k=>(h1 k).or (h2 k)
def emp:HP:=fun h=>∀k,h k=none
def sep (A B:HP):HP:=fun h=> ∃h1 h2,vG h1 h2/\h=qe h1 h2/\A h1/\B h2
def bP (b:Nat) (o:Obj):HP:=fun h=>h b=some o/\∀k,k≠b->h k=none
def LH (p:Prop):HP:=fun h=>p/\emp h
def ex {α:Sort _} (A:α->HP):HP:=fun h=> ∃x,A x h
def ij:List HP->HP
 |[]=>emp
 |a::l=>sep a (ij l)
structure St (w0:World) (L:List HP) (w:World):Prop where
 os:w.os=w0.os
 tape:w.tape=w0.tape
 output:w.output=w0.output
 size:w0.heap.size<=w.heap.size
 block:∀k,k<w0.heap.size->w.heap[k]? =w0.heap[k]?
 own:∃h:PH,(∀k o,h k=some o->w0.heap.size<=k/\w.heap[k]? =some o)/\ij L h
inductive bQ:List HP->HP->List HP->Prop
 |head {a:HP} {L:List HP}:bQ (a::L) a L
 |tail {x a:HP} {L R:List HP}:bQ L a R->bQ (x::L) a (x::R)
theorem uj{h1 h2:PH}(d:vG h1 h2):qe h1 h2=qe h2 h1:=by
 funext k;unfold qe
 rcases d k with h|h<;>simp[h]
theorem vG.symm{h1 h2:PH}(d:vG h1 h2):vG h2 h1:=fun k=>(d k).symm
theorem oD(h1 h2 h3:PH):qe (qe h1 h2) h3=qe h1 (qe h2 h3):=by
 funext k;unfold qe;cases h1 k<;>simp
theorem oY{h1 h2 h3:PH}:vG (qe h1 h2) h3↔vG h1 h3/\vG h2 h3:=by
 constructor
 ·intro d
  constructor<;>intro k<;>have :=d k<;>simp[qe]at this <;>rcases this with h|h<;>simp[h]
 ·rintro⟨d1,d2⟩ k
  rcases d1 k with h|h
  ·rcases d2 k with h'|h'
   ·left;simp[qe,h,h']
   ·right;exact h'
  ·right;exact h
theorem mN{h1 h2 h3:PH}:vG h3 (qe h1 h2)↔vG h3 h1/\vG h3 h2:=by
 constructor
 ·intro d;exact⟨(oY.1 d.symm).1.symm,(oY.1 d.symm).2.symm⟩
 ·rintro⟨a,b⟩;exact(oY.2 ⟨a.symm,b.symm⟩).symm
theorem Fa{A B:HP}{h:PH}(H:sep A B h):sep B A h:=by
 obtain⟨h1,h2,d,rfl,a,b⟩:=H
 exact⟨h2,h1,d.symm,uj d,b,a⟩
theorem mF{A B C:HP}{h:PH}:sep (sep A B) C h↔sep A (sep B C) h:=by
 constructor
 ·rintro⟨Xu,h3,d,rfl,⟨h1,h2,d',rfl,a,b⟩,c⟩
  rw[oY]at d
  exact⟨h1,qe h2 h3,mN.2 ⟨d',d.1⟩,oD _ _ _,a,h2,h3,d.2,rfl,b,c⟩
 ·rintro⟨h1,h23,d,rfl,a,h2,h3,d',rfl,b,c⟩
  rw[mN]at d
  exact⟨qe h1 h2,h3,oY.2 ⟨d.2,d'⟩,(oD _ _ _).symm,⟨h1,h2,d.1,rfl,a,b⟩,c⟩
theorem gL{A A' B B':HP}(ha:∀h,A h->A' h)(hb:∀h,B h->B' h){h:PH}(H:sep A B h):sep A' B' h:=by
 obtain⟨h1,h2,d,e,a,b⟩:=H
 exact⟨h1,h2,d,e,ha _ a,hb _ b⟩
theorem zz{A B C:HP}{h:PH}(H:sep A (sep B C) h):sep B (sep A C) h:=by
 have :=mF.2 H
 exact mF.1 (gL (fun _ x=>Fa x) (fun _ x=>x) this)
theorem yN{h1 h2:PH}(e:∀k,h1 k=none):qe h1 h2=h2:=by
 funext k;simp[qe,e]
theorem DX{A:HP}{h:PH}:sep emp A h↔A h:=by
 constructor
 ·rintro⟨h1,h2,d,rfl,e,a⟩
  rwa [yN e]
 ·intro a
  exact⟨fun _=>none,h,fun k=>.inl rfl,(yN (fun _=>rfl)).symm,fun _=>rfl,a⟩
theorem dU{L L':List HP}{h:PH}:ij (L++L') h↔sep (ij L) (ij L') h:=by
 induction L generalizing h with
 |nil=>simp only[List.nil_append,ij];exact DX.symm
 |cons a L ih=>
  simp only[bF,ij]
  constructor
  ·intro H
   exact mF.2 (gL (fun _ x=>x) (fun _ x=>ih.1 x) H)
  ·intro H
   exact gL (fun _ x=>x) (fun _ x=>ih.2 x) (mF.1 H)
theorem bQ.ij{L R:List HP}{a:HP}(p:bQ L a R){h:PH}(H:WB.ij L h):WB.ij (a::R) h:=by
 induction p generalizing h with
 |head=>exact H
 |tail _ ih=>exact zz (gL (fun _ x=>x) (fun _ x=>ih x) H)
theorem bQ.VO{L R:List HP}{a:HP}(p:bQ L a R){h:PH}(H:WB.ij (a::R) h):WB.ij L h:=by
 induction p generalizing h with
 |head=>exact H
 |tail _ ih=>exact gL (fun _ x=>x) (fun _ x=>ih x) (zz H)
namespace St
variable {w0 w:World} {L L' R:List HP} {A B:HP}
theorem jW(h:St w0 L w)(f:∀x,ij L x->ij L' x):St w0 L' w:=
 {h with own:=let⟨x,a,b⟩:=h.own;⟨x,a,f x b⟩}
theorem pick(h:St w0 L w)(p:bQ L A R):St w0 (A::R) w:=h.jW fun _=>p.ij
theorem zl(h:St w0 (A::R) w)(p:bQ L A R):St w0 L w:=h.jW fun _=>p.VO
theorem imp(h:St w0 (A::L) w)(f:∀x,A x->B x):St w0 (B::L) w:=h.jW fun _=>gL f fun _ x=>x
theorem drop(h:St w0 (A::L) w):St w0 L w:=by
 obtain⟨x,hx,h1,h2,d,rfl,a,b⟩:=h.own
 refine {h with own:=⟨h2,fun k o hk=>hx k o ?_,b⟩}
 rcases d k with e|e
 ·simp[qe,e,hk]
 ·simp[hk]at e
theorem split(h:St w0 (sep A B::L) w):St w0 (A::B::L) w:=h.jW fun _ x=>mF.1 x
theorem join(h:St w0 (A::B::L) w):St w0 (sep A B::L) w:=h.jW fun _ x=>mF.2 x
theorem splits(h:St w0 (ij L::L') w):St w0 (L++L') w:=h.jW fun _ x=>dU.2 x
theorem FM(h:St w0 (L++L') w):St w0 (ij L::L') w:=h.jW fun _ x=>dU.1 x
theorem CN{α:Sort _}{F:α->HP}(h:St w0 (ex F::L) w):∃x,St w0 (F x::L) w:=by
 obtain⟨x,hx,h1,h2,d,e,⟨y,a⟩,b⟩:=h.own
 exact⟨y,{h with own:=⟨x,hx,h1,h2,d,e,a,b⟩}⟩
theorem Bv{α:Sort _}{F:α->HP}(y:α)(h:St w0 (F y::L) w):St w0 (ex F::L) w:=h.imp fun _ x=>⟨y,x⟩
theorem sZ{p:Prop}(h:St w0 (LH p::L) w):p/\St w0 L w:=by
 refine⟨?_,h.drop⟩
 obtain⟨x,hx,h1,h2,d,e,a,b⟩:=h.own
 exact a.1
theorem yl{p:Prop}(hp:p)(h:St w0 L w):St w0 (LH p::L) w:=
 h.jW fun _ x=>gL (fun _ e=>⟨hp,e⟩) (fun _ x=>x) (DX.2 x)
theorem ab4(h:St w0 L w):St w0 (emp::L) w:=h.jW fun _ x=>DX.2 x
theorem look{b:Nat}{o:Obj}(h:St w0 (bP b o::L) w):w0.heap.size<=b/\w.heap[b]? =some o:=by
 obtain⟨x,hx,h1,h2,d,rfl,a,_⟩:=h.own
 exact hx b o (by simp[qe,a.1])
theorem qh{b:Nat}{o:Obj}(h:St w0 L w)(p:bQ L (bP b o) R):w0.heap.size<=b/\w.heap[b]? =some o:=(h.pick p).look
theorem lt{b:Nat}{o:Obj}(h:St w0 (bP b o::L) w):b<w.heap.size:=by
 have :=h.look.2
 exact(Array.getElem?_eq_some_iff.1 this).1
theorem ne{b b':Nat}{o o':Obj}(h:St w0 (bP b o::bP b' o'::L) w):b≠b':=by
 rintro rfl
 obtain⟨x,hx,h1,h2,d,rfl,a,h3,h4,d',rfl,a',_⟩:=h.own
 have :=d b
 simp[a.1,qe,a'.1]at this
theorem init(w0:World):St w0 [] w0:=⟨rfl,rfl,rfl,aD _,fun _ _=>rfl,⟨fun _=>none,fun _ _ h=>by simp at h,fun _=>rfl⟩⟩
theorem below(h:St w0 L w):Below w0.heap.size w0 w:=⟨h.os,h.tape,h.output,h.size,h.block⟩
theorem drew(h:St w0 L w):St w0 L w.drew:=⟨h.os,h.tape,h.output,h.size,h.block,h.own⟩
theorem upd{b:Nat}{o o':Obj}{w':World}(h:St w0 (bP b o::L) w)(e1:w'.os=w.os)(e2:w'.tape=w.tape)(e3:w'.output=w.output)(e4:w'.heap.size=w.heap.size)(e5:w'.heap[b]? =some o')(e6:∀k,k≠b->w'.heap[k]? =w.heap[k]?):St w0 (bP b o'::L) w':=by
 obtain⟨hb,_⟩:=h.look
 obtain⟨x,hx,h1,h2,d,rfl,a,c⟩:=h.own
 refine⟨e1.trans h.os,e2.trans h.tape,e3.trans h.output,by rw[e4];exact h.size,fun k hk=>by rw[e6 k ae];exact h.block k hk,?_⟩
 refine⟨qe (fun k=>if k=b then some o' else none) h2,fun k v hk=>?_,_,h2,?_,rfl,?_,c⟩
 ·by_cases e:k=b
  ·subst e
   simp[qe]at hk
   subst hk
   exact⟨hb,e5⟩
  ·simp[qe,e]at hk
   rw[e6 k e]
   exact hx k v (by simp[qe,hk,a.2 k e])
 ·intro k
  by_cases e:k=b
  ·subst e
   have :=d k
   simp[a.1]at this
   exact .inr this
  ·exact .inl (by simp[e])
 ·exact⟨by simp,fun k hk=>by simp[hk]⟩
theorem alloc(h:St w0 L w)(o:Obj):St w0 (bP w.heap.size o::L) (w.alloc o):=by
 obtain⟨x,hx,c⟩:=h.own
 have aaY:∀k,w.heap.size<=k->x k=none:=fun k hk=>by
  cases e:x k with
  |none=>rfl
  |some v=>have :=(hx k v e).2;rw[Array.getElem?_eq_none hk]at this;simp at this
 refine⟨h.os,h.tape,h.output,by simp;have :=h.size;omega,fun k hk=>?_,?_⟩
 ·rw[Below.heap_alloc _ _ _ (by have :=h.size;omega)];exact h.block k hk
 ·refine⟨qe (fun k=>if k=w.heap.size then some o else none) x,fun k v hk=>?_,_,x,?_,rfl,?_,c⟩
  ·by_cases e:k=w.heap.size
   ·subst e
    simp[qe]at hk
    subst hk
    exact⟨h.size,by show(w.heap.push o)[w.heap.size]? =_;simp⟩
   ·simp[qe,e]at hk
    have :=hx k v hk
    refine⟨this.1,?_⟩
    rw[Below.heap_alloc _ _ _ ?_]
    ·exact this.2
    ·exact(Array.getElem?_eq_some_iff.1 this.2).1
  ·intro k
   by_cases e:k=w.heap.size
   ·exact .inr (aaY k ae)
   ·exact .inl (by simp[e])
  ·exact⟨by simp,fun k hk=>by simp[hk]⟩
end St
end WB
namespace WB
open Go Go.RowKit
def Edge.always (e:Edge):Bool:=match e.ground with| .textOnly _=>false| .gcOnly _=>false|_=>true
def tx (o:Oper):List Nat:=(o.after.toList.filter Edge.always).map (·.on)
theorem kI:∀(l l':List Nat),l.Nodup->(∀x∈l,x∈l')->l.length<=l'.length
 |[],_,_,_=>aV _
 |a::l,l',hn,h=>by
  have ha:a∈l':=h a (List.mem_cons_self)
  have :=kI l (l'.erase a) (bI.1 hn).2 (fun x hx=>by
   have gN:x≠a:=fun e=>(bI.1 hn).1 (e▸hx)
   exact(List.mem_erase_of_ne gN).2 (h x (List.mem_cons_of_mem _ hx)))
  rw[List.length_erase_of_mem ha]at this
  have hp:0<l'.length:=List.length_pos_of_mem ha
  simp only[List.length_cons];omega
def Valid (ops:Array Oper) (l:List Nat):Prop:=
 l.Nodup/\(∀i,i∈l↔i<ops.size)/\∀p i s,l=p++i::s->∀o,ops[i]? =some o->∀d∈tx o,d∈p
theorem MO(e:Edge):Region.binds .any e=Edge.always e:=by
 unfold Region.binds Edge.always;cases e.ground<;>rfl
theorem nh(m:Region.Mode)(hm:m=.any)(ops:Array Oper)(dS:∀(i:Nat) (o:Oper),ops[i]? =some o->∀d∈tx o,d<i):
 ∀(fuel t:Nat) (listed:Array Bool) (acc:List Nat),listed.size=ops.size->
  (∀i,i<ops.size->(listed.getD i false=true↔i∈acc))->(∀i∈acc,i<ops.size)->acc.Nodup->fuel+acc.length=ops.size->
  (∀p i s,acc.reverse=p++i::s->∀o,ops[i]? =some o->∀d∈tx o,d∈p)->
  Valid ops (Region.linearise.go m ops fuel t listed acc)
 |0,t,listed,acc,hs,hl,hr,hn,hf,hv=>by
  unfold Region.linearise.go
  refine⟨(List.reverse_perm acc).nodup_iff.2 hn,fun i=>?_,hv⟩
  rw[List.mem_reverse]
  refine⟨hr i,fun hi=>Classical.byContradiction fun WW=>?_⟩
  have :=kI (i::acc) (List.range ops.size) (bI.2 ⟨WW,hn⟩) (fun x hx=>by
   rcases aF.1 hx with rfl|hx
   ·exact aO.2 hi
   ·exact aO.2 (hr x hx))
  simp at this;omega
 |fuel+1,t,listed,acc,hs,hl,hr,hn,hf,hv=>by
  unfold Region.linearise.go
  have hex:∃i,i<ops.size/\i∉acc/\∀j,j<i->j∈acc:=by
   have gN:∃i,i<ops.size/\i∉acc:=by
    refine Classical.byContradiction fun hc=>?_
    have fw:∀i,i<ops.size->i∈acc:=fun i hi=>Classical.byContradiction fun h=>hc ⟨i,hi,h⟩
    have :=kI (List.range ops.size) acc List.nodup_range (fun x hx=>fw x (aO.1 hx))
    simp at this;omega
   obtain⟨i,hi⟩:=gN
   have :∀n,∀i,i<=n->(i<ops.size/\i∉acc)->∃i,i<ops.size/\i∉acc/\∀j,j<i->j∈acc:=by
    intro n
    induction n with
    |zero=>intro i qm hi;exact⟨i,hi.1,hi.2,fun j hj=>by omega⟩
    |succ n ih=>
     intro i qm hi
     by_cases hc:∃j,j<i/\j∉acc
     ·obtain⟨j,hj,hja⟩:=hc
      exact ih j ae ⟨by omega,hja⟩
     ·exact⟨i,hi.1,hi.2,fun j hj=>Classical.byContradiction fun h=>hc ⟨j,hj,h⟩⟩
   exact this i i (aD _) hi
  have mg:∀i,i<ops.size->∀b,listed.getD i b=listed.getD i false:=by
   intro i hi b
   simp[Array.getD,hs,hi]
  generalize S2:((List.range ops.size).filter fun i=> !listed.getD i true&&((ops[i]?).map (·.after.all fun e=> !Region.binds m e||listed.getD e.on false)).getD false)=rs
  have lC:∀i,i∈rs↔i<ops.size/\i∉acc/\∃o,ops[i]? =some o/\(o.after.all fun e=> !Region.binds m e||listed.getD e.on false)=true:=by
   intro i
   rw[<-S2,aC,aO]
   constructor
   ·rintro⟨hi,h⟩
    simp only[bn,Bool.not_eq_true']at h
    rw[mg i hi]at h
    refine⟨hi,fun hc=>?_,ops[i],by simp[hi],?_⟩
    ·have :=(hl i hi).2 hc;simp[this]at h
    ·have h2:=h.2;simp only[Array.getElem?_eq_getElem hi,Option.map_some,Option.getD_some]at h2;exact h2
   ·rintro⟨hi,WW,o,ho,h⟩
    refine⟨hi,?_⟩
    rw[mg i hi]
    have :listed.getD i false=false:=by
     cases hb:listed.getD i false with
     |false=>rfl
     |true=>exact absurd ((hl i hi).1 hb) WW
    simp only[this,ho,Option.map_some,Option.getD_some,h,Bool.not_false,Bool.and_self]
  have DM:rs≠[]:=by
   obtain⟨i,hi,WW,fw⟩:=hex
   have :i∈rs:=(lC i).2 ⟨hi,WW,ops[i],by simp[hi],by
    rw[Array.all_eq_true']
    intro e he
    cases hb:Region.binds m e with
    |false=>simp
    |true=>
     rw[hm,MO]at hb
     have Tb:=dS i ops[i] (by simp[hi]) e.on (ay.2 ⟨e,aC.2 ⟨Array.mem_toList_iff.2 he,hb⟩,rfl⟩)
     have :listed.getD e.on false=true:=(hl e.on ae).2 (fw _ Tb)
     simp[this]⟩
   intro h;rw[h]at this;simp at this
  have hlen:0<rs.length:=List.length_pos_iff.2 DM
  have S_:t%rs.length<rs.length:=Nat.mod_lt _ hlen
  have aaM:rs[t%rs.length]? =some (rs[t%rs.length]'S_):=ao S_
  simp only[aaM]
  have qm:=(lC (rs[t%rs.length]'S_)).1 (List.getElem_mem _)
  generalize (rs[t%rs.length]'S_)=i at qm ⊢
  obtain⟨hi,WW,o,ho,fw⟩:=qm
  refine nh m hm ops dS fuel _ _ _ (by simp[hs]) ?_ ?_ (bI.2 ⟨WW,hn⟩) ga ?_
  ·intro k hk
   by_cases e:k=i
   ·subst e;simp[Array.getD,hs,hi]
   ·have h2:(listed.setIfInBounds i true).getD k false=listed.getD k false:=by
     simp[Array.getD,hs,hk,Ne.symm e]
    rw[h2,hl k hk]
    simp[e]
  ·intro k hk
   rcases aF.1 hk with rfl|hk
   ·exact hi
   ·exact hr k hk
  ·intro p j s hp o' ho' d hd
   rw[List.reverse_cons]at hp
   rcases List.eq_nil_or_concat s with rfl|⟨s',x,rfl⟩
   ·have h2:=List.append_inj' hp rfl
    have hij:i=j:=by simpa using h2.2
    subst hij
    rw[<-h2.1,List.mem_reverse]
    rw[ho]at ho';cases ho'
    obtain⟨e,he,rfl⟩:=ay.1 hd
    obtain⟨I1,fQ⟩:=aC.1 he
    rw[Array.all_eq_true']at fw
    have h3:=fw e (Array.mem_toList_iff.1 I1)
    have hb:Region.binds m e=true:=by
     unfold Edge.always at fQ;unfold Region.binds;cases hg:e.ground<;>simp_all
    simp[hb]at h3
    exact(hl _ (by have :=dS i o ho e.on (ay.2 ⟨e,aC.2 ⟨I1,fQ⟩,rfl⟩);omega)).1 (by rw[Array.getD_eq_getD_getElem?];exact h3)
   ·have :acc.reverse++[i]=(p++j::s')++[x]:=by simpa[List.concat_eq_append]using hp
    have h2:=List.append_inj' this rfl
    exact hv p j s' h2.1 o' ho' d hd
theorem jQ(mixed:Bool)(q_:mixed=true)(ops:Array Oper)(t:Nat)(dS:∀(i:Nat) (o:Oper),ops[i]? =some o->∀d∈tx o,d<i):
 Valid ops (Region.schedule mixed ops t):=by
 have :Valid ops (Region.linearise .any ops t):=by
  unfold Region.linearise
  refine nh _ rfl ops dS _ _ _ _ aj ?_ aj List.nodup_nil aj ?_
  ·intro i hi;simp[Array.getD,hi]
  ·intro p i s h;simp at h
 unfold Region.schedule
 rw[q_,Bool.true_or,if_pos rfl]
 exact this
inductive Kd|pure|read|same|dm|write
 deriving DecidableEq
def Kd.oQ:Kd->Bool| .pure| .read| .same=>true|_=>false
def Ext (w w':World):Prop:=w.heap.size<=w'.heap.size/\∀k,k<w.heap.size->w'.heap[k]? =w.heap[k]?
theorem Ext.refl(w:World):Ext w w:=⟨aD _,fun _ _=>rfl⟩
theorem Ext.trans{a b c:World}(h:Ext a b)(k:Ext b c):Ext a c:=⟨Nat.le_trans h.1 k.1,fun i hi=>(k.2 i (Nat.lt_of_lt_of_le hi h.1)).trans (h.2 i hi)⟩
theorem Ext.ct{w w':World}(h:Below w.heap.size w w'):Ext w w':=⟨h.size,h.block⟩
theorem Ext.cell{w w':World}(h:Ext w w'){a:Addr}{v:Value}(hc:w.cell? a=some v):w'.cell? a=some v:=by
 have hb:a.block<w.heap.size:=by
  unfold World.cell? at hc
  split at hc
  ·rename_i e;exact(Array.getElem?_eq_some_iff.1 e).1
  ·simp at hc
 rw[<-hc];exact World.cell?_of_block (h.2 _ hb)
def stays (k:Kd) (w w':World):Prop:=match k with| .pure=>True| .read=>Ext w w'|_=>w'=w
def La (P:Program) (m:Sem Next) (v:Value) (w:World):Prop:=
 m.run P w=.ok (.value v) w\/∃f args,m.run P w=.ok (.enter f args) w/\Calls P f args w fun e w'=>e=.returned v/\w'=w
def jd (P:Program) (ops:Array Oper) (Q:Exit->Act->World->Prop):List (Kd×Oper)->Act->World->Prop
 |[],a,w=>Q .normal a w
 |(k,o)::rest,a,w=>
  if Region.wanted o (yielded ops a.tmps)then
   match k with
   | .dm=>o.wp P a w (fun a' w'=>Ext w w'/\jd P ops Q rest a' w') (fun _ _ _=>False)
   | .write=>o.wp P a w (fun a' w'=>jd P ops Q rest a' w') (fun _ _ _=>False)
   |k=> ∃v,(∀w',stays k w w'->La P (execOp a.eval o) v w')/\jd P ops Q rest (a.put o.dst v) w
  else jd P ops Q rest (a.put o.dst undef) w
def NC:Operand->List Nat| .tmp t=>[t]|_=>[]
def jS (ops:Array Oper) (o:Oper):List Nat:=
 o.op.operands.toList.flatMap NC++(match o.guard with|some (j,_)=>((ops[j]?).bind (·.dst)).toList|none=>[])
theorem eval_put{a:Act}{d:Option Tmp}{v:Value}{x:Operand}(h:∀t,d=some t->t∉NC x):(a.put d v).eval x=a.eval x:=by
 cases d with
 |none=>rfl
 |some t=>
  cases x with
  |tmp u=>
   have :t≠u:=by have :=h t rfl;simpa[NC]using this
   simp[Act.put,Act.eval,Array.getD_eq_getD_getElem?,this]
  |_=>rfl
def mc:Op->Bool| .select .. | .defer _| .go _=>false|_=>true
theorem execOp_congr{ρ ρ':Operand->Value}{o:Oper}(hp:mc o.op=true)(h:∀x∈o.op.operands.toList,ρ x=ρ' x):execOp ρ o=execOp ρ' o:=by
 have Wg:∀(xs:Array Operand),(∀x∈xs.toList,ρ x=ρ' x)->xs.map ρ=xs.map ρ':=fun xs hx=>
  Array.map_congr_left fun x Kg=>hx x (Array.mem_toList_iff.2 Kg)
 have aan:∀(ps:Array (Nat×Operand)),(∀x∈ps.toList.map (·.2),ρ x=ρ' x)->ps.map (fun(i,x)=>(i,ρ x))=ps.map (fun(i,x)=>(i,ρ' x)):=fun ps hx=>
  Array.map_congr_left fun p hp=>by
   have :=hx p.2 (ay.2 ⟨p,Array.mem_toList_iff.2 hp,rfl⟩)
   simp[this]
 have Sw:∀(x:Option Operand),(∀y,x=some y->ρ y=ρ' y)->x.map ρ=x.map ρ':=fun x hx=>by
  cases x with
  |none=>rfl
  |some y=>simp[hx y rfl]
 have P0:∀(c:Call) (t:TypeId),(∀x∈c.operands.toList,ρ x=ρ' x)->resolve ρ c t=resolve ρ' c t:=fun c t hx=>by
  have ha:c.args.map ρ=c.args.map ρ':=Wg _ fun x Kg=>hx x (by simp[Call.operands,Array.mem_toList_iff.1 Kg])
  unfold resolve
  cases hc:c.callee with
  |value f=>simp only[ha];rw[hx f (by simp[Call.operands,hc])]
  |invoke r m=>simp only[ha];rw[hx r (by simp[Call.operands,hc])]
  |builtin b=>simp only[ha]
 rcases o with⟨dst,op,ty,pos,after,guard⟩
 unfold execOp
 cases op with
 |build t ps=>simp only[Op.operands]at h ⊢;rw[aan ps (fun x hx=>h x (by simpa using hx))]
 |buildSlice t n ps=>simp only[Op.operands]at h ⊢;rw[aan ps (fun x hx=>h x (by simpa using hx))]
 |makeFunc f xs ys=>
  simp only[Op.operands,Array.toList_append,aN]at h ⊢
  rw[Wg xs (fun x hx=>h x (.inl hx)),Wg ys (fun x hx=>h x (.inr hx))]
 |makeMap t r=>simp only[Op.operands]at h ⊢;rw[Sw r (fun y hy=>h y (by simp[hy]))]
 |slice t x l hi m=>
  simp only[Op.operands]at h ⊢
  rw[h x aj,Sw l (fun y hy=>h y (by simp[hy])),Sw hi (fun y hy=>h y (by simp[hy])),Sw m (fun y hy=>h y (by simp[hy]))]
 |call c=>simp only[Op.operands]at h ⊢;rw[P0 c _ h]
 |go c=>simp only[Op.operands]at h ⊢;rw[P0 c _ h]
 |defer c=>simp only[Op.operands]at h ⊢;rw[P0 c _ h]
 |select cs bl=>simp[mc]at hp
 |alloc=>rfl
 |ready=>rfl
 |waits=>rfl
 |_=>simp[Op.operands]at h ⊢ <;>simp[h]
theorem put_comm{a:Act}{d e:Option Tmp}{v u:Value}(h:∀x,d=some x->e≠some x):(a.put d v).put e u=(a.put e u).put d v:=by
 cases d with
 |none=>rfl
 |some x=>
  cases e with
  |none=>rfl
  |some y=>
   have gN:x≠y:=fun e=>h x rfl (by rw[e])
   simp only[Act.put]
   rw[Array.setIfInBounds_comm _ _ gN]
theorem wanted_put{ops:Array Oper}{o:Oper}{tm:Array Value}{d:Option Tmp}{v:Value}{df:List Deferred}(h:∀t,d=some t->t∉jS ops o):
 Region.wanted o (yielded ops (({tmps:=tm,defers:=df}:Act).put d v).tmps)=Region.wanted o (yielded ops tm):=by
 cases d with
 |none=>rfl
 |some t=>
  unfold Region.wanted
  cases hg:o.guard with
  |none=>rfl
  |some g=>
   obtain⟨j,want⟩:=g
   have ht:=h t rfl
   simp only[jS,hg,aN,not_or]at ht
   simp only[yielded,Act.put]
   cases hj:(ops[j]?).bind (·.dst)with
   |none=>rfl
   |some u=>
    have gN:t≠u:=by
     have :=ht.2
     rw[hj]at this
     simpa using this
    simp[gN]
theorem AB{ops:Array Oper}{o:Oper}{a:Act}{d:Option Tmp}{v:Value}(hp:mc o.op=true)(h:∀t,d=some t->t∉jS ops o):
 execOp (a.put d v).eval o=execOp a.eval o:=by
 refine execOp_congr hp fun x hx=>eval_put fun t ht hm=>h t ht ?_
 simp only[jS,aN,List.mem_flatMap]
 exact .inl ⟨x,hx,hm⟩
structure ac0 (ops:Array Oper) (o o':Oper):Prop where
 r1:∀t,o.dst=some t->t∉jS ops o'
 r2:∀t,o'.dst=some t->t∉jS ops o
 w:∀t,o.dst=some t->o'.dst≠some t
theorem ES{P:Program}{ops:Array Oper}{o:Oper}{a:Act}{w:World}{d:Option Tmp}{u:Value}{N N':Act->World->Prop}(hp:mc o.op=true)(h1:∀t,d=some t->t∉jS ops o)(h2:∀t,d=some t->o.dst≠some t)(hN:∀(x:Act) (v:Value) (w':World),x.tmps=a.tmps->N ((x.put o.dst v).put d u) w'->N' (x.put o.dst v) w')(h:o.wp P (a.put d u) w N (fun _ _ _=>False)):
 o.wp P a w N' (fun _ _ _=>False):=by
 have hc:∀v,(a.put d u).put o.dst v=(a.put o.dst v).put d u:=fun v=>put_comm h2
 unfold Oper.wp at h ⊢
 rw[AB hp h1]at h
 cases hr:(execOp a.eval o).run P w with
 |halt hh w'=>rw[hr]at h;cases hh<;>exact h
 |ok n w'=>
  rw[hr]at h
  cases n with
  |value v=>simp only[Oper.upon]at h ⊢;rw[hc]at h;exact hN a _ _ rfl h
  |skip=>simp only[Oper.upon]at h ⊢;rw[hc]at h;exact hN a _ _ rfl h
  |defer dd=>
   simp only[Oper.upon]at h ⊢
   have e:({(a.put d u)with defers:=dd::(a.put d u).defers}:Act).put o.dst undef=(({a with defers:=dd::a.defers}:Act).put o.dst undef).put d u:=by
    rw[<-put_comm h2];cases d<;>rfl
   rw[e]at h
   exact hN {a with defers:=dd::a.defers} _ _ rfl h
  |enter f args=>
   simp only[Oper.upon]at h ⊢
   refine h.mono fun e tO hh=>?_
   cases e with
   |returned v=>simp only at hh ⊢;rw[hc]at hh;exact hN a _ _ rfl hh
   |panicked c=>exact hh
   |outgrown=>obtain⟨_,_,hx⟩:=hh;exact hx.elim
  |row r args=>
   simp only[Oper.upon]at h ⊢
   refine h.mono fun v tO hh=>?_
   rw[hc]at hh;exact hN a _ _ rfl hh
  |_=>exact h
section
variable {P:Program} {ops:Array Oper} {Q:Exit->Act->World->Prop} {rest:List (Kd×Oper)} {k:Kd} {o:Oper} {a:Act} {w:World}
theorem qT(hw:Region.wanted o (yielded ops a.tmps)=false):jd P ops Q ((k,o)::rest) a w=jd P ops Q rest (a.put o.dst undef) w:=by
 cases k<;>simp[jd,hw]
theorem ei(hk:k.oQ=true)(hw:Region.wanted o (yielded ops a.tmps)=true):jd P ops Q ((k,o)::rest) a w=
 ∃v,(∀w',stays k w w'->La P (execOp a.eval o) v w')/\jd P ops Q rest (a.put o.dst v) w:=by
 cases k<;>first|(simp[Kd.oQ]at hk;done)|simp[jd,hw]
theorem ic(hw:Region.wanted o (yielded ops a.tmps)=true):jd P ops Q ((.dm,o)::rest) a w=
 o.wp P a w (fun a' w'=>Ext w w'/\jd P ops Q rest a' w') (fun _ _ _=>False):=by simp[jd,hw]
theorem eJ(hw:Region.wanted o (yielded ops a.tmps)=true):jd P ops Q ((.write,o)::rest) a w=
 o.wp P a w (fun a' w'=>jd P ops Q rest a' w') (fun _ _ _=>False):=by simp[jd,hw]
end
def Jj (k k':Kd):Prop:=k'.oQ=true\/k=.pure\/(k=.read/\k'=.dm)
theorem replay{P:Program}{ops:Array Oper}{Q:Exit->Act->World->Prop}{rest:List (Kd×Oper)}{k:Kd}{o:Oper}(hk:k.oQ=true)(hp:mc o.op=true){a x:Act}{w w':World}{d:Option Tmp}{u v:Value}(hx:x.tmps=a.tmps)(hr:∀t,d=some t->t∉jS ops o)(hw:Region.wanted o (yielded ops a.tmps)=true)(hv:∀tO,stays k w tO->La P (execOp a.eval o) v tO)(hs:∀tO,stays k w' tO->stays k w tO)(h:jd P ops Q rest ((x.put d u).put o.dst v) w'):jd P ops Q ((k,o)::rest) (x.put d u) w':=by
 have hw':Region.wanted o (yielded ops (x.put d u).tmps)=true:=by
  obtain⟨tm,df⟩:=x
  rw[wanted_put hr];rw[show tm=a.tmps from hx];exact hw
 have he:execOp (x.put d u).eval o=execOp a.eval o:=by
  rw[AB hp hr]
  exact execOp_congr hp fun y _=>by cases y<;>simp[Act.eval,hx]
 have :∃v,(∀tO,stays k w' tO->La P (execOp (x.put d u).eval o) v tO)/\jd P ops Q rest ((x.put d u).put o.dst v) w':=
  ⟨v,fun tO aX=>by rw[he];exact hv tO (hs tO aX),h⟩
 rw[ei hk hw'];exact this
theorem Ii{P:Program}{ops:Array Oper}{Q:Exit->Act->World->Prop}{rest:List (Kd×Oper)}{k:Kd}{o:Oper}{a x:Act}{w':World}{d:Option Tmp}{u:Value}(hx:x.tmps=a.tmps)(hr:∀t,d=some t->t∉jS ops o)(hw:Region.wanted o (yielded ops a.tmps)=false)(h:jd P ops Q rest ((x.put d u).put o.dst undef) w'):jd P ops Q ((k,o)::rest) (x.put d u) w':=by
 have hw':Region.wanted o (yielded ops (x.put d u).tmps)=false:=by
  obtain⟨tm,df⟩:=x
  rw[wanted_put hr];rw[show tm=a.tmps from hx];exact hw
 rw[qT hw'];exact h
theorem swap{P:Program}{ops:Array Oper}{Q:Exit->Act->World->Prop}{rest:List (Kd×Oper)}{k k':Kd}{o o':Oper}(hk:k.oQ=true)(hc:Jj k k')(hp:mc o.op=true)(Cq:mc o'.op=true)(hf:ac0 ops o o'){a:Act}{w:World}(h:jd P ops Q ((k,o)::(k',o')::rest) a w):jd P ops Q ((k',o')::(k,o)::rest) a w:=by
 have key:∃u,jd P ops Q ((k',o')::rest) (a.put o.dst u) w/\
  ∀(x:Act) (v:Value) (w':World),x.tmps=a.tmps->(∀tO,stays k w' tO->stays k w tO)->jd P ops Q rest ((x.put o'.dst v).put o.dst u) w'->jd P ops Q ((k,o)::rest) (x.put o'.dst v) w':=by
  cases hw:Region.wanted o (yielded ops a.tmps)with
  |false=>
   rw[qT hw]at h
   exact⟨undef,h,fun x v w' hx _ hr=>Ii hx hf.r2 hw hr⟩
  |true=>
   rw[ei hk hw]at h
   obtain⟨v,hv,hr⟩:=h
   exact⟨v,hr,fun x u w' hx hs hr=>replay hk hp hx hf.r2 hw hv hs hr⟩
 obtain⟨u,hi,hre⟩:=key
 have hw':Region.wanted o' (yielded ops (a.put o.dst u).tmps)=Region.wanted o' (yielded ops a.tmps):=by
  obtain⟨tm,df⟩:=a;exact wanted_put hf.r1
 have hee:execOp (a.put o.dst u).eval o'=execOp a.eval o':=AB Cq hf.r1
 have xV:∀tO,stays k w tO->stays k w tO:=fun _ x=>x
 have U8:∀v,(a.put o.dst u).put o'.dst v=(a.put o'.dst v).put o.dst u:=fun v=>put_comm hf.w
 cases SQ:Region.wanted o' (yielded ops a.tmps)with
 |false=>
  rw[qT (by rw[hw',SQ]),U8]at hi
  rw[qT SQ]
  exact hre a undef w rfl xV hi
 |true=>
  have Wx:Region.wanted o' (yielded ops (a.put o.dst u).tmps)=true:=by rw[hw',SQ]
  by_cases hl':k'.oQ=true
  ·rw[ei hl' Wx]at hi
   rw[ei hl' SQ]
   obtain⟨v,hv,hr⟩:=hi
   rw[U8]at hr
   exact⟨v,fun tO hs=>by rw[<-hee];exact hv tO hs,hre a v w rfl xV hr⟩
  ·cases k' with
   |dm=>
    rw[ic Wx]at hi;rw[ic SQ]
    refine ES Cq hf.r1 hf.w (fun x v w' hx hN=>⟨hN.1,hre x v w' hx (fun tO hs=>?_) hN.2⟩) hi
    rcases hc with hc|rfl|⟨rfl,_⟩
    ·exact absurd hc hl'
    ·trivial
    ·exact hN.1.trans hs
   |write=>
    rw[eJ Wx]at hi;rw[eJ SQ]
    refine ES Cq hf.r1 hf.w (fun x v w' hx hN=>hre x v w' hx (fun tO hs=>?_) hN) hi
    rcases hc with hc|rfl|⟨_,hc⟩
    ·exact absurd hc hl'
    ·trivial
    ·simp at hc
   |_=>exact absurd rfl hl'
variable {P:Program} {ops:Array Oper} {Q:Exit->Act->World->Prop}
theorem jx{o:Oper}{a:Act}{w:World}{N N':Act->World->Prop}(hN:∀a w,N a w->N' a w)(h:o.wp P a w N (fun _ _ _=>False)):o.wp P a w N' Q:=by
 unfold Oper.wp at h ⊢
 cases hr:(execOp a.eval o).run P w with
 |halt hh w'=>rw[hr]at h;cases hh<;>exact h.elim
 |ok n w'=>
  rw[hr]at h
  cases n with
  |value v=>exact hN _ _ h
  |skip=>exact hN _ _ h
  |defer dd=>exact hN _ _ h
  |enter f args=>
   simp only[Oper.upon]at h ⊢
   refine h.mono fun e tO hh=>?_
   cases e with
   |returned v=>exact hN _ _ hh
   |panicked c=>exact hh.elim
   |outgrown=>obtain⟨_,_,hx⟩:=hh;exact hx.elim
  |row r args=>
   simp only[Oper.upon]at h ⊢
   exact h.mono fun v tO hh=>hN _ _ hh
  |_=>exact h.elim
theorem Nw{x:Kd×Oper}{L L':List (Kd×Oper)}(hL:∀a w,jd P ops Q L a w->jd P ops Q L' a w){a:Act}{w:World}(h:jd P ops Q (x::L) a w):jd P ops Q (x::L') a w:=by
 obtain⟨k,o⟩:=x
 cases hw:Region.wanted o (yielded ops a.tmps)with
 |false=>rw[qT hw]at h ⊢;exact hL _ _ h
 |true=>
  by_cases hl:k.oQ=true
  ·rw[ei hl hw]at h ⊢
   obtain⟨v,hv,hr⟩:=h
   exact⟨v,hv,hL _ _ hr⟩
  ·cases k with
   |dm=>rw[ic hw]at h ⊢;exact jx (fun a w hh=>⟨hh.1,hL _ _ hh.2⟩) h
   |write=>rw[eJ hw]at h ⊢;exact jx (fun a w hh=>hL _ _ hh) h
   |_=>exact absurd rfl hl
def Ps (ops:Array Oper) (o o':Oper):Bool:=
 (match o.dst with|some t=> !(jS ops o').contains t&& !(match o'.dst with|some u=>t==u|none=>false)|none=>true)&&
 (match o'.dst with|some t=> !(jS ops o).contains t|none=>true)
theorem TB{o o':Oper}(h:Ps ops o o'=true):ac0 ops o o':=by
 unfold Ps at h
 rw[bn]at h
 obtain⟨h1,h2⟩:=h
 refine⟨fun t ht=>?_,fun t ht=>?_,fun t ht hd=>?_⟩
 ·rw[ht]at h1;simp only[bn,Bool.not_eq_true']at h1
  intro hc;have :=List.contains_iff_mem.2 hc;rw[this]at h1;simp at h1
 ·rw[ht]at h2;simp only[Bool.not_eq_true']at h2
  intro hc;have :=List.contains_iff_mem.2 hc;rw[this]at h2;simp at h2
 ·rw[ht,hd]at h1;simp at h1
def D4 (k k':Kd):Bool:=match k,k' with
 |_,.pure=>true|_,.read=>true|_,.same=>true
 | .pure,_=>true| .read,.dm=>true|_,_=>false
theorem ME{k k':Kd}(h:D4 k k'=true):Jj k k':=by
 cases k<;>cases k'<;>simp_all [D4,Jj,Kd.oQ]
def item (ops:Array Oper) (ks:List Kd) (i:Nat):Kd×Oper:=(ks.getD i .write,ops.toList.getD i default)
def jD (ops:Array Oper) (ks:List Kd) (x i:Nat):Bool:=
 (item ops ks x).1.oQ&&(D4 (item ops ks x).1 (item ops ks i).1&&(Ps ops (item ops ks x).2 (item ops ks i).2&&(mc (item ops ks x).2.op&&mc (item ops ks i).2.op)))
theorem Jk{ks:List Kd}{i:Nat}{post:List Nat}:∀(pre:List Nat),(∀x∈pre,jD ops ks x i=true)->∀a w,
 jd P ops Q ((pre++i::post).map (item ops ks)) a w->jd P ops Q ((i::(pre++post)).map (item ops ks)) a w
 |[],_,a,w,h=>h
 |x::pre,hp,a,w,h=>by
  have h1:jd P ops Q ((x::i::(pre++post)).map (item ops ks)) a w:=by
   refine Nw (fun a w hh=>Jk pre (fun y hy=>hp y (List.mem_cons_of_mem _ hy)) a w hh) h
  have hx:=hp x List.mem_cons_self
  simp only[jD,bn]at hx
  obtain⟨e1,e2,e3,e4,e5⟩:=hx
  exact swap e1 (ME e2) e4 e5 (TB e3) h1
def IG:List Nat->List Nat->List Nat
 |[],acc=>acc
 |x::l,acc=>IG l (if acc.contains x then acc else x::acc)
def FG:List Oper->List (List Nat)->List (List Nat)
 |[],acc=>acc
 |o::l,acc=>FG l (acc++[IG ((IG (tx o) []).flatMap fun d=>d::acc.getD d []) []])
def sJ (ops:Array Oper) (sK:List (List Nat)):Bool:=
 (List.range ops.size).all fun i=>(sK.getD i []).all fun x=>(tx (ops.toList.getD i default)).any fun d=>d==x||(sK.getD d []).contains x
def fE (ops:Array Oper):Bool:=(List.range ops.size).all fun i=>(tx (ops.toList.getD i default)).all fun d=>Nat.blt d i
theorem sc{sK:List (List Nat)}(hb:fE ops=true)(ha:sJ ops sK=true){l:List Nat}(hv:Valid ops l):
 ∀n i,i<=n->i<ops.size->∀p s,l=p++i::s->∀x∈sK.getD i [],x∈p:=by
 have get:∀i (h:i<ops.size),ops[i]? =some (ops.toList.getD i default):=fun i h=>by simp[h]
 intro n
 induction n with
 |zero=>
  intro i qm hi p s hl x hx
  unfold sJ at ha
  have h1:=aJ.1 (aJ.1 ha i (aO.2 hi)) x hx
  obtain⟨d,hd,_⟩:=List.any_eq_true.1 h1
  unfold fE at hb
  have h2:=aJ.1 (aJ.1 hb i (aO.2 hi)) d hd
  simp[Nat.blt_eq]at h2;omega
 |succ n ih=>
  intro i qm hi p s hl x hx
  unfold sJ at ha
  have h1:=aJ.1 (aJ.1 ha i (aO.2 hi)) x hx
  obtain⟨d,hd,Zo⟩:=List.any_eq_true.1 h1
  have hdp:=hv.2.2 p i s hl _ (get i hi) d hd
  have hdi:d<i:=by
   unfold fE at hb
   have h2:=aJ.1 (aJ.1 hb i (aO.2 hi)) d hd
   simpa[Nat.blt_eq]using h2
  rw[Bool.or_eq_true]at Zo
  rcases Zo with Zo|Zo
  ·have :d=x:=by simpa using Zo
   exact this ▸hdp
  ·obtain⟨p1,p2,rfl⟩:=List.append_of_mem hdp
   have :=ih d ae ae p1 (p2++i::s) JK x (List.contains_iff_mem.1 Zo)
   exact aN.2 (.inl this)
def kX (f:Nat->Nat->Bool):List Nat->Bool
 |[]=>true
 |x::l=>l.all (f x)&&kX f l
theorem oo{f:Nat->Nat->Bool}{i:Nat}{post:List Nat}:∀(pre:List Nat),kX f (pre++i::post)=true->(∀x∈pre,f x i=true)/\kX f (pre++post)=true/\(∀y∈post,f i y=true)
 |[],h=>by simp only[List.nil_append,kX,bn]at h;exact⟨fun _ hx=>(by cases hx),h.2,fun y hy=>aJ.1 h.1 y hy⟩
 |x::pre,h=>by
  simp only[bF,kX,bn]at h
  obtain⟨h1,h2,h3⟩:=oo pre h.2
  refine⟨fun y hy=>?_,?_,h3⟩
  ·rcases aF.1 hy with rfl|hy
   ·exact aJ.1 h.1 i aj
   ·exact h1 y hy
  ·simp only[bF,kX,bn]
   refine⟨aJ.2 fun y hy=>aJ.1 h.1 y ?_,h2⟩
   rcases aN.1 hy with hy|hy
   ·simp[hy]
   ·simp[hy]
def Zb (ops:Array Oper) (ks:List Kd) (ord:List Nat):Bool:=
 let sK:=FG ops.toList []
 fE ops&&(sJ ops sK&&((List.range ops.size).all (fun i=>ord.contains i)&&(ord.all (fun i=>Nat.blt i ops.size)&&
  kX (fun x i=> !(x==i)&&((sK.getD i []).contains x||jD ops ks x i)) ord)))
theorem wz{ks:List Kd}{sK:List (List Nat)}(hb:fE ops=true)(ha:sJ ops sK=true){l:List Nat}(hv:Valid ops l):
 ∀(s p rem:List Nat),l=p++s->(∀x,x∈rem↔x∈s)->
  kX (fun x i=> !(x==i)&&((sK.getD i []).contains x||jD ops ks x i)) rem=true->
  ∀a w,jd P ops Q (rem.map (item ops ks)) a w->wpOps P ops Q s a w
 |[],p,rem,hl,hm,hp,a,w,h=>by
  have :rem=[]:=List.eq_nil_iff_forall_not_mem.2 fun x hx=>by simpa using(hm x).1 hx
  subst this;exact h
 |i::s,p,rem,hl,hm,hp,a,w,h=>by
  have hi:i<ops.size:=(hv.2.1 i).1 JK
  have nM:=hv.1
  rw[hl]at nM
  have hnp:∀x∈i::s,x∉p:=fun x hx SO=>(List.nodup_append.1 nM).2.2 x SO x hx rfl
  have Na:i∉s:=(bI.1 (List.nodup_append.1 nM).2.1).1
  obtain⟨pre,post,rfl⟩:=List.append_of_mem ((hm i).2 List.mem_cons_self)
  obtain⟨h1,h2,h3⟩:=oo pre hp
  have WN:∀x∈pre,jD ops ks x i=true:=fun x hx=>by
   have hf:=h1 x hx
   simp only[bn,Bool.or_eq_true]at hf
   rcases hf.2 with hc|hc
   ·have SO:=sc hb ha hv i i (aD _) hi p s hl x (List.contains_iff_mem.1 hc)
    exact absurd SO (hnp x ((hm x).1 yK))
   ·exact hc
  have nr:=Jk pre WN a w h
  have tt:∀x,x∈pre++post↔x∈s:=fun x=>by
   have hx:=hm x
   constructor
   ·intro hxx
    have FY:x∈pre++i::post:=by
     rcases aN.1 hxx with e|e<;>simp[e]
    rcases aF.1 (hx.1 FY)with rfl|e
    ·exfalso
     rcases aN.1 hxx with e|e
     ·have :=h1 x e;simp at this
     ·have :=h3 x e;simp at this
    ·exact e
   ·intro tP
    have :=hx.2 (List.mem_cons_of_mem _ tP)
    rcases aN.1 this with e|e
    ·simp[e]
    ·rcases aF.1 e with rfl|e
     ·exact absurd tP Na
     ·simp[e]
  have IH:=wz hb ha hv s (p++[i]) (pre++post) JK tt h2
  have mg:ops[i]? =some (item ops ks i).2:=by simp[item,hi]
  simp only[aL]at nr
  simp only[wpOps,mg]
  cases hw:Region.wanted (item ops ks i).2 (yielded ops a.tmps)with
  |false=>
   simp only[Bool.false_eq_true,if_false]
   rw[show item ops ks i=((item ops ks i).1,(item ops ks i).2)from rfl,qT hw]at nr
   exact IH _ _ nr
  |true=>
   simp only[if_true]
   left
   rw[show item ops ks i=((item ops ks i).1,(item ops ks i).2)from rfl]at nr
   by_cases dS:(item ops ks i).1.oQ=true
   ·rw[ei dS hw]at nr
    obtain⟨v,rY,hr⟩:=nr
    have kt:stays (item ops ks i).1 w w:=by
     cases(item ops ks i).1<;>first|trivial|exact Ext.refl w|rfl
    unfold Oper.wp
    rcases rY w kt with hg|⟨f,args,hg,gZ⟩
    ·rw[hg];exact IH _ _ hr
    ·rw[hg]
     refine gZ.mono ?_
     rintro e w' ⟨rfl,rfl⟩
     exact IH _ _ hr
   ·generalize hk:(item ops ks i).1=k at nr dS
    cases k with
    |dm=>rw[ic hw]at nr;exact jx (fun a w hh=>IH _ _ hh.2) nr
    |write=>rw[eJ hw]at nr;exact jx (fun a w hh=>IH _ _ hh) nr
    |_=>exact absurd rfl dS
theorem fe{id:Nat}{a:Act}{w:World}(ks:List Kd)(ord:List Nat)(q_:P.follows .mixedOrders=true)(kZ:Zb ops ks ord=true)(h:jd P ops Q (ord.map (item ops ks)) a w.drew):(Code.region id ops true).wp P Q a w:=by
 simp only[Zb,bn]at kZ
 obtain⟨hb,ha,fw,dS,hp⟩:=kZ
 refine wp_region_draw fun t=>?_
 have hv:Valid ops (Region.schedule (P.follows .mixedOrders) ops t):=jQ _ q_ _ _ fun i o ho d hd=>by
  have hi:i<ops.size:=(Array.getElem?_eq_some_iff.1 ho).1
  have h1:=aJ.1 (aJ.1 hb i (aO.2 hi)) d (by
   have :ops.toList.getD i default=o:=by
    simp[Array.getElem?_eq_getElem hi]at ho ⊢
    simp[ho]
   rw[this];exact hd)
  simpa[Nat.blt_eq]using h1
 generalize Region.schedule (P.follows .mixedOrders) ops t=l at hv ⊢
 refine wz hb ha hv l [] ord rfl (fun x=>?_) hp a _ h
 rw[hv.2.1 x]
 constructor
 ·intro hx;simpa[Nat.blt_eq]using aJ.1 dS x hx
 ·intro hx;exact List.contains_iff_mem.1 (aJ.1 fw x (aO.2 hx))
end WB
namespace WB
open Go Go.RowKit
section
variable {P:Program} {ops:Array Oper} {Q:Exit->Act->World->Prop} {rest:List (Kd×Oper)} {k:Kd} {o:Oper} {a a':Act} {w:World} {v:Value}
theorem pz(h:Q .normal a w):jd P ops Q [] a w:=h
theorem fT(hw:Region.wanted o (yielded ops a.tmps)=true)(hv:∀w',(execOp a.eval o).run P w'=.ok (.value v) w')(hp:a.put o.dst v=a')(h:jd P ops Q rest a' w):jd P ops Q ((.pure,o)::rest) a w:=by
 rw[ei rfl hw];exact⟨v,fun w' _=>.inl (hv w'),by rw[hp];exact h⟩
end
def dr (w:World) (ad:Addr) (cs:List Value):Prop:= ∀j c,cs[j]? =some c->w.cell? (ad.add j)=some c
theorem dr.ext{w w':World}{ad:Addr}{cs:List Value}(h:dr w ad cs)(e:Ext w w'):dr w' ad cs:=fun j c hj=>e.cell (h j c hj)
theorem pJ{P:Program}{w:World}{T:TypeId}{ad:Addr}{cs:List Value}(hT:(isAgg T).run P w=.ok true w)(hn:(Go.sizeOf T).run P w=.ok cs.length w)(hc:dr w ad cs):(loadVar T ad).run P w=.ok (.agg cs.toArray) w:=by
 simp[loadVar,hT,hn,run_loadCells_list (P:=P) (w:=w) ad cs hc]
theorem gA{P:Program}{w:World}{T:TypeId}{ad:Addr}{c:Value}(hT:(isAgg T).run P w=.ok false w)(hc:w.cell? ad=some c):(loadVar T ad).run P w=.ok c w:=by
 simp[loadVar,hT,hc]
section
variable {P:Program} {ops:Array Oper} {Q:Exit->Act->World->Prop} {rest:List (Kd×Oper)} {a a':Act} {w:World} {v:Value} {d:Option Tmp} {T ty:TypeId} {x:Operand} {pos:String} {after:Array Edge} {g:Option (Nat×Bool)} {ad:Addr}
theorem yM(hw:Region.wanted ⟨d,.load T x,ty,pos,after,g⟩ (yielded ops a.tmps)=true)(ha:a.eval x=.pointer (some ad))(hT:∀w,(isAgg T).run P w=.ok false w)(hc:w.cell? ad=some v)(hp:a.put d v=a')(h:jd P ops Q rest a' w):jd P ops Q ((.read,⟨d,.load T x,ty,pos,after,g⟩)::rest) a w:=by
 rw[ei rfl hw]
 refine⟨v,fun w' (e:Ext w w')=>?_,by rw[hp];exact h⟩
 refine .inl ?_
 simp[execOp,ha,Instr.loadAt,Instr.sureAddr,gA (hT w') (e.cell hc)]
theorem JR{cs:List Value}(hw:Region.wanted ⟨d,.load T x,ty,pos,after,g⟩ (yielded ops a.tmps)=true)(ha:a.eval x=.pointer (some ad))(hT:∀w,(isAgg T).run P w=.ok true w)(hn:∀w,(Go.sizeOf T).run P w=.ok cs.length w)(hc:dr w ad cs)(hp:a.put d (.agg cs.toArray)=a')(h:jd P ops Q rest a' w):
 jd P ops Q ((.read,⟨d,.load T x,ty,pos,after,g⟩)::rest) a w:=by
 rw[ei rfl hw]
 refine⟨_,fun w' (e:Ext w w')=>?_,by rw[hp];exact h⟩
 refine .inl ?_
 simp[execOp,ha,Instr.loadAt,Instr.sureAddr,pJ (hT w') (hn w') (hc.ext e)]
end
def lu (e:TypeId) (size:Nat) (v:Value) (n:Nat) (xs:List Value):HP:=fun h=>
 xs.length=n *size/\((v=.slice none 0 0/\n=0/\emp h)\/
  ∃g cap cur,v=.slice (some ⟨g,0,none⟩) n cap/\n<=cap/\cap<=maxLen/\cur.size=cap *size/\cur.toList.take (n *size)=xs/\bP g (.cells cur e (0,0)) h)
theorem Mz{w0 w:World}{L:List HP}{A:HP}{p:Prop}(h:St w0 (A::L) w)(f:∀x,A x->p):p:=by
 obtain⟨x,hx,h1,h2,d,e,a,b⟩:=h.own
 exact f _ a
namespace St
variable {w0 w w':World} {L:List HP} {e:TypeId} {size:Nat} {v v':Value} {n n':Nat} {xs xs':List Value}
theorem cU(h:St w0 (lu e size v n xs::L) w):
 (v=.slice none 0 0/\n=0/\xs=[]/\St w0 L w)\/
 ∃g cap cur,v=.slice (some ⟨g,0,none⟩) n cap/\n<=cap/\cap<=maxLen/\cur.size=cap *size/\cur.toList.take (n *size)=xs/\xs.length=n *size/\St w0 (bP g (.cells cur e (0,0))::L) w:=by
 obtain⟨x,hx,h1,h2,d,e',⟨hl,a⟩,b⟩:=h.own
 rcases a with⟨rfl,rfl,he⟩|⟨g,cap,cur,rfl,a1,a2,a3,a4,a5⟩
 ·exact .inl ⟨rfl,rfl,List.eq_nil_of_length_eq_zero Y62,h.drop⟩
 ·exact .inr ⟨g,cap,cur,rfl,a1,a2,a3,a4,hl,{h with own:=⟨x,hx,h1,h2,d,e',a5,b⟩}⟩
theorem Ds(h:St w0 L w):St w0 (lu e size (.slice none 0 0) 0 []::L) w:=
 h.ab4.imp fun _ he=>⟨by simp,.inl ⟨rfl,rfl,he⟩⟩
theorem lO{g cap:Nat}{cur:Array Value}(h:St w0 (bP g (.cells cur e (0,0))::L) w)(hn:n<=cap)(hc:cap<=maxLen)(hs:cur.size=cap *size)(ht:cur.toList.take (n *size)=xs):St w0 (lu e size (.slice (some ⟨g,0,none⟩) n cap) n xs::L) w:=
 h.imp fun _ hb=>⟨by rw[<-ht,bL,Array.length_toList,hs];exact Nat.min_eq_left (Nat.mul_le_mul_right _ hn),.inr ⟨g,cap,cur,rfl,hn,hc,hs,ht,hb⟩⟩
theorem yU(h:St w0 (lu e size v n xs::L) w):xs.length=n *size:=Mz h fun _ hx=>hx.1
theorem zQ(h:St w0 (lu e size v n xs::L) w):w.ownsRow w0.heap.size e size v n xs:=by
 refine⟨h.yU,?_⟩
 rcases h.cU with⟨rfl,rfl,rfl,_⟩|⟨g,cap,cur,rfl,h1,h2,h3,h4,h5,h6⟩
 ·exact .inl ⟨rfl,rfl⟩
 ·exact .inr ⟨g,cap,cur,rfl,h6.look.1,h6.look.2,h1,h2,h3,h4⟩
theorem setRow{b:Nat}{c c':Array Value}{T:TypeId}{fz:Nat×Nat}(h:St w0 (bP b (.cells c T fz)::L) w):
 St w0 (bP b (.cells c' T fz)::L) (w.setRow b c'):=
 h.upd rfl rfl rfl aj (setRow_heap w b c c' T fz h.look.2) fun k hk=>setRow_other w b k c' hk
theorem aE(h:St w0 L w)(hb:Below w.heap.size w w'):St w0 L w':=by
 refine⟨hb.os.trans h.os,hb.tape.trans h.tape,hb.output.trans h.output,Nat.le_trans h.size hb.size,fun k hk=>?_,?_⟩
 ·rw[hb.block k (Nat.lt_of_lt_of_le hk h.size)];exact h.block k hk
 ·obtain⟨x,hx,c⟩:=h.own
  refine⟨x,fun k o hk=>?_,c⟩
  have :=hx k o hk
  exact⟨this.1,by rw[hb.block k (Array.getElem?_eq_some_iff.1 this.2).1];exact this.2⟩
end St
theorem sb{P:Program}{w0 w:World}{L:List HP}(t ty e:TypeId)(i:TypeInfo)(z:Value)(size bytes:Nat)(ht:P.underlying t=some (.slice e))(hi:P.info? e=some i)(hz:i.zero=some z)(aaN:i.size=size)(hby:i.bytes=bytes)(SN:z.cells.size=size){v:Value}{n:Nat}{xs:List Value}(h:St w0 (lu e size v n xs::L) w)(a:Addr)(m c:Nat)(news:List Value)(hl:news.length=m *size)(qZ:dr w a news)(h1:∀u∈news,u.oneCell'=true)(h63:n+m<=maxLen)(Pf:(n+m)*bytes<=140737488355328):
 ∃v' w',(Builtin.append_ #[t,t] ty #[v,.slice (some a) m c]).run P w=.ok v' w'/\St w0 (lu e size v' (n+m) (xs++news)::L) w':=by
 subst aaN
 subst hby
 have ae0:n+m<=9223372036854775807:=by simp only[maxLen]at h63;omega
 have tQ:=h.yU
 have fresh:∀(M7:Nat),St w0 L w->St w0 (lu e i.size (.slice (some ⟨w.heap.size,0,none⟩) (n+m) (grownCap w (n+m) M7 e)) (n+m) (xs++news)::L)
  (w.drew.alloc (.cells (xs.toArray++news.toArray++Builtin.zeroCells z.cells (grownCap w (n+m) M7 e-(n+m))) e)):=by
  intro M7 hL
  refine(hL.drew.alloc _).lO (grownCap_ge w (n+m) M7 e) (grownCap_le_maxLen w (n+m) M7 e h63) ?_ ?_
  ·have Hz:=grownCap_ge w (n+m) M7 e
   simp only[Array.size_append,List.size_toArray,size_zeroCells,SN,tQ,hl,<-Nat.add_mul]
   congr 1
   omega
  ·simp only[Array.toList_append,aH]
   rw[<-aH,show(n+m)*i.size=(xs++news).length by rw[aP,tQ,hl,Nat.add_mul]]
   exact List.take_left
 rcases h.cU with⟨rfl,rfl,rfl,hL⟩|⟨g,cap,cur,rfl,xX,rh,lW,fL,_,hblk⟩
 ·by_cases hm:m=0
  ·subst hm
   obtain rfl:news=[]:=List.eq_nil_of_length_eq_zero Y62
   refine⟨.slice none 0 0,w,?_,hL.Ds⟩
   simp[Builtin.append_,run_underlying ht,Go.sizeOf,typeInfo,hi,Builtin.lenOf,Builtin.firstCells,loadCells,loadCellsFrom]
  ·have hr:=run_append_nil (P:=P) w t ty e i z ht hi hz a m c news hl qZ ae ae (by have hb:=Pf;simp only[Nat.zero_add]at hb;omega)
   have hf:=fresh 0 hL
   simp only[Nat.zero_add,List.nil_append,Array.empty_append]at hf ⊢
   exact⟨_,_,hr,hf⟩
 ·by_cases jE:n+m<=cap
  ·have oV:n *i.size+news.length<=cur.size:=by rw[hl,lW,<-Nat.add_mul];exact Nat.mul_le_mul_right _ jE
   have hr:=run_append_room (P:=P) w t ty e i ht hi g n cap cur hblk.look.2 a m c news hl qZ h1 jE oV
   refine⟨_,_,hr,hblk.setRow.lO jE rh ?_ ?_⟩
   ·simp only[List.size_toArray,aP,bL,bC,Array.length_toList]
    omega
   ·simp only[aH]
    rw[fL,<-aH,show(n+m)*i.size=(xs++news).length by rw[aP,tQ,hl,Nat.add_mul]]
    exact List.take_left
  ·have holds:∀j u,xs[j]? =some u->w.cell? ((⟨g,0,none⟩:Addr).add j)=some u:=h.zQ.cells (g:=g) rfl
   have hr:=run_append_grow (P:=P) w t ty e i z ht hi hz ⟨g,0,none⟩ n cap xs tQ holds a m c news hl qZ ae ae (growslice_fits ae Pf)
   exact⟨_,_,hr,fresh cap hblk.drop⟩
section
variable {P:Program} {ops:Array Oper} {Q:Exit->Act->World->Prop} {rest:List Oper} {a:Act} {w w':World} {d:Option Tmp} {ty:TypeId} {pos:String} {after:Array Edge} {args:Array Operand} {argTypes:Array TypeId} {v:Value}
theorem Rx{o:Oper}(hw:Region.wanted o (yielded ops a.tmps)=true)(hr:(execOp a.eval o).run P w=.ok (.value v) w')(h:∀K:Act->World->Prop,(∀a w,wpList P ops Q rest a w->K a w)->K (a.put o.dst v) w'):wpList P ops Q (o::rest) a w:=by
 refine wpList_step fun K hK=>?_
 rw[if_pos hw,Oper.wp,hr]
 exact h K hK
end
end WB
namespace WB
open Go Go.RowKit
def jc (a b:ak):Int:=Lib.compareBytes a.data.toList b.data.toList
theorem flat_get{α β:Type}(f:α->List β)(sz:Nat)(hf:∀x,(f x).length=sz)(d:α):∀(l:List α) (i k:Nat),i<l.length->k<sz->(l.flatMap f)[i *sz+k]? =(f (l.getD i d))[k]?
 |[],i,k,h,_=>by simp at h
 |x::l,0,k,_,hk=>by
  simp only[aR,Nat.zero_mul,Nat.zero_add,List.getD_cons_zero]
  rw[List.getElem?_append_left (by rw[hf];exact hk)]
 |x::l,i+1,k,h,hk=>by
  simp only[aR,List.getD_cons_succ]
  rw[bf (by rw[hf,Nat.succ_mul];omega),hf,show(i+1)*sz+k-sz=i *sz+k by rw[Nat.succ_mul];omega]
  exact flat_get f sz hf d l i k HV hk
theorem lD{α β:Type}(f:α->List β)(sz:Nat)(hf:∀x,(f x).length=sz):∀(l:List α),(l.flatMap f).length=l.length *sz
 |[]=>by simp
 |x::l=>by simp only[aR,aP,List.length_cons,hf,lD f sz hf l,Nat.succ_mul];omega
structure Nm where
 name:ak
 kr:ak
 cq:Int
instance:Inhabited Nm:=⟨⟨⟨#[]⟩,⟨#[]⟩,0⟩⟩
def Nm.cells (x:Nm):List Value:=[.string x.name,.string x.kr,.int .i64 x.cq]
def cz (l:List Nm):List Value:=l.flatMap Nm.cells
def eB (l:List Nm) (i:Nat):Nm:=l.getD i default
theorem xQ(l:List Nm):(cz l).length=l.length *3:=lD _ 3 (fun _=>rfl) l
theorem nf{w0 w:World}{L:List HP}{E:TypeId}{g cap n:Nat}{l:List Nm}(h:St w0 (lu E 3 (.slice (some ⟨g,0,none⟩) n cap) n (cz l)::L) w){i:Nat}(hi:i<l.length):
 w.cell? ⟨g,i *3,none⟩=some (.string (eB l i).name)/\w.cell? ⟨g,i *3+1,none⟩=some (.string (eB l i).kr)/\w.cell? ⟨g,i *3+2,none⟩=some (.int .i64 (eB l i).cq):=by
 have hl:=h.yU
 rw[xQ]at hl
 have key:∀k,k<3->w.cell? ⟨g,i *3+k,none⟩=(eB l i).cells[k]? :=fun k hk=>by
  rw[h.zQ.cellAt _ ae]
  exact flat_get _ 3 (fun _=>rfl) default l i k hi hk
 exact⟨key 0 ae,key 1 ae,key 2 ae⟩
theorem Below.cells{w w':World}(h:Below w.heap.size w w'){p:Addr}{v:Value}(hc:w.cell? p=some v):w'.cell? p=some v:=(Ext.ct h).cell hc
structure JM (l:List Nm) (s:ak) (k:Nat):Prop where
 le:k<=l.length
 lo:∀p,p<k->jc (eB l p).name s<0
 hi:∀p,k<=p->p<l.length->0<=jc (eB l p).name s
def Ev (l:List Nm) (s:ak):Prop:= ∀p q,p<=q->q<l.length->jc (eB l q).name s<0->jc (eB l p).name s<0
def fy (l:List Nm) (s:ak) (k:Nat):Bool:=decide (k<l.length)&&(jc (eB l k).name s==0)
theorem fV{a b:Bool}(h:a=b):Ending.returned (.bool a)=.returned (.bool b):=by rw[h]
def rn:ak:=⟨#[97,98,99,100,101,102,103,104,105,106,107,108,109,110,111,112,113,114,115,116,117,118,119,120,121,122,48,49,50,51,52,53,54,55,56,57]⟩
def isLet (c:UInt8):Bool:=(97<=c&&c<=122)||(48<=c&&c<=57)
def iI (s:ak):Bool:=s.data.toList.all isLet
def dN (s:ak) (ym:Nat):Bool:=decide (1<=s.size)&&(decide (s.size<=ym)&&iI s)
theorem D3(c:UInt8):rn.data.toList.contains c=isLet c:=by
 have h:∀n:Fin 256,rn.data.toList.contains (UInt8.ofNat n.val)=isLet (UInt8.ofNat n.val):=by decide+kernel
 have :=h ⟨c.toNat,c.toNat_lt⟩
 simpa using this
theorem dropWhile_nil{α:Type}{p:α->Bool}:∀{l:List α},l.dropWhile p=[]↔l.all p=true
 |[]=>by simp
 |a::l=>by
  by_cases h:p a=true
  ·simp only[List.dropWhile_cons,h,if_true,List.all_cons,Bool.true_and];exact dropWhile_nil
  ·simp[h]
theorem Lj(s:ak):Lib.trimS s.data.toList rn.data.toList=[]↔iI s=true:=by
 have hp:(fun c=>rn.data.toList.contains c)=isLet:=funext D3
 have fw:∀l:List UInt8,(l.dropWhile isLet).all isLet=true↔l.all isLet=true:=fun l=>by
  induction l with
  |nil=>simp
  |cons a l ih=>
   by_cases h:isLet a=true
   ·simp[h,<-ih]
   ·simp[h]
 unfold Lib.trimS Lib.trimLeftS Lib.trimRightS iI
 rw[hp,dropWhile_nil,List.all_reverse,fw,List.all_reverse]
def dw (s:ak):Bool:=dN s 8
def lG (s:ak):Bool:=dN s 12
def jb (s:ak):Bool:=s.toList.isEmpty
def cy (x:Nm):Bool:=dw x.name&&(decide (-1<=x.cq)&&(decide (x.cq<=3)&&(dw x.kr||(jb x.kr&&x.cq== -1))))
end WB
namespace Go.Proofs.YtjhogocabcdjbabGreatDoor
open Tryz
open Go Go.RowKit WB
theorem CK(a b s:ak)(h:Int)(w:World):
 Calls prog 248 #[.agg #[.string a,.string b,.int .i64 h],.string s] w fun e w'=>e=.returned (.int .i64 (jc a s))/\Below w.heap.size w w':=by
 go_enter func248,ntmps248
 go_wp2_with (go_at_call 249;refine(Tryz.strings_Compare _ _ _).mono ?_;rintro e w' ⟨rfl,rfl⟩)
 go_ret
 exact⟨rfl,(Below.refl _ _).alloc (aD _) _⟩
def ac1 (l:List Nm) (s:ak) (w:World) (i j:Value) (wr:World):Prop:=
 ∃p q:Nat,p<=q/\q<=l.length/\i=.int .i64 p/\j=.int .i64 q/\(∀k,k<p->jc (eB l k).name s<0)/\(∀k,q<=k->k<l.length->0<=jc (eB l k).name s)/\Below w.heap.size w wr
def JP (l:List Nm) (s:ak) (w:World) (e:Ending) (w':World):Prop:=
 ∃k:Nat,JM l s k/\e=.returned (.tuple #[.int .i64 k,.bool (fy l s k)])/\Below w.heap.size w w'
theorem P1(g n cap:Nat)(l:List Nm)(s:ak)(w w0:World)(L:List HP)(h:St w0 (lu 75 3 (.slice (some ⟨g,0,none⟩) n cap) n (cz l)::L) w)(Cw:n<1000000)(Gf:Ev l s):
 Calls prog 247 #[.slice (some ⟨g,0,none⟩) n cap,.string s,.func (.func 248) #[] #[]] w (JP l s w):=by
 have hn:n=l.length:=by have :=h.yU;rw[xQ]at this;omega
 have HN:=Lib.hid hn
 have HS:=Lib.hid h
 clear hn h
 go_enter func247,ntmps247
 go_wp2_with fail
 go_loopw [9,10] (fun i j wr=>ac1 l s w i j wr) (fun i j _=>(intOf j-intOf i).toNat)
 case atStart=>exact⟨0,n,by omega,by rw[HN.out];exact aD _,rfl,rfl,fun k hk=>by omega,fun k h1 h2=>by rw[<-HN.out]at h2;omega,Below.refl _ _⟩
 case round=>
  obtain⟨p,q,Q5,hq,rfl,rfl,h1,h2,Mp⟩:=hrel
  have U1:q<=n:=by rw[HN.out];exact hq
  have H1:=Lib.hid h1
  have H2:=Lib.hid h2
  have HB:=Lib.hid Mp
  clear h1 h2 Mp hq
  by_cases dS:p<q
  ·have hm:(p+q)/2<n:=by omega
   obtain⟨c0,c1,c2⟩:=nf HS.out (i:=(p+q)/2) (by rw[<-HN.out];exact hm)
   have d0:=Below.cells HB.out c0
   have d1:=Below.cells HB.out c1
   have d2:=Below.cells HB.out c2
   clear c0 c1 c2
   go_wp2_with fail
   refine(CK _ _ _ _ _).mono ?_
   rintro e w1 ⟨rfl,jG⟩
   have Ew:=Lib.hid jG
   clear jG d0 d1 d2
   by_cases hc:jc (eB l ((p+q)/2)).name s<0
   ·have hd:decide (jc (eB l ((p+q)/2)).name s<0)=true:=by simpa using hc
    go_wp2_with fail
    go_roundw
    case rel=>
     refine⟨(p+q)/2+1,q,by omega,by rw[<-HN.out];exact U1,by go_num,rfl,fun k hk=>?_,H2.out,HB.out.trans (Ew.out.mono HB.out.size)⟩
     exact Gf k ((p+q)/2) ae (by rw[<-HN.out];exact hm) hc
    case measure=>simp[intOf];omega
   ·have hd:decide (jc (eB l ((p+q)/2)).name s<0)=false:=by simpa using hc
    go_wp2_with fail
    go_roundw
    case rel=>
     refine⟨p,(p+q)/2,by omega,by rw[<-HN.out];omega,rfl,by go_num,H1.out,fun k k9 sH=>?_,HB.out.trans (Ew.out.mono HB.out.size)⟩
     exact Int.not_lt.1 fun hk=>absurd (Gf _ k k9 sH hk) (Int.not_lt.2 hc)
    case measure=>simp[intOf];omega
  ·obtain rfl:p=q:=by omega
   by_cases Bu:p<n
   ·obtain⟨c0,c1,c2⟩:=nf HS.out (i:=p) (by rw[<-HN.out];exact Bu)
    have d0:=Below.cells HB.out c0
    have d1:=Below.cells HB.out c1
    have d2:=Below.cells HB.out c2
    clear c0 c1 c2
    go_wp2_with fail
    refine(CK _ _ _ _ _).mono ?_
    rintro e w1 ⟨rfl,jG⟩
    have Ew:=Lib.hid jG
    clear jG d0 d1 d2
    go_wp2_with fail
    go_ret2
    exact⟨p,⟨by rw[<-HN.out];omega,H1.out,H2.out⟩,by simp[fy,<-HN.out,Bu],HB.out.trans (Ew.out.mono HB.out.size)⟩
   ·go_wp2_with fail
    go_ret2
    exact⟨p,⟨by rw[<-HN.out];omega,H1.out,H2.out⟩,by simp[fy,<-HN.out,Bu],HB.out⟩
theorem TU(s:ak)(w:World):
 Calls prog 247 #[.slice none 0 0,.string s,.func (.func 248) #[] #[]] w (JP [] s w):=by
 go_enter func247,ntmps247
 go_wp2_with fail
 refine wp_loop_rounds 1 ?_
 rw[rounds_succ]
 go_wp2_with fail
 go_ret2
 exact⟨0,⟨by simp,fun p hp=>by omega,fun p _ hp=>by simp at hp⟩,by simp[fy],Below.refl _ _⟩
theorem oX(b off:Nat)(c:Array Value)(T:TypeId)(fz:Nat×Nat)(v:Value)(l:List Nm)(s:ak)(w w0:World)(L:List HP)(h:St w0 (bP b (.cells c T fz)::lu 75 3 v l.length (cz l)::L) w)(hc:c[off]? =some v)(Cw:l.length<1000000)(Gf:Ev l s):
 Calls prog 148 #[.pointer (some ⟨b,off,none⟩),.string s] w (JP l s w):=by
 have iX:w.cell? ⟨b,off,none⟩=some v:=by rw[World.cell?,h.look.2];exact hc
 have HS:=Lib.hid h
 clear h hc
 rcases HS.out.drop.cU with⟨rfl,hz,hx,_⟩|⟨g,cap,cur,rfl,_⟩
 ·obtain rfl:l=[]:=List.eq_nil_of_length_eq_zero hz
  clear hz hx
  go_enter func148,ntmps148
  go_wp2_with (go_at_call 247;refine(TU _ _).mono ?_;rintro e w' ⟨k,hk,rfl,hb⟩)
  go_ret2
  exact⟨k,hk,rfl,hb⟩
 ·have mI:=P1 g l.length cap l s w w0 L HS.out.drop Cw Gf
  have HC:=Lib.hid mI
  clear mI Gf
  generalize l.length=n at *
  go_enter func148,ntmps148
  go_wp2_with fail
  refine HC.out.mono ?_
  rintro e w' ⟨k,hk,rfl,hb⟩
  go_wp2_with fail
  go_ret2
  exact⟨k,hk,rfl,hb⟩
theorem NB(s:ak)(w:World)(hs:s.size<=9223372036854775807):
 Calls prog 239 #[.string s,.string rn] w fun e w'=>e=.returned (.string ⟨(Lib.trimS s.data.toList rn.data.toList).toArray⟩)/\Below w.heap.size w w':=
 Any.strings_Trim_laid Tryz.lays160 bH s rn w hs ai (ascii_of_all ai)
theorem xR(s:ak)(ym:Nat)(w:World)(hs:s.size<=maxLen)(_hm:ym<100):
 Calls prog 143 #[.string s,.int .i64 ym] w fun e w'=>e=.returned (.bool (dN s ym))/\Below w.heap.size w w':=by
 have aX:s.size<=9223372036854775807:=by unfold maxLen at hs;exact hs
 clear hs
 have ht:=NB s w aX
 have HT:=Lib.hid ht
 have HN:=Lib.hid (Lj s)
 clear ht
 by_cases h1:1<=s.size
 ·by_cases h2:s.size<=ym
  ·have hd1:decide ((1:Int)<=(s.size:Int))=true:=by simp;omega
   have Tk:decide ((s.size:Int)<=(ym:Int))=true:=by simp;omega
   by_cases h3:iI s=true
   ·have jr:dN s ym=true:=by simp[dN,h1,h2,h3]
    have HF:=Lib.hid jr
    have HE:=Lib.hid (HN.out.2 h3)
    clear jr h3
    go_enter func143,ntmps143
    go_wp2_with fail
    refine HT.out.mono ?_
    rintro e w' ⟨rfl,hb⟩
    rw[HE.out]
    go_wp2_with fail
    go_ret
    exact⟨fV HF.out.symm,hb⟩
   ·have jr:dN s ym=false:=by simp[dN,h3]
    have HF:=Lib.hid jr
    have gN:Lib.trimS s.data.toList rn.data.toList≠[]:=fun h=>h3 (HN.out.1 h)
    obtain⟨x,xs,hx⟩:=List.exists_cons_of_ne_nil gN
    have HE:=Lib.hid hx
    clear jr h3 gN hx
    go_enter func143,ntmps143
    go_wp2_with fail
    refine HT.out.mono ?_
    rintro e w' ⟨rfl,hb⟩
    rw[HE.out]
    go_wp2_with fail
    go_ret
    exact⟨fV HF.out.symm,hb⟩
  ·have hd1:decide ((1:Int)<=(s.size:Int))=true:=by simp;omega
   have Tk:decide ((s.size:Int)<=(ym:Int))=false:=by simp;omega
   have jr:dN s ym=false:=by simp[dN,h2]
   have HF:=Lib.hid jr
   clear jr
   go_enter func143,ntmps143
   go_wp2_with fail
   go_ret
   exact⟨fV HF.out.symm,Below.refl _ _⟩
 ·have hd1:decide ((1:Int)<=(s.size:Int))=false:=by simp;omega
  have jr:dN s ym=false:=by simp[dN,h1]
  have HF:=Lib.hid jr
  clear jr
  go_enter func143,ntmps143
  go_wp2_with fail
  go_ret
  exact⟨fV HF.out.symm,Below.refl _ _⟩
theorem C7(s:ak)(b:Bool)(w:World)(hs:s.size<=maxLen)(hb:dw s=b):
 Calls prog 240 #[.string s] w fun e w'=>e=.returned (.bool b)/\Below w.heap.size w w':=by
 subst hb
 have H:=Lib.hid (xR s 8 w hs ae)
 go_enter func240,ntmps240
 go_wp2_with fail
 refine H.out.mono ?_
 rintro e w' ⟨rfl,hb⟩
 go_wp2_with fail
 go_ret
 exact⟨rfl,hb⟩
theorem TW(s:ak)(b:Bool)(w:World)(hs:s.size<=maxLen)(hb:lG s=b):
 Calls prog 54 #[.string s] w fun e w'=>e=.returned (.bool b)/\Below w.heap.size w w':=by
 subst hb
 have H:=Lib.hid (xR s 12 w hs ae)
 go_enter func54,ntmps54
 go_wp2_with fail
 refine H.out.mono ?_
 rintro e w' ⟨rfl,hb⟩
 go_wp2_with fail
 go_ret
 exact⟨rfl,hb⟩
theorem Ly(x:Nm)(w:World)(h1:x.name.size<=maxLen)(h2:x.kr.size<=maxLen):
 Calls prog 267 #[.agg x.cells.toArray] w fun e w'=>e=.returned (.bool (cy x))/\Below w.heap.size w w':=by
 obtain⟨a,b,n⟩:=x
 simp only at h1 h2
 show Calls prog 267 #[.agg #[.string a,.string b,.int .i64 n]] w _
 have W1:∀(v:Bool) (w:World),dw a=v->Calls prog 240 #[.string a] w fun e w'=>e=.returned (.bool v)/\Below w.heap.size w w':=fun v w hv=>C7 a v w h1 hv
 have W2:∀(v:Bool) (w:World),dw b=v->Calls prog 240 #[.string b] w fun e w'=>e=.returned (.bool v)/\Below w.heap.size w w':=fun v w hv=>C7 b v w h2 hv
 have H1:=Lib.hid W1
 have H2:=Lib.hid W2
 clear W1 W2 h1 h2
 have sr:Below w.heap.size w (w.alloc (.cells #[.string a,.string b,.int .i64 n] 75)):=(Below.refl _ _).alloc (aD _) _
 have ZO:=Lib.hid sr
 clear sr
 cases hA:dw a with
 |false=>
  have HF:=Lib.hid (show cy ⟨a,b,n⟩=false by simp[cy,hA])
  have HA:=Lib.hid hA
  clear hA
  go_enter func267,ntmps267
  go_wp2_with fail
  refine(H1.out _ _ HA.out).mono ?_
  rintro e w1 ⟨rfl,jG⟩
  have Ew:=Lib.hid (ZO.out.trans (jG.mono aj))
  clear jG
  go_wp2_with fail
  go_ret
  exact⟨fV HF.out.symm,Ew.out⟩
 |true=>
  have HA:=Lib.hid hA
  by_cases EA:n< -1
  ·have HF:=Lib.hid (show cy ⟨a,b,n⟩=false by simp[cy];omega)
   have hd:decide (n< -1)=true:=by simpa using EA
   clear hA EA
   go_enter func267,ntmps267
   go_wp2_with fail
   refine(H1.out _ _ HA.out).mono ?_
   rintro e w1 ⟨rfl,jG⟩
   have Ew:=Lib.hid (ZO.out.trans (jG.mono aj))
   obtain⟨c0,c1,c2⟩:w1.cell? ⟨w.heap.size,0,none⟩=some (.string a)/\w1.cell? ⟨w.heap.size,1,none⟩=some (.string b)/\w1.cell? ⟨w.heap.size,2,none⟩=some (.int .i64 n):=
    ⟨Below.cells jG aj,Below.cells jG aj,Below.cells jG aj⟩
   clear jG
   go_wp2_with fail
   go_ret
   exact⟨fV HF.out.symm,Ew.out⟩
  ·by_cases Cw:n>=4
   ·have HF:=Lib.hid (show cy ⟨a,b,n⟩=false by simp[cy];omega)
    have hd:decide (n< -1)=false:=by simpa using EA
    have Tk:decide ((4:Int)<=n)=true:=by simpa using Cw
    clear hA EA Cw
    go_enter func267,ntmps267
    go_wp2_with fail
    refine(H1.out _ _ HA.out).mono ?_
    rintro e w1 ⟨rfl,jG⟩
    have Ew:=Lib.hid (ZO.out.trans (jG.mono aj))
    obtain⟨c0,c1,c2⟩:w1.cell? ⟨w.heap.size,0,none⟩=some (.string a)/\w1.cell? ⟨w.heap.size,1,none⟩=some (.string b)/\w1.cell? ⟨w.heap.size,2,none⟩=some (.int .i64 n):=
     ⟨Below.cells jG aj,Below.cells jG aj,Below.cells jG aj⟩
    clear jG
    go_wp2_with fail
    go_ret
    exact⟨fV HF.out.symm,Ew.out⟩
   ·have hd:decide (n< -1)=false:=by simpa using EA
    have Tk:decide ((4:Int)<=n)=false:=by simpa using Cw
    cases hB:dw b with
    |true=>
     have HF:=Lib.hid (show cy ⟨a,b,n⟩=true by simp[cy,hA,hB];omega)
     have HB:=Lib.hid hB
     clear hA EA Cw hB
     go_enter func267,ntmps267
     go_wp2_with fail
     refine(H1.out _ _ HA.out).mono ?_
     rintro e w1 ⟨rfl,jG⟩
     have Ew:=Lib.hid (ZO.out.trans (jG.mono aj))
     obtain⟨c0,c1,c2⟩:w1.cell? ⟨w.heap.size,0,none⟩=some (.string a)/\w1.cell? ⟨w.heap.size,1,none⟩=some (.string b)/\w1.cell? ⟨w.heap.size,2,none⟩=some (.int .i64 n):=
      ⟨Below.cells jG aj,Below.cells jG aj,Below.cells jG aj⟩
     clear jG
     go_wp2_with fail
     refine(H2.out _ _ HB.out).mono ?_
     rintro e w2 ⟨rfl,jF⟩
     have Bk:=Lib.hid (Ew.out.trans (jF.mono Ew.out.size))
     clear jF
     go_wp2_with fail
     go_ret
     exact⟨fV HF.out.symm,Bk.out⟩
    |false=>
     have HB:=Lib.hid hB
     cases hE:jb b with
     |false=>
      have HF:=Lib.hid (show cy ⟨a,b,n⟩=false by simp[cy,hB,hE])
      have I1:b.toList.isEmpty=false:=hE
      have fQ:(b.toList==[])=false:=by simpa[jb]using hE
      clear hA EA Cw hB hE
      go_enter func267,ntmps267
      go_wp2_with fail
      refine(H1.out _ _ HA.out).mono ?_
      rintro e w1 ⟨rfl,jG⟩
      have Ew:=Lib.hid (ZO.out.trans (jG.mono aj))
      obtain⟨c0,c1,c2⟩:w1.cell? ⟨w.heap.size,0,none⟩=some (.string a)/\w1.cell? ⟨w.heap.size,1,none⟩=some (.string b)/\w1.cell? ⟨w.heap.size,2,none⟩=some (.int .i64 n):=
       ⟨Below.cells jG aj,Below.cells jG aj,Below.cells jG aj⟩
      clear jG
      go_wp2_with fail
      refine(H2.out _ _ HB.out).mono ?_
      rintro e w2 ⟨rfl,jF⟩
      have Bk:=Lib.hid (Ew.out.trans (jF.mono Ew.out.size))
      have d0:=Below.cells jF c0
      have d1:=Below.cells jF c1
      have d2:=Below.cells jF c2
      clear jF c0 c1 c2
      go_wp2_with fail
      go_ret
      exact⟨fV HF.out.symm,Bk.out⟩
     |true=>
      have p1:decide (-1<=n)=true:=by simp;omega
      have p2:decide (n<=3)=true:=by simp;omega
      have HF:=Lib.hid (show cy ⟨a,b,n⟩=(n== -1)by simp only[cy,hA,hB,hE,p1,p2,Bool.true_and,Bool.false_or])
      clear p1 p2
      have I1:b.toList.isEmpty=true:=hE
      have fQ:b.toList=[]:=by simpa[jb]using hE
      clear hA EA Cw hB hE
      go_enter func267,ntmps267
      go_wp2_with fail
      refine(H1.out _ _ HA.out).mono ?_
      rintro e w1 ⟨rfl,jG⟩
      have Ew:=Lib.hid (ZO.out.trans (jG.mono aj))
      obtain⟨c0,c1,c2⟩:w1.cell? ⟨w.heap.size,0,none⟩=some (.string a)/\w1.cell? ⟨w.heap.size,1,none⟩=some (.string b)/\w1.cell? ⟨w.heap.size,2,none⟩=some (.int .i64 n):=
       ⟨Below.cells jG aj,Below.cells jG aj,Below.cells jG aj⟩
      clear jG
      go_wp2_with fail
      refine(H2.out _ _ HB.out).mono ?_
      rintro e w2 ⟨rfl,jF⟩
      have Bk:=Lib.hid (Ew.out.trans (jF.mono Ew.out.size))
      have d0:=Below.cells jF c0
      have d1:=Below.cells jF c1
      have d2:=Below.cells jF c2
      clear jF c0 c1 c2
      go_wp2_with fail
      go_ret
      exact⟨fV HF.out.symm,Bk.out⟩
open Go Go.RowKit Go.Extern.Stop Go.Stop Go.Extern WB
def ad8 (w:World):Prop:=w.cell? ⟨5,0,none⟩=some (.iface 367 (.agg #[.pointer (some ⟨10,31,none⟩)]))
end Go.Proofs.YtjhogocabcdjbabGreatDoor
namespace WB
open Go Go.RowKit
theorem fC{P:Program}(w:World)(dT sT ty elem:TypeId)(i:TypeInfo)(g o XH agH:Nat)(a:Addr)(qt Bq:Nat)(cur:Array Value)(t:TypeId)(cs:List Value)(hu:P.underlying dT=some (.slice elem))(hi:P.info? elem=some i)(hg:w.heap[g]? =some (.cells cur t (0,0)))(hn:cs.length=Nat.min qt XH *i.size)(WG:dr w a cs)(oV:o+cs.length<=cur.size)(h1:∀v∈cs,v.oneCell'=true):
 (Builtin.copy_ #[dT,sT] ty #[.slice (some ⟨g,o,none⟩) XH agH,.slice (some a) qt Bq]).run P w=
  .ok (goInt (Nat.min qt XH:Nat)) (w.setRow g (cur.toList.take o++cs++cur.toList.drop (o+cs.length)).toArray):=by
 have hl:=run_loadCells_list (P:=P) (w:=w) a cs WG
 have kt:=run_storeCells_at P g o t cs 0 cur w hg (by simpa using oV) h1
 simp only[Nat.add_zero]at kt
 simp[Builtin.copy_,run_underlying hu,Builtin.lenOf,Builtin.firstCells,Go.sizeOf,typeInfo,hi,<-hn,hl,kt]
theorem oJ{P:Program}(w:World)(t tn ty e:TypeId)(i:TypeInfo)(z:Value)(k kn:IntKind)(ht:P.underlying t=some (.slice e))(htn:P.underlying tn=some (.int kn))(hi:P.info? e=some i)(hz:i.zero=some z)(b:Addr)(qt Bq:Nat)(Sm:List Value)(Ki:Sm.length=qt *i.size)(holds:dr w b Sm)(n:Nat)(h0:0<n)(hs:0<i.size)(hg:Bq<qt+n)(h63:((qt+n:Nat):Int)<=9223372036854775807)(oV:Builtin.nextslicecap (qt+n) Bq *i.bytes<=281474976710656)(h48:n *i.bytes<=281474976710656):
 (Builtin.append_ #[t,tn] ty #[.slice (some b) qt Bq,.int k n]).run P w=
  .ok (.slice (some ⟨w.heap.size,0,none⟩) (qt+n) (grownCap w (qt+n) Bq e))
   (w.drew.alloc (.cells (Sm.toArray++Builtin.zeroCells z.cells n++Builtin.zeroCells z.cells (grownCap w (qt+n) Bq e-(qt+n))) e)):=by
 have hn:n≠0:=by omega
 have Cw:¬(qt+n<=Bq):=by omega
 have hw:IntKind.i64.wrap (n:Int)=n:=by rw[IntKind.wrap_i64];omega
 have agi:¬(9223372036854775807<((qt:Int)+(n:Int))):=by omega
 have agl:¬(281474976710656<Builtin.nextslicecap (qt+n) Bq *i.bytes):=by omega
 have agk:¬(281474976710656<(n:Int)*(i.bytes:Int)):=by
  rw[<-Int.natCast_mul]
  omega
 have afi:¬((n:Int)<0):=by omega
 have Na:¬(n *i.size=0):=Nat.mul_ne_zero hn ae
 have hfo:=run_firstCells_some (P:=P) w.drew i.size qt b qt Bq Sm Ki (by simpa[dr]using holds)
 simp[Builtin.append_,run_underlying ht,run_underlying htn,Go.sizeOf,typeInfo,zeroValue,hi,hz,asInt,asIntOf,hw,Cw,afi,Na,agi,agl,agk,Question.forced,hfo,newRow,grownCap]
namespace St
variable {w0 w:World} {L:List HP} {b b':Nat} {c c':Array Value} {T T':TypeId}
theorem frozen(h:St w0 (bP b (.cells c T (0,0))::L) w)(o:Nat):w.frozen? ⟨b,o,none⟩=false:=by
 simp[World.frozen?,h.look.2]
theorem shape(h:St w0 (bP b (.cells c T (0,0))::L) w):w.shape? b=some (T,c.size):=by
 simp[World.shape?,h.look.2]
theorem fu{fz:Nat×Nat}(h:St w0 (bP b (.cells c T fz)::L) w){off:Nat}{cs:List Value}(hc:∀(j:Nat) (v:Value),cs[j]? =some v->c[off+j]? =some v):dr w ⟨b,off,none⟩ cs:=fun j v hj=>by
 rw[Addr.add_lit,World.cell?,h.look.2];exact hc j v hj
theorem gJ{A B:HP}(h:St w0 (A::B::L) w):St w0 (B::A::L) w:=h.pick (.tail .head)
end St
theorem xN{P:Program}{w0 w:World}{L:List HP}{b b':Nat}{c c':Array Value}{T T':TypeId}(t tR e:TypeId)(i:TypeInfo)(ht:P.underlying t=some (.slice e))(hi:P.info? e=some i)(h:St w0 (bP b (.cells c T (0,0))::bP b' (.cells c' T' (0,0))::L) w)(o n cap o' n' o5:Nat)(hc':c'.size≠0):
 (Extern.SlicesOverlaps.overlaps #[t,t] #[tR] #[.slice (some ⟨b,o,none⟩) n cap,.slice (some ⟨b',o',none⟩) n' o5]).run P w=.ok (.bool false) w:=
 Lib.run_overlaps_apart w t tR e ht i.size (fun w=>by simp[Go.sizeOf,typeInfo,hi]) ⟨b,o,none⟩ ⟨b',o',none⟩ n cap n' o5 h.ne T T' c.size c'.size h.shape h.drop.shape hc' (h.frozen o) (h.frozen _)
section
variable {P:Program} {ops:Array Oper} {Q:Exit->Act->World->Prop} {a a':Act} {w w':World} {o:Oper} {v:Value}
theorem nw(d s:Operand)(t t':TypeId)(ho:o.op=.call ⟨.builtin .copy,#[d,s],#[t,t']⟩)(x u:Value)(hd:a.eval d=x)(hs:a.eval s=u)(hr:(Builtin.copy_ #[t,t'] o.type #[x,u]).run P w=.ok v w'):(execOp a.eval o).run P w=.ok (.value v) w':=by
 unfold execOp
 simp only[ho,resolve,invoke,builtin,Sem.run_bind,Sem.run_pure,Result.andThen_ok,List.map_toArray,aL,List.map_nil,hd,hs,hr]
theorem mj(d s:Operand)(t t':TypeId)(ho:o.op=.call ⟨.builtin .append,#[d,s],#[t,t']⟩)(x u:Value)(hd:a.eval d=x)(hs:a.eval s=u)(hr:(Builtin.append_ #[t,t'] o.type #[x,u]).run P w=.ok v w'):(execOp a.eval o).run P w=.ok (.value v) w':=by
 unfold execOp
 simp only[ho,resolve,invoke,builtin,Sem.run_bind,Sem.run_pure,Result.andThen_ok,List.map_toArray,aL,List.map_nil,hd,hs,hr]
theorem ub{rest:List Oper}(hg:o.guard=none)(d s:Operand)(t t':TypeId)(ho:o.op=.call ⟨.builtin .copy,#[d,s],#[t,t']⟩)(x u:Value)(hd:a.eval d=x)(hs:a.eval s=u)(hr:(Builtin.copy_ #[t,t'] o.type #[x,u]).run P w=.ok v w')(h:∀K:Act->World->Prop,(∀a w,wpList P ops Q rest a w->K a w)->K (a.put o.dst v) w'):wpList P ops Q (o::rest) a w:=
 Rx (by simp[Region.wanted,hg]) (nw d s t t' ho x u hd hs hr) h
variable {rest:List (Kd×Oper)}
theorem lZ(hw:Region.wanted o (yielded ops a.tmps)=true)(hr:(execOp a.eval o).run P w=.ok (.value v) w')(hp:a.put o.dst v=a')(h:jd P ops Q rest a' w'):jd P ops Q ((.write,o)::rest) a w:=by
 rw[eJ hw,Oper.wp,hr];show jd P ops Q rest (a.put o.dst v) w';rw[hp];exact h
theorem sA(hw:Region.wanted o (yielded ops a.tmps)=true)(hr:(execOp a.eval o).run P w=.ok .skip w')(hp:a.put o.dst undef=a')(h:jd P ops Q rest a' w'):jd P ops Q ((.write,o)::rest) a w:=by
 rw[eJ hw,Oper.wp,hr];show jd P ops Q rest (a.put o.dst undef) w';rw[hp];exact h
theorem EZ(hw:Region.wanted o (yielded ops a.tmps)=true)(hr:(execOp a.eval o).run P w=.ok (.value v) w')(he:Ext w w')(hp:a.put o.dst v=a')(h:jd P ops Q rest a' w'):jd P ops Q ((.dm,o)::rest) a w:=by
 rw[ic hw,Oper.wp,hr];refine⟨he,?_⟩;rw[hp];exact h
end
theorem kW{P:Program}{w0 w:World}{L:List HP}{b off:Nat}{c:Array Value}{T E:TypeId}{v:Value}(h:St w0 (bP b (.cells c E (0,0))::L) w)(hn:(Go.sizeOf T).run P w=.ok v.cells.size w)(oV:off+v.cells.size<=c.size)(h1:∀u∈v.cells.toList,u.oneCell'=true):
 (storeVar T ⟨b,off,none⟩ v).run P w=.ok () (w.setRow b (c.toList.take off++v.cells.toList++c.toList.drop (off+v.cells.toList.length)).toArray):=by
 have kt:=run_storeCells_at P b off E v.cells.toList 0 c w h.look.2 (by simpa using oV) h1
 simp only[Nat.add_zero]at kt
 simp[storeVar,hn,kt]
theorem oF{α:Type}(cur ins:List α)(k m n c:Nat)(hk:k<=n)(hm:ins.length=m)(hn:n+m<=c)(hc:cur.length=c):
 let c1:=cur.take (k+m)++((cur.take n).drop k)++cur.drop (n+m)
 (c1.take k++ins++c1.drop (k+m)).take (n+m)=(cur.take n).take k++ins++(cur.take n).drop k:=by
 intro c1
 have h1:c1.take k=cur.take k:=by
  simp only[c1,aH]
  rw[List.take_append_of_le_length ga,List.take_take,Nat.min_eq_left ae]
 have h2:c1.drop (k+m)=(cur.take n).drop k++cur.drop (n+m):=by
  simp only[c1,aH]
  rw[List.drop_append_of_le_length ga,List.drop_of_length_le ga,List.nil_append]
 rw[h1,h2,List.take_take,Nat.min_eq_left hk]
 rw[<-aH,List.take_append_of_le_length ga]
 exact List.take_of_length_le ga
theorem x5{α:Type}(A Z vs D:List α)(k m d:Nat)(hA:A.length=k)(hv:vs.length=m)(hD:D.length=d):
 let C0:=A++Z
 let C1:=C0.take k++vs++C0.drop (k+m)
 (C1.take (k+m)++D++C1.drop (k+m+d)).take (k+m+d)=A++vs++D:=by
 intro C0 C1
 have h0:C0.take k=A:=by simp only[C0];rw[<-hA];exact List.take_left
 have h1:C1.take (k+m)=A++vs:=by
  simp only[C1,h0]
  rw[show k+m=(A++vs).length by simp[hA,hv]]
  exact List.take_left
 rw[h1,show k+m+d=(A++vs++D).length by simp[hA,hv,hD];omega]
 exact List.take_left
end WB
namespace WB
open Go Go.RowKit
namespace St
variable {w0 w:World} {L R:List HP} {b off:Nat} {c:Array Value} {T:TypeId} {fz:Nat×Nat} {v:Value}
theorem cell(h:St w0 (bP b (.cells c T fz)::L) w)(hc:c[off]? =some v):w.cell? ⟨b,off,none⟩=some v:=by
 rw[World.cell?,h.look.2];exact hc
theorem PW(h:St w0 L w)(p:bQ L (bP b (.cells c T fz)) R)(hc:c[off]? =some v):w.cell? ⟨b,off,none⟩=some v:=(h.pick p).cell hc
end St
theorem E0{P:Program}{ops:Array Oper}{Q:Exit->Act->World->Prop}{rest:List (Kd×Oper)}{o:Oper}{a a':Act}{w w':World}{v:Value}(hw:Region.wanted o (yielded ops a.tmps)=true)(hr:(execOp a.eval o).run P w=.ok (.value v) w')(he:Ext w w')(hp:a.put o.dst v=a')(h:jd P ops Q rest a' w'):jd P ops Q ((.dm,o)::rest) a w:=EZ hw hr he hp h
theorem Ext.alloc(w:World)(o:Obj):Ext w (w.alloc o):=⟨by simp,fun k hk=>Below.heap_alloc _ _ _ hk⟩
theorem Bn{P:Program}{ops:Array Oper}{Q:Exit->Act->World->Prop}{rest:List (Kd×Oper)}{o:Oper}{a:Act}{w w':World}{f:FuncId}{args:Array Value}{R:Ending->World->Prop}(hw:Region.wanted o (yielded ops a.tmps)=true)(hr:(execOp a.eval o).run P w=.ok (.enter f args) w')(hc:Calls P f args w' R)(h:∀e tO,R e tO->∃v,e=.returned v/\jd P ops Q rest (a.put o.dst v) tO):jd P ops Q ((.write,o)::rest) a w:=by
 rw[eJ hw,Oper.wp,hr]
 refine hc.mono fun e tO hR=>?_
 obtain⟨v,rfl,hv⟩:=h e tO hR
 exact hv
theorem AA{P:Program}{a:Act}{w w':World}{d:Option Tmp}{T ty:TypeId}{x y:Operand}{pos:String}{after:Array Edge}{g:Option (Nat×Bool)}{ad:Addr}{v:Value}(ha:a.eval x=.pointer (some ad))(hv:a.eval y=v)(hr:(storeVar T ad v).run P w=.ok () w'):(execOp a.eval ⟨d,.store T x y,ty,pos,after,g⟩).run P w=.ok .skip w':=by
 simp[execOp,ha,hv,Instr.storeAt,Instr.sureAddr,hr]
theorem zx{c:Array Value}{off:Nat}{v:Value}(h:c[off]? =some v):c.setIfInBounds off v=c:=by
 apply Array.ext
 ·simp
 ·intro i h1 h2
  rw[Array.getElem_setIfInBounds]
  split
  ·rename_i e;subst e;rw[Array.getElem?_eq_getElem h2]at h;exact(Option.some.inj h).symm
  ·rfl
theorem Ic{c:Array Value}{off:Nat}{v:Value}(h:off<c.size):(c.toList.take off++[v]++c.toList.drop (off+1)).toArray=c.setIfInBounds off v:=by
 apply Array.ext'
 simp[List.set_eq_take_append_cons_drop,h]
theorem E9{α:Type}(cur ins:List α)(k m n:Nat)(hi:ins.length=m)(h:k+m<=n)(hn:n<=cur.length):
 (cur.take k++ins++cur.drop (k+m)).take n=(cur.take n).take k++ins++(cur.take n).drop (k+m):=by
 have h1:(cur.take k++ins).length=k+m:=by simp[hi];omega
 rw[List.take_append,h1,List.take_of_length_le ae,List.take_take,Nat.min_eq_left ae,List.drop_take]
def bR (l:List Nm) (s:ak):Nat:=(l.takeWhile fun x=>decide (jc x.name s<0)).length
theorem iN{α:Type}(p:α->Bool):∀l:List α,(l.takeWhile p).length<=l.length
 |[]=>aD _
 |a::l=>by
  by_cases h:p a=true
  ·simp only[List.takeWhile_cons,h,if_true,List.length_cons];have :=iN p l;omega
  ·simp[h]
theorem kV:∀{l:List Nm} {s:ak} {k:Nat},JM l s k->k=bR l s
 |[],s,k,h=>by have :=h.le;simp at this;subst this;rfl
 |x::l,s,k,h=>by
  unfold bR
  by_cases hx:jc x.name s<0
  ·simp only[List.takeWhile_cons,hx,decide_true,if_true,List.length_cons]
   cases k with
   |zero=>exact absurd hx (Int.not_lt.2 (h.hi 0 (aD _) aj))
   |succ k=>
    have :JM l s k:=⟨by have :=h.le;simp at this;omega,fun p hp=>h.lo (p+1) ae,fun p hp hl=>h.hi (p+1) ae ga⟩
    rw[kV this];rfl
  ·simp only[List.takeWhile_cons,hx,decide_false]
   cases k with
   |zero=>rfl
   |succ k=>exact absurd (h.lo 0 ae) hx
def cT (l:List Nm) (x:Nm):Int:=
 if cy x=false then 1 else if fy l x.name (bR l x.name)=true then 0 else if 20<=l.length then 12 else 0
def ff (l:List Nm) (x:Nm):List Nm:=
 if cy x=false then l else if fy l x.name (bR l x.name)=true then l.set (bR l x.name) x
 else if 20<=l.length then l else l.take (bR l x.name)++x::l.drop (bR l x.name)
def cS (T:TypeId) (k:Int):Value:=if k=0 then .nilIface else .iface T (.int .i64 k)
theorem mK{α β:Type}(f:α->List β)(sz:Nat)(hf:∀x,(f x).length=sz):∀(l:List α) (k:Nat),k<=l.length->(l.flatMap f).take (k *sz)=(l.take k).flatMap f
 |l,0,_=>by simp
 |[],k+1,h=>by simp at h
 |x::l,k+1,h=>by
  simp only[aR,List.take_succ_cons]
  rw[List.take_append,hf,show(k+1)*sz-sz=k *sz by rw[Nat.succ_mul];omega,mK f sz hf l k HV,List.take_of_length_le (by rw[hf,Nat.succ_mul];omega)]
theorem mL{α β:Type}(f:α->List β)(sz:Nat)(hf:∀x,(f x).length=sz):∀(l:List α) (k:Nat),k<=l.length->(l.flatMap f).drop (k *sz)=(l.drop k).flatMap f
 |l,0,_=>by simp
 |[],k+1,h=>by simp at h
 |x::l,k+1,h=>by
  simp only[aR,List.drop_succ_cons]
  rw[List.drop_append,hf,show(k+1)*sz-sz=k *sz by rw[Nat.succ_mul];omega,mL f sz hf l k HV,List.drop_of_length_le (by rw[hf,Nat.succ_mul];omega),List.nil_append]
theorem zU(l:List Nm)(x:Nm)(k:Nat)(hk:k<=l.length):(cz l).take (k *3)++x.cells++(cz l).drop (k *3)=cz (l.take k++x::l.drop k):=by
 unfold cz
 rw[mK _ 3 (fun _=>rfl) l k hk,mL _ 3 (fun _=>rfl) l k hk]
 simp
theorem xP(l:List Nm):∀u∈cz l,u.oneCell'=true:=fun u hu=>by
 obtain⟨x,_,hx⟩:=List.mem_flatMap.1 hu
 simp[Nm.cells]at hx
 rcases hx with rfl|rfl|rfl<;>rfl
theorem Nm.cells_one(x:Nm):∀u∈x.cells,u.oneCell'=true:=fun u hu=>by
 simp[Nm.cells]at hu
 rcases hu with rfl|rfl|rfl<;>rfl
theorem FC(l:List Nm)(x:Nm)(k:Nat)(hk:k<l.length):(cz l).take (k *3)++x.cells++(cz l).drop (k *3+3)=cz (l.set k x):=by
 unfold cz
 rw[mK _ 3 (fun _=>rfl) l k ae,show k *3+3=(k+1)*3 by omega,mL _ 3 (fun _=>rfl) l (k+1) ae,List.set_eq_take_append_cons_drop]
 simp[hk]
theorem Lt(l:List Nm)(x:Nm):(ff l x).length<=max l.length 20:=by
 unfold ff
 split
 ·omega
 ·split
  ·simp;omega
  ·split
   ·omega
   ·have :bR l x.name<=l.length:=iN _ _
    simp;omega
end WB
namespace WB
open Go Go.RowKit
def look (l:List Nm) (s:ak):Option Nm:=if fy l s (bR l s)=true then some (eB l (bR l s))else none
def fq (l:List Nm) (s:ak):Bool:=match look l s with|some x=>jb x.kr|none=>false
def gB (l:List Nm):Nat->ak->ak×Int×Int
 |0,_=>(⟨#[]⟩,0,11)
 |n+1,s=>match look l s with
  |none=>(⟨#[]⟩,0,7)
  |some x=>if jb x.kr=true then(s,-1,0)else if 0<=x.cq then(x.kr,x.cq,0)else gB l n x.kr
theorem Cg{l:List Nm}{s:ak}(h:fy l s (bR l s)=false):look l s=none:=by simp[look,h]
theorem Cf{l:List Nm}{s:ak}(h:fy l s (bR l s)=true):look l s=some (eB l (bR l s)):=by simp[look,h]
theorem wL{l:List Nm}{s:ak}{k:Nat}(h:fy l s k=true):k<l.length:=by
 unfold fy at h;rw[bn]at h;simpa using h.1
theorem CT:∀a:List UInt8,Lib.compareBytes a a=0
 |[]=>rfl
 |x::a=>by
  have :¬x<x:=by rw[UInt8.lt_iff_toNat_lt];omega
  simp only[Lib.compareBytes,this,if_false];exact CT a
theorem KN:∀{a b:List UInt8},Lib.compareBytes a b=0->a=b
 |[],[],_=>rfl
 |[],_::_,h=>by simp[Lib.compareBytes]at h
 |_::_,[],h=>by simp[Lib.compareBytes]at h
 |x::a,y::b,h=>by
  unfold Lib.compareBytes at h
  split at h
  ·simp at h
  ·split at h
   ·simp at h
   ·rename_i h1 h2
    have :x=y:=UInt8.toNat_inj.1 (by rw[UInt8.lt_iff_toNat_lt]at h1 h2;omega)
    rw[this,KN h]
theorem CU:∀(a b:List UInt8),Lib.compareBytes a b= -Lib.compareBytes b a
 |[],[]=>rfl
 |[],_::_=>rfl
 |_::_,[]=>rfl
 |x::a,y::b=>by
  unfold Lib.compareBytes
  by_cases h1:x<y
  ·have h2:¬y<x:=by rw[UInt8.lt_iff_toNat_lt]at *;omega
   simp[h1,h2]
  ·by_cases h2:y<x
   ·simp[h1,h2]
   ·simp only[h1,h2,if_false];exact CU a b
theorem AN:∀{a b c:List UInt8},Lib.compareBytes a b<0->Lib.compareBytes b c<0->Lib.compareBytes a c<0
 |[],_,[],h1,h2=>by cases ‹List UInt8› <;>simp[Lib.compareBytes]at h1 h2
 |[],_,_::_,_,_=>by simp[Lib.compareBytes]
 |_::_,[],_,h1,_=>by simp[Lib.compareBytes]at h1
 |_::_,_::_,[],_,h2=>by simp[Lib.compareBytes]at h2
 |x::a,y::b,z::c,h1,h2=>by
  unfold Lib.compareBytes at h1 h2 ⊢
  simp only[UInt8.lt_iff_toNat_lt]at h1 h2 ⊢
  by_cases e1:x.toNat<y.toNat
  ·by_cases e2:y.toNat<z.toNat
   ·have :x.toNat<z.toNat:=by omega
    simp[this]
   ·by_cases e3:z.toNat<y.toNat
    ·simp[e2,e3]at h2
    ·have :x.toNat<z.toNat:=by omega
     simp[this]
  ·by_cases e1':y.toNat<x.toNat
   ·simp[e1,e1']at h1
   ·simp only[e1,e1',if_false]at h1
    by_cases e2:y.toNat<z.toNat
    ·have :x.toNat<z.toNat:=by omega
     simp[this]
    ·by_cases e3:z.toNat<y.toNat
     ·simp[e2,e3]at h2
     ·simp only[e2,e3,if_false]at h2
      have n1:¬x.toNat<z.toNat:=by omega
      have n2:¬z.toNat<x.toNat:=by omega
      simp only[n1,n2,if_false]
      exact AN h1 h2
theorem mQ(a:ak):jc a a=0:=CT _
theorem vg{a b:ak}(h:jc a b=0):a=b:=by
 have :=KN h
 cases a;cases b;rename_i x y;cases x;cases y;simp at this;rw[this]
theorem xa(a b:ak):jc a b= -jc b a:=CU _ _
theorem tC{a b c:ak}(h1:jc a b<0)(h2:jc b c<0):jc a c<0:=AN h1 h2
def en (l:List Nm):Prop:=l.Pairwise fun a b=>jc a.name b.name<0
theorem en.mono{l:List Nm}(h:en l)(s:ak):Ev l s:=fun p q Q5 hq hs=>by
 rcases Nat.lt_or_eq_of_le Q5 with dS|rfl
 ·have :=List.pairwise_iff_getElem.1 h p q ae hq dS
  rw[show eB l p=l[p]' ae by simp[eB,aq,show p<l.length by omega]]
  rw[show eB l q=l[q]by simp[eB,aq,hq]]at hs
  exact tC this hs
 ·exact hs
theorem Ia:en []:=List.Pairwise.nil
def lk (l:List Nm) (s:ak):Option Nm:=l.find? fun x=>decide (x.name=s)
def qz (x:Nm):List Nm->List Nm
 |[]=>[x]
 |y::l=>if jc y.name x.name<0 then y::qz x l else if jc y.name x.name=0 then x::l else x::y::l
theorem fb(x:Nm)(l:List Nm)(s:ak):lk (x::l) s=if x.name=s then some x else lk l s:=by
 unfold lk;rw[List.find?_cons];by_cases h:x.name=s<;>simp[h]
theorem z8{l:List Nm}{s:ak}(h:∀y∈l,jc s y.name<0):lk l s=none:=by
 unfold lk;rw[List.find?_eq_none]
 intro y hy he
 have :=h y hy
 simp at he;rw[he,mQ]at this;omega
theorem nY:∀{l:List Nm} (_:en l) (s:ak),look l s=lk l s
 |[],_,s=>rfl
 |x::l,h,s=>by
  obtain⟨h1,h2⟩:=List.pairwise_cons.1 h
  rw[fb]
  by_cases hx:jc x.name s<0
  ·have hs:bR (x::l) s=bR l s+1:=by simp[bR,List.takeWhile_cons,hx]
   have gN:x.name≠s:=fun e=>by rw[e,mQ]at hx;omega
   rw[if_neg gN,<-nY h2 s]
   unfold look
   rw[hs]
   have :fy (x::l) s (bR l s+1)=fy l s (bR l s):=by simp[fy,eB]
   rw[this];rfl
  ·have hs:bR (x::l) s=0:=by simp[bR,List.takeWhile_cons,hx]
   unfold look
   rw[hs]
   by_cases he:x.name=s
   ·simp[fy,eB,he,mQ]
   ·have h0:jc x.name s≠0:=fun e=>he (vg e)
    have :fy (x::l) s 0=false:=by simp[fy,eB,h0]
    rw[this,if_neg he]
    have dS:jc s x.name<0:=by rw[xa];omega
    rw[z8 fun y hy=>tC dS (h1 y hy)];rfl
theorem FV{x y:Nm}:∀{l:List Nm},y∈qz x l->y=x\/y∈l
 |[],h=>by simp[qz]at h;exact Or.inl h
 |z::l,h=>by
  unfold qz at h
  split at h
  ·rcases aF.1 h with h|h
   ·exact Or.inr (by simp[h])
   ·rcases FV h with h|h
    ·exact Or.inl h
    ·exact Or.inr (by simp[h])
  ·split at h
   ·rcases aF.1 h with h|h
    ·exact Or.inl h
    ·exact Or.inr (by simp[h])
   ·rcases aF.1 h with h|h
    ·exact Or.inl h
    ·exact Or.inr h
theorem nZ{x:Nm}:∀{l:List Nm},en l->en (qz x l)
 |[],_=>List.pairwise_singleton _ _
 |z::l,h=>by
  obtain⟨h1,h2⟩:=List.pairwise_cons.1 h
  unfold qz
  split
  ·rename_i hz
   refine List.pairwise_cons.2 ⟨fun y hy=>?_,nZ h2⟩
   rcases FV hy with rfl|hy
   ·exact hz
   ·exact h1 y hy
  ·split
   ·rename_i he
    have he:=vg he
    exact List.pairwise_cons.2 ⟨fun y hy=>he▸h1 y hy,h2⟩
   ·rename_i h3 h4
    have dS:jc x.name z.name<0:=by rw[xa];omega
    refine List.pairwise_cons.2 ⟨fun y hy=>?_,h⟩
    rcases aF.1 hy with rfl|hy
    ·exact dS
    ·exact tC dS (h1 y hy)
theorem Dz{x:Nm}(s:ak):∀{l:List Nm},lk (qz x l) s=if x.name=s then some x else lk l s
 |[]=>by rw[qz,fb]
 |z::l=>by
  unfold qz
  split
  ·rename_i hz
   rw[fb,Dz s,fb]
   by_cases h1:z.name=s
   ·have :x.name≠s:=fun e=>by rw[h1,e,mQ]at hz;omega
    simp[h1,this]
   ·simp[h1]
  ·split
   ·rename_i he
    have he:=vg he
    rw[fb,fb]
    by_cases h1:x.name=s
    ·simp[h1]
    ·simp[h1,he]
   ·rw[fb]
theorem Fi(x:Nm):∀(l:List Nm),(if fy l x.name (bR l x.name)=true then l.set (bR l x.name) x else l.take (bR l x.name)++x::l.drop (bR l x.name))=qz x l
 |[]=>by simp[fy,bR,qz]
 |z::l=>by
  unfold qz
  by_cases hz:jc z.name x.name<0
  ·have hs:bR (z::l) x.name=bR l x.name+1:=by simp[bR,List.takeWhile_cons,hz]
   have hh:fy (z::l) x.name (bR l x.name+1)=fy l x.name (bR l x.name):=by simp[fy,eB]
   rw[if_pos hz,hs,hh,<-Fi x l]
   split<;>simp
  ·have hs:bR (z::l) x.name=0:=by simp[bR,List.takeWhile_cons,hz]
   rw[if_neg hz,hs]
   by_cases he:jc z.name x.name=0
   ·simp[fy,eB,he]
   ·simp[fy,eB,he]
theorem rU{l:List Nm}{s:ak}{x:Nm}(h:lk l s=some x):x∈l/\x.name=s:=⟨List.mem_of_find?_eq_some h,by simpa using List.find?_some h⟩
theorem zw:∀{l l':List Nm},en l->en l'->(∀s,lk l s=lk l' s)->l=l'
 |[],[],_,_,_=>rfl
 |[],y::l',_,_,h=>by have :=h y.name;rw[fb]at this;simp[lk]at this
 |x::l,[],_,_,h=>by have :=h x.name;rw[fb]at this;simp[lk]at this
 |x::l,y::l',h1,h2,h=>by
  obtain⟨a1,a2⟩:=List.pairwise_cons.1 h1
  obtain⟨b1,b2⟩:=List.pairwise_cons.1 h2
  have e1:=h x.name
  have e2:=h y.name
  rw[fb,fb,if_pos rfl]at e1
  rw[fb,fb,if_pos rfl]at e2
  have hn:y.name=x.name:=by
   rcases Decidable.em (y.name=x.name)with e|e
   ·exact e
   ·rw[if_neg e]at e1
    rw[if_neg (fun h=>e h.symm)]at e2
    have c1:=b1 _ (rU e1.symm).1
    have c2:=a1 _ (rU e2).1
    rw[xa]at c1;omega
  rw[if_pos hn]at e1
  simp at e1
  subst e1
  rw[zw a2 b2 fun s=>?_]
  have e3:=h s
  rw[fb,fb]at e3
  by_cases hs:x.name=s
  ·subst hs
   rw[z8 a1,z8 b1]
  ·simpa[hs]using e3
def Sn (l:List Nm) (s:ak):Option ak:=match look l s with
 |some x=>if jb x.kr=true then none else if 0<=x.cq then none else some x.kr
 |none=>none
def cR (l:List Nm) (s:ak):Nat->Option ak
 |0=>some s
 |i+1=>(cR l s i).bind (Sn l)
theorem pE{l:List Nm}(h:en l):(l.map Nm.name).Nodup:=by
 rw[List.nodup_iff_pairwise_ne,List.pairwise_map]
 exact h.imp fun {a b} vK e=>by rw[e,mQ]at vK;omega
open Go Go.RowKit Go.ChangeMaps Go.MapKept
def XC (es:List MapEntry) (m:List (ak×Value)):Prop:=es.map (fun e=>(e.key,e.val))=m.map (fun x=>(Value.string x.1,x.2))
def omap (b:Nat) (m:List (ak×Value)):HP:=ex fun es:Array MapEntry=>ex fun gG:Nat=>sep (LH (XC es.toList m)) (bP b (.map es gG))
def ags (m:List (ak×Value)) (s:ak):Option Value:=match m with
 |[]=>none
 |x::r=>if x.1=s then some x.2 else ags r s
def aex (m:List (ak×Value)) (s:ak) (v:Value):List (ak×Value):=match m with
 |[]=>[(s,v)]
 |x::r=>if x.1=s then(x.1,v)::r else x::aex r s v
def kM (m:List (ak×Value)) (s:ak):Option Nat:=match m with
 |[]=>none
 |x::r=>if x.1=s then some 0 else(kM r s).map (· +1)
variable {w0 w:World} {L:List HP} {P:Program} {b:Nat} {m:List (ak×Value)}
end WB
namespace WB
open Go Go.RowKit
variable {w0 w:World} {L:List HP} {P:Program}
end WB
namespace WB
open Go Go.RowKit
abbrev Env:=List (Nat×Value)
def c_:Env->Nat->Option Value
 |[],_=>none
 |(s,v)::r,t=>match Nat.beq s t with|true=>some v|false=>c_ r t
def ev (G:Env):Operand->Option Value
 | .tmp t=>c_ G t
 | .const v=>some v
 | .global g=>some (.pointer (some ⟨g,0,none⟩))
 | .func f=>some (.func (.func f) #[] #[])
structure cX (n:Nat) (D:List Deferred) (G:Env) (a:Act):Prop where
 size:a.tmps.size=n
 defers:a.defers=D
 get:∀t v,c_ G t=some v->a.tmps[t]? =some v
theorem tv(s:Nat)(v:Value)(r:Env)(t:Nat):c_ ((s,v)::r) t=if s=t then some v else c_ r t:=by
 show(match Nat.beq s t with|true=>some v|false=>c_ r t)=_
 cases h:Nat.beq s t with
 |true=>rw[if_pos (Nat.eq_of_beq_eq_true h)]
 |false=>rw[if_neg (fun e=>by rw[e,Nat.beq_refl]at h;cases h)]
section
variable {n:Nat} {D:List Deferred} {G G':Env} {a:Act} {x:Operand} {v:Value}
theorem cX.eval(h:cX n D G a)(hx:ev G x=some v):a.eval x=v:=by
 cases x with
 |tmp t=>
  have :=h.get t v hx
  simp[Act.eval,Array.getD_eq_getD_getElem?,this]
 |const u=>simp only[ev,az]at hx;exact hx
 |global g=>simp only[ev,az]at hx;exact hx
 |func f=>simp only[ev,az]at hx;exact hx
theorem cX.put(h:cX n D G a)(t:Nat)(v:Value)(ht:t<n):cX n D ((t,v)::G) (a.put (some t) v):=by
 refine⟨by simp[Act.put,h.size],h.defers,fun s u hs=>?_⟩
 rw[tv]at hs
 by_cases e:t=s
 ·subst e
  rw[if_pos rfl]at hs
  have :t<a.tmps.size:=by rw[h.size];exact ht
  simp[Act.put,this]
  simpa using hs
 ·rw[if_neg e]at hs
  simp[Act.put,e]
  exact h.get s u hs
def Et (G:Env):Env->Prop
 |[]=>True
 |(t,v)::r=>c_ G t=some v/\Et G r
theorem Et.get:∀{G':Env},Et G G'->∀t v,c_ G' t=some v->c_ G t=some v
 |[],_,t,v,h=>by simp[c_]at h
 |(s,u)::r,⟨h1,h2⟩,t,v,h=>by
  rw[tv]at h
  by_cases e:s=t
  ·subst e;rw[if_pos rfl]at h;rw[h1];exact h
  ·rw[if_neg e]at h;exact Et.get h2 t v h
theorem cX.sub(h:cX n D G a)(hs:Et G G'):cX n D G' a:=⟨h.size,h.defers,fun t v ht=>h.get t v (hs.get t v ht)⟩
end
def rv:Nat->List Value->Env
 |_,[]=>[]
 |i,v::r=>(i,v)::rv (i+1) r
theorem AX:∀(l:List Value) (i t:Nat) (v:Value),c_ (rv i l) t=some v->i<=t/\l[t-i]? =some v
 |[],i,t,v,h=>by simp[rv,c_]at h
 |u::l,i,t,v,h=>by
  rw[rv,tv]at h
  by_cases e:i=t
  ·subst e;rw[if_pos rfl]at h;exact⟨aD _,by simpa using h⟩
  ·rw[if_neg e]at h
   obtain⟨h1,h2⟩:=AX l (i+1) t v h
   refine⟨by omega,?_⟩
   rw[show t-i=(t-(i+1))+1 by omega];simpa using h2
theorem cX.enter{args:Array Value}{n:Nat}(h:args.size<=n):cX n [] (rv 0 args.toList) {tmps:=args++Array.replicate (n-args.size) undef,defers:=[]}:=by
 refine⟨by simp;omega,rfl,fun t v ht=>?_⟩
 have :=(AX _ _ _ _ ht).2
 rw[Nat.sub_zero]at this
 have dS:t<args.size:=by
  have :=(au.1 this).1
  simpa using this
 simp only[Array.getElem?_append,dS,if_true]
 simpa using this
def JS (d:Bool) (P:Program) (ops:Array Oper) (Q:Exit->Act->World->Prop) (l:List (Kd×Oper)) (a:Act) (w:World):Prop:=
 match d with|true=>jd P ops Q l a w|false=>wpList P ops Q (l.map (·.2)) a w
def V6 (d:Bool) (Q:Exit->Act->World->Prop):Exit->Act->World->Prop:=match d with|true=>fun _ _ _=>False|false=>Q
section
variable {d:Bool} {P:Program} {ops:Array Oper} {Q:Exit->Act->World->Prop} {rest:List (Kd×Oper)} {k:Kd} {o:Oper} {a:Act} {w:World} {v:Value}
theorem E3(hw:Region.wanted o (yielded ops a.tmps)=false)(h:JS d P ops Q rest (a.put o.dst undef) w):JS d P ops Q ((k,o)::rest) a w:=by
 cases d with
 |true=>show jd _ _ _ _ _ _;rw[qT hw];exact h
 |false=>exact wpList_skip hw h
theorem rH(hw:Region.wanted o (yielded ops a.tmps)=true){l:List Oper}(h:o.wp P a w (wpList P ops Q l) Q):wpList P ops Q (o::l) a w:=by
 unfold wpList;rw[if_pos hw];exact .inl h
theorem RD(hw:Region.wanted o (yielded ops a.tmps)=true)(hv:∀w',(execOp a.eval o).run P w'=.ok (.value v) w')(h:JS d P ops Q rest (a.put o.dst v) w):JS d P ops Q ((k,o)::rest) a w:=by
 cases d with
 |true=>
  show jd _ _ _ _ _ _
  by_cases hl:k.oQ=true
  ·rw[ei hl hw];exact⟨v,fun w' _=>.inl (hv w'),h⟩
  ·cases k with
   |dm=>rw[ic hw];unfold Oper.wp;rw[hv];exact⟨Ext.refl w,h⟩
   |write=>rw[eJ hw];unfold Oper.wp;rw[hv];exact h
   |_=>exact absurd rfl hl
 |false=>exact rH hw (by unfold Oper.wp;rw[hv];exact h)
theorem Nx(hk:(!d||k != .pure)=true)(hw:Region.wanted o (yielded ops a.tmps)=true)(hv:∀w',Ext w w'->(execOp a.eval o).run P w'=.ok (.value v) w')(h:JS d P ops Q rest (a.put o.dst v) w):
 JS d P ops Q ((k,o)::rest) a w:=by
 cases d with
 |true=>
  show jd _ _ _ _ _ _
  cases k with
  |pure=>simp at hk
  |read=>rw[ei rfl hw];exact⟨v,fun w' e=>.inl (hv w' e),h⟩
  |same=>rw[ei rfl hw];exact⟨v,fun w' (e:w'=w)=>.inl (by subst e;exact hv _ (Ext.refl _)),h⟩
  |dm=>rw[ic hw];unfold Oper.wp;rw[hv _ (Ext.refl w)];exact⟨Ext.refl w,h⟩
  |write=>rw[eJ hw];unfold Oper.wp;rw[hv _ (Ext.refl w)];exact h
 |false=>exact rH hw (by unfold Oper.wp;rw[hv _ (Ext.refl w)];exact h)
theorem E4(hk:(!d||(k== .dm||k== .write))=true)(hw:Region.wanted o (yielded ops a.tmps)=true)(h:o.wp P a w (fun a' w'=>Ext w w'/\JS d P ops Q rest a' w') (fun _ _ _=>False)):JS d P ops Q ((k,o)::rest) a w:=by
 cases d with
 |true=>
  show jd _ _ _ _ _ _
  cases k with
  |pure=>simp at hk
  |read=>simp at hk
  |same=>simp at hk
  |dm=>rw[ic hw];exact h
  |write=>rw[eJ hw];exact jx (fun a w hh=>hh.2) h
 |false=>exact rH hw (jx (fun a w hh=>hh.2) h)
theorem mD(hk:(!d||k== .write)=true)(hw:Region.wanted o (yielded ops a.tmps)=true)(h:o.wp P a w (fun a' w'=>JS d P ops Q rest a' w') (V6 d Q)):JS d P ops Q ((k,o)::rest) a w:=by
 cases d with
 |true=>
  show jd _ _ _ _ _ _
  cases k with
  |write=>rw[eJ hw];exact h
  |_=>simp at hk
 |false=>exact rH hw h
end
section
variable (P:Program)
def KO (ops:Array Oper) (d:Bool) (Q:Exit->Act->World->Prop) (n:Nat) (D:List Deferred) (w0:World) (G:Env) (L:List HP) (l:List (Kd×Oper)):Prop:=
 ∀a w,cX n D G a->St w0 L w->JS d P ops Q l a w
def K (c:Code) (Q:Exit->Act->World->Prop) (n:Nat) (D:List Deferred) (w0:World) (G:Env) (L:List HP):Prop:=
 ∀a w,cX n D G a->St w0 L w->c.wp P Q a w
end
def KQ (Q:Exit->Act->World->Prop) (e:Exit) (n:Nat) (D:List Deferred) (w0:World) (G:Env) (L:List HP):Prop:=
 ∀a w,cX n D G a->St w0 L w->Q e a w
section
variable {P:Program} {ops:Array Oper} {d:Bool} {Q:Exit->Act->World->Prop} {n:Nat} {D:List Deferred} {w0:World} {G G':Env} {L L':List HP} {l:List (Kd×Oper)} {c x y:Code} {e:Exit}
def wr:List Oper->List (Kd×Oper)
 |[]=>[]
 |o::l=>(.write,o)::wr l
theorem HY:∀l:List Oper,(wr l).map (·.2)=l
 |[]=>rfl
 |o::l=>by simp[wr,HY l]
theorem K.M5{id:Nat}{l:List Oper}(h:KO P l.toArray false Q n D w0 G L (wr l)):K P (.region id l.toArray false) Q n D w0 G L:=fun a w ha hw=>by
 have :=h a w ha hw
 simp only[JS,HY]at this
 exact wp_region_lit this
theorem K.draw{id:Nat}(ks:List Kd)(ord:List Nat)(q_:P.follows .mixedOrders=true)(kZ:Zb ops ks ord=true)(h:KO P ops true Q n D w0 G L (ord.map (item ops ks))):K P (.region id ops true) Q n D w0 G L:=fun a _ ha hw=>
 fe ks ord q_ kZ (h a _ ha hw.drew)
theorem KO.nil(h:KQ Q .normal n D w0 G L):KO P ops d Q n D w0 G L []:=fun a w ha hw=>by
 cases d with
 |true=>exact h a w ha hw
 |false=>exact h a w ha hw
theorem K.seq(h:K P x (Exit.then (y.wp P Q) Q) n D w0 G L):K P (.seq x y) Q n D w0 G L:=fun a w ha hw=>wp_seq (h a w ha hw)
theorem K.block{id:Nat}(h:K P x (Exit.inBlock id Q) n D w0 G L):K P (.block id x) Q n D w0 G L:=fun a w ha hw=>wp_block (h a w ha hw)
theorem K.ret(h:KQ Q .ret n D w0 G L):K P .ret Q n D w0 G L:=fun a w ha hw=>wp_ret (h a w ha hw)
theorem K.skip(h:KQ Q .normal n D w0 G L):K P .skip Q n D w0 G L:=fun a w ha hw=>wp_skip (h a w ha hw)
theorem K.exit{id:Nat}(h:KQ Q (.exit id) n D w0 G L):K P (.exit id) Q n D w0 G L:=fun a w ha hw=>wp_exit (h a w ha hw)
theorem K.cond{cd:Operand}{b:Bool}(hc:ev G cd=some (.bool b))(ht:b=true->K P x Q n D w0 G L)(hf:b=false->K P y Q n D w0 G L):K P (.cond cd x y) Q n D w0 G L:=fun a w ha hw=>
 wp_cond_split (ha.eval hc) (fun e=>ht e a w ha hw) (fun e=>hf e a w ha hw)
theorem K.bz{cd:Operand}{p:Prop}[Decidable p](hc:ev G cd=some (.bool (decide p)))(ht:p->K P x Q n D w0 G L)(hf:¬p->K P y Q n D w0 G L):K P (.cond cd x y) Q n D w0 G L:=
 K.cond hc (fun e=>ht (of_decide_eq_true e)) (fun e=>hf (of_decide_eq_false e))
theorem K.cV{cd:Operand}{b:Bool}(hc:ev G cd=some (.bool b))(hb:b=true)(h:K P x Q n D w0 G L):K P (.cond cd x y) Q n D w0 G L:=
 K.cond hc (fun _=>h) (fun e=>by rw[hb]at e;cases e)
theorem K.dp{cd:Operand}{b:Bool}(hc:ev G cd=some (.bool b))(hb:b=false)(h:K P y Q n D w0 G L):K P (.cond cd x y) Q n D w0 G L:=
 K.cond hc (fun e=>by rw[hb]at e;cases e) (fun _=>h)
theorem KQ.next(h:K P y Q n D w0 G L):KQ (Exit.then (y.wp P Q) Q) .normal n D w0 G L:=h
theorem KQ.jy{N:Act->World->Prop}{i:Nat}(h:KQ Q (.exit i) n D w0 G L):KQ (Exit.then N Q) (.exit i) n D w0 G L:=h
theorem KQ.oE{N:Act->World->Prop}(h:KQ Q .ret n D w0 G L):KQ (Exit.then N Q) .ret n D w0 G L:=h
theorem KQ.y9{i:Nat}(h:KQ Q .ret n D w0 G L):KQ (Exit.inBlock i Q) .ret n D w0 G L:=h
theorem KQ.iF{i:Nat}(h:KQ Q .normal n D w0 G L):KQ (Exit.inBlock i Q) .normal n D w0 G L:=h
theorem KQ.lH{i:Nat}(h:KQ Q .normal n D w0 G L):KQ (Exit.inBlock i Q) (.exit i) n D w0 G L:=fun a w ha hw=>by
 show if i=i then Q .normal a w else Q (.exit i) a w
 rw[if_pos rfl];exact h a w ha hw
theorem KQ.GU{i j:Nat}(gN:Nat.beq j i=false)(h:KQ Q (.exit j) n D w0 G L):KQ (Exit.inBlock i Q) (.exit j) n D w0 G L:=fun a w ha hw=>by
 show if j=i then Q .normal a w else Q (.exit j) a w
 rw[if_neg (fun e=>by rw[e,Nat.beq_refl]at gN;cases gN)];exact h a w ha hw
theorem K.conv(hs:∀w,St w0 L w->St w0 L' w)(h:K P c Q n D w0 G L'):K P c Q n D w0 G L:=fun a w ha hw=>h a w ha (hs w hw)
theorem KO.conv(hs:∀w,St w0 L w->St w0 L' w)(h:KO P ops d Q n D w0 G L' l):KO P ops d Q n D w0 G L l:=fun a w ha hw=>h a w ha (hs w hw)
theorem KQ.conv(hs:∀w,St w0 L w->St w0 L' w)(h:KQ Q e n D w0 G L'):KQ Q e n D w0 G L:=fun a w ha hw=>h a w ha (hs w hw)
theorem K.fact{p:Prop}(hs:∀w,St w0 L w->p)(h:p->K P c Q n D w0 G L):K P c Q n D w0 G L:=fun a w ha hw=>h (hs w hw) a w ha hw
theorem KO.fact{p:Prop}(hs:∀w,St w0 L w->p)(h:p->KO P ops d Q n D w0 G L l):KO P ops d Q n D w0 G L l:=fun a w ha hw=>h (hs w hw) a w ha hw
theorem K.cx{α:Sort _}{F:α->List HP}(hs:∀w,St w0 L w->∃x,St w0 (F x) w)(h:∀x,K P c Q n D w0 G (F x)):K P c Q n D w0 G L:=fun a w ha hw=>by
 obtain⟨x,hx⟩:=hs w hw
 exact h x a w ha hx
def QP {α:Type} (n:Nat) (D:List Deferred) (w0:World) (E:α->Env) (H:α->List HP) (φ:α->Prop) (m:α->Nat) (x:α) (a:Act) (w:World):Prop:=
 ∃y,φ y/\m y<m x/\cX n D (E y) a/\St w0 (H y) w
theorem K.loop{α:Type}(E:α->Env)(H:α->List HP)(φ:α->Prop)(m:α->Nat)(x0:α)(h0:φ x0)(hG:Et G (E x0))(hL:∀w,St w0 L w->St w0 (H x0) w)(round:∀x,φ x->K P c (Exit.then (QP n D w0 E H φ m x) Q) n D w0 (E x) (H x)):K P (.loop c) Q n D w0 G L:=fun a w ha hw=>by
 have key:∀(N:Nat) (x:α) (a:Act) (w:World),m x<N->φ x->cX n D (E x) a->St w0 (H x) w->Code.rounds P c Q N a w:=by
  intro N
  induction N with
  |zero=>intro x a w h;omega
  |succ N ih=>
   intro x a w dS hx ha hw
   rw[rounds_succ]
   refine Go.wp_mono (round x hx a w ha hw) fun e a w hq=>?_
   cases e with
   |normal=>
    obtain⟨y,hy,Tb,su,hw'⟩:=hq
    exact ih y a w ae hy su hw'
   |_=>exact hq
 exact wp_loop_rounds (m x0+1) (key _ x0 a w (Nat.lt_succ_self _) h0 (ha.sub hG) (hL w hw))
theorem KQ.round{α:Type}{E:α->Env}{H:α->List HP}{φ:α->Prop}{m:α->Nat}{x:α}(y:α)(hy:φ y)(hm:m y<m x)(hG:Et G (E y))(hL:∀w,St w0 L w->St w0 (H y) w):
 KQ (Exit.then (QP n D w0 E H φ m x) Q) .normal n D w0 G L:=fun _ w ha hw=>⟨y,hy,hm,ha.sub hG,hL w hw⟩
end
def KC (P:Program) (f:FuncId) (args:Array Value) (w0:World) (L:List HP) (R:Value->List HP->Prop):Prop:=
 ∀w,St w0 L w->Calls P f args w fun e w'=> ∃v L',e=.returned v/\R v L'/\St w0 L' w'
def KE (P:Program) (f:FuncId) (args:Array Value) (w0:World) (L:List HP) (R:Value->List HP->Prop):Prop:=
 ∀w,St w0 L w->Calls P f args w fun e w'=> ∃v L',e=.returned v/\R v L'/\St w0 L' w'/\Below w.heap.size w w'
def KP (P:Program) (f:FuncId) (args:Array Value) (w0:World) (L:List HP) (R:Ending->List HP->Prop):Prop:=
 ∀w,St w0 L w->Calls P f args w fun e w'=> ∃L',R e L'/\St w0 L' w'
def ag1 (w0:World) (R:Value->List HP->Prop):Ending->World->Prop:=fun e w'=> ∃v L',e=.returned v/\R v L'/\St w0 L' w'
section
variable {P:Program} {f:FuncId} {args:Array Value} {w0:World} {L:List HP} {R R':Value->List HP->Prop}
theorem KE.mono(h:KE P f args w0 L R)(hr:∀v L',R v L'->R' v L'):KE P f args w0 L R':=fun w hw=>(h w hw).mono fun _ _ ⟨v,L',a,b,c⟩=>⟨v,L',a,hr _ _ b,c⟩
theorem KC.mk{fn:Func}{c:Code}{n:Nat}(hf:P.funcs[f]? =some fn)(hb:fn.body=some c)(hn:fn.ntmps=n)(dK:args.size<=n)(h:K P c (bodyPost P fn (ag1 w0 R)) n [] w0 (rv 0 args.toList) L):KC P f args w0 L R:=fun w hw=>by
 subst hn
 exact calls_of_wp hf hb (h _ w (cX.enter dK) hw)
theorem KE.mk{fn:Func}{c:Code}{n:Nat}(hf:P.funcs[f]? =some fn)(hb:fn.body=some c)(hn:fn.ntmps=n)(dK:args.size<=n)(h:∀w,St w0 L w->K P c (bodyPost P fn fun e w'=> ∃v L',e=.returned v/\R v L'/\St w0 L' w'/\Below w.heap.size w w') n [] w (rv 0 args.toList) []):KE P f args w0 L R:=fun w hw=>by
 subst hn
 exact calls_of_wp hf hb (h w hw _ w (cX.enter dK) (St.init w))
end
section
variable {P:Program} {fn:Func} {R:Ending->World->Prop} {n:Nat} {w0:World} {G:Env} {L:List HP} {v v1 v2 v3:Value} {t t1 t2 t3:Nat}
theorem aew(hr:fn.results=#[.tmp t])(hv:c_ G t=some v)(a:Act)(w:World)(ha:cX n [] G a):(results fn a.tmps).run P w=.ok v w:=by
 rw[results_tmp hr];simp[Array.getD_eq_getD_getElem?,ha.get _ _ hv]
theorem aev(hr:fn.results=#[.tmp t1,.tmp t2])(h1:c_ G t1=some v1)(h2:c_ G t2=some v2)(a:Act)(w:World)(ha:cX n [] G a):(results fn a.tmps).run P w=.ok (.tuple #[v1,v2]) w:=by
 rw[results_tmp2 hr];simp[Array.getD_eq_getD_getElem?,ha.get _ _ h1,ha.get _ _ h2]
theorem aeu(hr:fn.results=#[.tmp t1,.tmp t2,.tmp t3])(h1:c_ G t1=some v1)(h2:c_ G t2=some v2)(h3:c_ G t3=some v3)(a:Act)(w:World)(ha:cX n [] G a):
 (results fn a.tmps).run P w=.ok (.tuple #[v1,v2,v3]) w:=by
 rw[results_tmp3 hr];simp[Array.getD_eq_getD_getElem?,ha.get _ _ h1,ha.get _ _ h2,ha.get _ _ h3]
theorem KQ.fin(hr:∀a w,cX n [] G a->St w0 L w->(results fn a.tmps).run P w=.ok v w)(h:∀w,St w0 L w->R (.returned v) w):KQ (bodyPost P fn R) .ret n [] w0 G L:=fun a w ha hw=>⟨ha.defers,v,hr a w ha hw,h w hw⟩
theorem KQ.agw(hr:∀a w,cX n [] G a->St w0 L w->(results fn a.tmps).run P w=.ok v w)(h:∀w,St w0 L w->R (.returned v) w):KQ (bodyPost P fn R) .normal n [] w0 G L:=fun a w ha hw=>⟨ha.defers,v,hr a w ha hw,h w hw⟩
theorem KQ.bG(hr:fn.results=#[.tmp t])(hv:c_ G t=some v)(h:∀w,St w0 L w->R (.returned v) w):KQ (bodyPost P fn R) .ret n [] w0 G L:=
 KQ.fin (fun a w ha _=>aew hr hv a w ha) h
theorem KQ.fp(hr:fn.results=#[.tmp t1,.tmp t2])(h1:c_ G t1=some v1)(h2:c_ G t2=some v2)(h:∀w,St w0 L w->R (.returned (.tuple #[v1,v2])) w):KQ (bodyPost P fn R) .ret n [] w0 G L:=
 KQ.fin (fun a w ha _=>aev hr h1 h2 a w ha) h
theorem KQ.Fc(hr:fn.results=#[.tmp t1,.tmp t2,.tmp t3])(h1:c_ G t1=some v1)(h2:c_ G t2=some v2)(h3:c_ G t3=some v3)(h:∀w,St w0 L w->R (.returned (.tuple #[v1,v2,v3])) w):KQ (bodyPost P fn R) .ret n [] w0 G L:=
 KQ.fin (fun a w ha _=>aeu hr h1 h2 h3 a w ha) h
theorem KQ.VY(hr:fn.results=#[])(h:∀w,St w0 L w->R (.returned (.tuple #[])) w):KQ (bodyPost P fn R) .ret n [] w0 G L:=
 KQ.fin (fun a w _ _=>results_none hr a.tmps P w) h
theorem KQ.j9(hr:fn.results=#[])(h:∀w,St w0 L w->R (.returned (.tuple #[])) w):KQ (bodyPost P fn R) .normal n [] w0 G L:=
 KQ.agw (fun a w _ _=>results_none hr a.tmps P w) h
end
section
variable {P:Program} {ops:Array Oper} {d:Bool} {Q:Exit->Act->World->Prop} {n:Nat} {D:List Deferred} {w0:World} {G:Env} {L R:List HP} {l:List (Kd×Oper)} {k:Kd}
 {t:Nat} {op:Op} {ty T T' E:TypeId} {pos:String} {af:Array Edge} {x y z:Operand} {v u:Value} {b b':Bool} {i j off:Nat} {a c:Int} {ad:Addr} {g:Option (Nat×Bool)} {dst:Option Nat}
theorem KO.MB(h:∀a,cX n D G a->Region.wanted ⟨dst,op,ty,pos,af,g⟩ (yielded ops a.tmps)=true)(hk:KO P ops d Q n D w0 G L ((k,⟨dst,op,ty,pos,af,none⟩)::l)):
 KO P ops d Q n D w0 G L ((k,⟨dst,op,ty,pos,af,g⟩)::l):=fun a w ha hw=>by
 have h1:=h a ha
 have h2:=hk a w ha hw
 have h0:Region.wanted ⟨dst,op,ty,pos,af,none⟩ (yielded ops a.tmps)=true:=rfl
 cases d with
 |true=>
  change jd _ _ _ _ _ _ at h2
  show jd _ _ _ _ _ _
  by_cases hl:k.oQ=true
  ·rw[ei hl h0]at h2;rw[ei hl h1];exact h2
  ·cases k with
   |dm=>rw[ic h0]at h2;rw[ic h1];exact h2
   |write=>rw[eJ h0]at h2;rw[eJ h1];exact h2
   |_=>exact absurd rfl hl
 |false=>
  simp only[JS,aL,wpList,h0,h1,if_true]at h2 ⊢
  exact h2
theorem uf{a:Act}(ha:cX n D G a)(hj:(ops[j]?).bind (·.dst)=some t)(hb:c_ G t=some (.bool b)):Region.wanted ⟨dst,op,ty,pos,af,some (j,b')⟩ (yielded ops a.tmps)=(b==b'):=by
 simp only[Region.wanted,yielded,hj,Option.bind_some,ha.get _ _ hb]
 cases b<;>cases b'<;>rfl
theorem KO.on(hj:(ops[j]?).bind (·.dst)=some t)(hb:c_ G t=some (.bool b))(he:b=b')(hk:KO P ops d Q n D w0 G L ((k,⟨dst,op,ty,pos,af,none⟩)::l)):
 KO P ops d Q n D w0 G L ((k,⟨dst,op,ty,pos,af,some (j,b')⟩)::l):=KO.MB (fun _ ha=>by rw[uf ha hj hb,he];simp) hk
theorem iO{a:Act}(ha:cX n D G a)(v:Value)(ht:Nat.blt t n=true):cX n D ((t,v)::G) (a.put (some t) v):=ha.put t v (by simpa[Nat.blt_eq]using ht)
theorem KO.no{s:Nat}(hj:(ops[j]?).bind (·.dst)=some s)(hb:c_ G s=some (.bool b))(he:b= !b')(ht:Nat.blt t n=true)(hk:KO P ops d Q n D w0 ((t,undef)::G) L l):
 KO P ops d Q n D w0 G L ((k,⟨some t,op,ty,pos,af,some (j,b')⟩)::l):=fun a w ha hw=>
 E3 (by rw[uf ha hj hb,he];cases b'<;>rfl) (hk _ w (iO ha undef ht) hw)
theorem C9{a:Act}(ha:cX n D G a)(hj:(ops[j]?).bind (·.dst)=some t)(hb:c_ G t=some undef):Region.wanted ⟨dst,op,ty,pos,af,some (j,b')⟩ (yielded ops a.tmps)=false:=by
 simp only[Region.wanted,yielded,hj,Option.bind_some,ha.get _ _ hb]
 cases b'<;>rfl
theorem KO.no2{s:Nat}(hj:(ops[j]?).bind (·.dst)=some s)(hb:c_ G s=some undef)(ht:Nat.blt t n=true)(hk:KO P ops d Q n D w0 ((t,undef)::G) L l):
 KO P ops d Q n D w0 G L ((k,⟨some t,op,ty,pos,af,some (j,b')⟩)::l):=fun a w ha hw=>
 E3 (C9 ha hj hb) (hk _ w (iO ha undef ht) hw)
theorem KO.val(hv:∀a w,cX n D G a->(execOp a.eval ⟨some t,op,ty,pos,af,none⟩).run P w=.ok (.value v) w)(ht:Nat.blt t n=true)(h:KO P ops d Q n D w0 ((t,v)::G) L l):
 KO P ops d Q n D w0 G L ((k,⟨some t,op,ty,pos,af,none⟩)::l):=fun a w ha hw=>RD rfl (fun w'=>hv a w' ha) (h _ w (iO ha v ht) hw)
theorem KO.rd(hk:(!d||k != .pure)=true)(hv:∀a w w',cX n D G a->St w0 L w->Ext w w'->(execOp a.eval ⟨some t,op,ty,pos,af,none⟩).run P w'=.ok (.value v) w')(ht:Nat.blt t n=true)(h:KO P ops d Q n D w0 ((t,v)::G) L l):
 KO P ops d Q n D w0 G L ((k,⟨some t,op,ty,pos,af,none⟩)::l):=fun a w ha hw=>Nx hk rfl (fun w' e=>hv a w w' ha hw e) (h _ w (iO ha v ht) hw)
def evF (G:Env) (x:Operand):Value:=(ev G x).getD undef
theorem KO.mv(hx:ev G x=some v)(ht:Nat.blt t n=true)(h:KO P ops d Q n D w0 ((t,v)::G) L l):KO P ops d Q n D w0 G L ((k,⟨some t,.move x,ty,pos,af,none⟩)::l):=
 KO.val (fun a w ha=>by simp[execOp,ha.eval hx]) ht h
theorem KO.as(hx:ev G x=some v)(ht:Nat.blt t n=true)(h:KO P ops d Q n D w0 ((t,v)::G) L l):KO P ops d Q n D w0 G L ((k,⟨some t,.assign x,ty,pos,af,none⟩)::l):=
 KO.val (fun a w ha=>by simp[execOp,ha.eval hx]) ht h
theorem KO.pick(hx:ev G x=some (.bool b))(hv:(if b then ev G y else ev G z)=some v)(ht:Nat.blt t n=true)(h:KO P ops d Q n D w0 ((t,v)::G) L l):KO P ops d Q n D w0 G L ((k,⟨some t,.pick x y z,ty,pos,af,none⟩)::l):=
 KO.val (fun a w ha=>by
  cases b with
  |true=>simp only[if_true]at hv;simp[execOp,ha.eval hx,ha.eval hv,asBool]
  |false=>simp only[Bool.false_eq_true,if_false]at hv;simp[execOp,ha.eval hx,ha.eval hv,asBool]) ht h
theorem KO.nc(hx:ev G x=some (.pointer (some ad)))(ht:Nat.blt t n=true)(h:KO P ops d Q n D w0 ((t,.pointer (some ad))::G) L l):KO P ops d Q n D w0 G L ((k,⟨some t,.nilCheck x,ty,pos,af,none⟩)::l):=
 KO.val (fun a w ha=>by simp[execOp,ha.eval hx]) ht h
theorem KO.agy{vs:Array Value}(hx:ev G x=some (.tuple vs))(hv:vs[i]? =some v)(ht:Nat.blt t n=true)(h:KO P ops d Q n D w0 ((t,v)::G) L l):KO P ops d Q n D w0 G L ((k,⟨some t,.extract x i,ty,pos,af,none⟩)::l):=
 KO.val (fun a w ha=>by simp[execOp,ha.eval hx,Instr.extract,hv]) ht h
theorem KO.Pz{vs:List Value}(hx:ev G x=some (.tuple vs.toArray))(hv:vs[i]? =some v)(ht:Nat.blt t n=true)(h:KO P ops d Q n D w0 ((t,v)::G) L l):KO P ops d Q n D w0 G L ((k,⟨some t,.extract x i,ty,pos,af,none⟩)::l):=
 KO.agy hx (by simpa using hv) ht h
theorem KO.mki(hx:ev G x=some v)(hc:P.concrete T=true)(ht:Nat.blt t n=true)(h:KO P ops d Q n D w0 ((t,.iface T v)::G) L l):KO P ops d Q n D w0 G L ((k,⟨some t,.makeInterface T x,ty,pos,af,none⟩)::l):=
 KO.val (fun a w ha=>by simp[execOp,ha.eval hx,run_makeInterface _ _ _ hc]) ht h
theorem KO.mkf{f:Fn}{xs ys:Array Operand}{us vs:Array Value}(h1:xs.toList.map (ev G)=us.toList.map some)(h2:ys.toList.map (ev G)=vs.toList.map some)(ht:Nat.blt t n=true)(h:KO P ops d Q n D w0 ((t,.func f us vs)::G) L l):
 KO P ops d Q n D w0 G L ((k,⟨some t,.makeFunc f xs ys,ty,pos,af,none⟩)::l):=
 KO.val (fun a w ha=>by
  have key:∀(xs:List Operand) (us:List Value),xs.map (ev G)=us.map some->xs.map a.eval=us:=by
   intro xs
   induction xs with
   |nil=>intro us h;cases us with|nil=>rfl|cons _ _=>simp at h
   |cons x xs ih=>intro us h;cases us with
    |nil=>simp at h
    |cons u us=>simp only[aL,List.cons.injEq]at h ⊢;exact⟨ha.eval h.1,ih us h.2⟩
  have e1:xs.map a.eval=us:=by apply Array.ext';simpa using key _ _ h1
  have e2:ys.map a.eval=vs:=by apply Array.ext';simpa using key _ _ h2
  simp[execOp,Instr.makeFunc,e1,e2]) ht h
theorem KO.fld{fs:Array Field}{f:Nat}{fd:Field}{sz:Nat}(hx:ev G x=some (.pointer (some ad)))(hu:∀w,(underlying T).run P w=.ok (.struct fs) w)(hf:fs[f]? =some fd)(hs:∀w,(Go.sizeOf fd.type).run P w=.ok (sz+1) w)(ht:Nat.blt t n=true)(h:KO P ops d Q n D w0 ((t,.pointer (some (ad.add fd.offset)))::G) L l):KO P ops d Q n D w0 G L ((k,⟨some t,.fieldAddr T x f,ty,pos,af,none⟩)::l):=
 KO.val (fun a w ha=>by simp[execOp,ha.eval hx,Instr.fieldAt,hu w,hf,Instr.sureAddr,fieldPlace,hs w]) ht h
theorem KO.idx{g:Nat}{o len cap sz:Nat}{kk:IntKind}(hx:ev G x=some (.slice (some ⟨g,o,none⟩) len cap))(hy:ev G y=some (.int kk a))(hu:∀w,(underlying T).run P w=.ok (.slice E) w)(hs:∀w,(Go.sizeOf E).run P w=.ok sz w)(ha:a=(i:Int))(hb:i<len)(ht:Nat.blt t n=true)(h:KO P ops d Q n D w0 ((t,.pointer (some ⟨g,o+i *sz,none⟩))::G) L l):KO P ops d Q n D w0 G L ((k,⟨some t,.indexAddr T x y,ty,pos,af,none⟩)::l):=
 KO.val (fun a' w su=>by
  subst ha
  have :(0:Int)<=(i:Int)/\(i:Int)<(len:Int):=⟨by omega,by omega⟩
  simp[execOp,su.eval hx,su.eval hy,Instr.indexAt,hu w,asIntOf,hs w,hb,Addr.add_lit]) ht h
theorem KO.kM{len sz:Nat}{kk:IntKind}(hx:ev G x=some (.pointer (some ad)))(hy:ev G y=some (.int kk a))(hu:∀w,(underlying T).run P w=.ok (.array len E) w)(hs:∀w,(Go.sizeOf E).run P w=.ok sz w)(ha:a=(i:Int))(hb:i<len)(ht:Nat.blt t n=true)(h:KO P ops d Q n D w0 ((t,.pointer (some (ad.add (i *sz))))::G) L l):KO P ops d Q n D w0 G L ((k,⟨some t,.indexAddr T x y,ty,pos,af,none⟩)::l):=
 KO.val (fun a' w su=>by
  subst ha
  simp[execOp,su.eval hx,su.eval hy,Instr.indexAt,hu w,asIntOf,hs w,hb,Instr.sureAddr]) ht h
theorem KO.ld{b:Nat}{cs:List Value}{fz:Nat×Nat}(hk:(!d||k != .pure)=true)(hx:ev G x=some (.pointer (some ⟨b,off,none⟩)))(hT:∀w,(isAgg T).run P w=.ok false w)(hp:bQ L (bP b (.cells cs.toArray E fz)) R)(hc:cs[off]? =some v)(ht:Nat.blt t n=true)(h:KO P ops d Q n D w0 ((t,v)::G) L l):KO P ops d Q n D w0 G L ((k,⟨some t,.load T x,ty,pos,af,none⟩)::l):=
 KO.rd hk (fun a w w' ha hw e=>by
  have iX:w.cell? ⟨b,off,none⟩=some v:=by rw[World.cell?,(hw.qh hp).2];simpa using hc
  simp[execOp,ha.eval hx,Instr.loadAt,Instr.sureAddr,gA (hT w') (e.cell iX)]) ht h
theorem KO.sE(hk:(!d||k != .pure)=true)(hx:ev G x=some (.pointer (some ad)))(hT:∀w,(isAgg T).run P w=.ok false w)(hc:w0.cell? ad=some v)(ht:Nat.blt t n=true)(h:KO P ops d Q n D w0 ((t,v)::G) L l):KO P ops d Q n D w0 G L ((k,⟨some t,.load T x,ty,pos,af,none⟩)::l):=
 KO.rd hk (fun a w w' ha hw e=>by
  simp[execOp,ha.eval hx,Instr.loadAt,Instr.sureAddr,gA (hT w') (e.cell ((Ext.ct hw.below).cell hc))]) ht h
theorem KO.ldS(hk:(!d||k != .pure)=true)(hx:ev G x=some (.pointer (some ad)))(hT:∀w,(isAgg T).run P w=.ok false w)(hc:∀w,St w0 L w->w.cell? ad=some v)(ht:Nat.blt t n=true)(h:KO P ops d Q n D w0 ((t,v)::G) L l):KO P ops d Q n D w0 G L ((k,⟨some t,.load T x,ty,pos,af,none⟩)::l):=
 KO.rd hk (fun a w w' ha hw e=>by
  simp[execOp,ha.eval hx,Instr.loadAt,Instr.sureAddr,gA (hT w') (e.cell (hc w hw))]) ht h
theorem KO.Wn{cs:Array Value}{sz:Nat}(hk:(!d||k != .pure)=true)(hx:ev G x=some (.pointer (some ad)))(hT:∀w,(isAgg T).run P w=.ok true w)(hn:∀w,(Go.sizeOf T).run P w=.ok sz w)(dK:cs.size=sz)(hc:∀w,St w0 L w->dr w ad cs.toList)(ht:Nat.blt t n=true)(h:KO P ops d Q n D w0 ((t,.agg cs)::G) L l):KO P ops d Q n D w0 G L ((k,⟨some t,.load T x,ty,pos,af,none⟩)::l):=
 KO.rd hk (fun a w w' ha hw e=>by
  have :=pJ (P:=P) (hT w') (by rw[hn w',<-dK];rfl) ((hc w hw).ext e)
  simp[execOp,ha.eval hx,Instr.loadAt,Instr.sureAddr,this]) ht h
theorem KO.Wp{b:Nat}{cs:List Value}{us:List Value}{fz:Nat×Nat}{sz:Nat}(hk:(!d||k != .pure)=true)(hx:ev G x=some (.pointer (some ⟨b,off,none⟩)))(hT:∀w,(isAgg T).run P w=.ok true w)(hn:∀w,(Go.sizeOf T).run P w=.ok sz w)(hp:bQ L (bP b (.cells cs.toArray E fz)) R)(hu:(cs.drop off).take sz=us)(dK:us.length=sz)(ht:Nat.blt t n=true)(h:KO P ops d Q n D w0 ((t,.agg us.toArray)::G) L l):KO P ops d Q n D w0 G L ((k,⟨some t,.load T x,ty,pos,af,none⟩)::l):=
 KO.Wn hk hx hT hn (by simpa using dK) (fun w hw j c hj=>by
  have Zk:=(hw.qh hp).2
  rw[show(us.toArray).toList=us from rfl,<-hu,List.getElem?_take]at hj
  split at hj
  ·rw[List.getElem?_drop]at hj
   rw[Addr.add_lit,World.cell?,Zk];simpa using hj
  ·simp at hj) ht h
theorem KO.pU(hk:(!d||(k== .dm||k== .write))=true){F:Nat->Value}{N:Nat->List HP}(hr:∀a w,cX n D G a->St w0 L w->∃bb w',(execOp a.eval ⟨some t,op,ty,pos,af,none⟩).run P w=.ok (.value (F bb)) w'/\Ext w w'/\St w0 (N bb) w')(ht:Nat.blt t n=true)(h:∀bb,KO P ops d Q n D w0 ((t,F bb)::G) (N bb) l):KO P ops d Q n D w0 G L ((k,⟨some t,op,ty,pos,af,none⟩)::l):=fun a w ha hw=>by
 obtain⟨bb,w',hr,he,hs⟩:=hr a w ha hw
 refine E4 hk rfl ?_
 unfold Oper.wp
 rw[hr]
 exact⟨he,h bb _ w' (iO ha _ ht) hs⟩
theorem KO.box(hk:(!d||(k== .dm||k== .write))=true){cs:List Value}(hx:ev G x=some v)(hc:v.cells=cs.toArray)(ht:Nat.blt t n=true)(h:∀bb,KO P ops d Q n D w0 ((t,.pointer (some ⟨bb,0,none⟩))::G) (bP bb (.cells cs.toArray E (0,0))::L) l):KO P ops d Q n D w0 G L ((k,⟨some t,.box E x,ty,pos,af,none⟩)::l):=
 KO.pU hk (F:=fun bb=>.pointer (some ⟨bb,0,none⟩)) (N:=fun bb=>bP bb (.cells cs.toArray E (0,0))::L) (fun a w ha hw=>⟨w.heap.size,w.alloc (.cells cs.toArray E),by simp[execOp,ha.eval hx,Instr.box,newVar,newRow,hc],Ext.alloc w _,hw.alloc _⟩) ht h
theorem KO.alloc(hk:(!d||(k== .dm||k== .write))=true){cs:List Value}(hz:∀w,(zeroValue E).run P w=.ok v w)(hc:v.cells=cs.toArray)(ht:Nat.blt t n=true)(h:∀bb,KO P ops d Q n D w0 ((t,.pointer (some ⟨bb,0,none⟩))::G) (bP bb (.cells cs.toArray E (0,0))::L) l):KO P ops d Q n D w0 G L ((k,⟨some t,.alloc E,ty,pos,af,none⟩)::l):=
 KO.pU hk (F:=fun bb=>.pointer (some ⟨bb,0,none⟩)) (N:=fun bb=>bP bb (.cells cs.toArray E (0,0))::L) (fun a w ha hw=>⟨w.heap.size,w.alloc (.cells cs.toArray E),by simp[execOp,Instr.alloc,newVar,newRow,hz w,hc],Ext.alloc w _,hw.alloc _⟩) ht h
theorem KO.EP(hk:(!d||k== .write)=true){N:List HP}(hr:∀a w,cX n D G a->St w0 L w->∃w',(execOp a.eval ⟨none,op,ty,pos,af,none⟩).run P w=.ok .skip w'/\St w0 N w')(h:KO P ops d Q n D w0 G N l):KO P ops d Q n D w0 G L ((k,⟨none,op,ty,pos,af,none⟩)::l):=fun a w ha hw=>by
 obtain⟨w',hr,hs⟩:=hr a w ha hw
 refine mD hk rfl ?_
 unfold Oper.wp
 rw[hr]
 exact h _ w' ha hs
theorem KO.st{b:Nat}{cs EG us:List Value}(hk:(!d||k== .write)=true)(hx:ev G x=some (.pointer (some ⟨b,off,none⟩)))(hy:ev G y=some v)(hv:v.cells=us.toArray)(hn:∀w,(Go.sizeOf T).run P w=.ok us.length w)(h1:∀u∈us,u.oneCell'=true)(hp:bQ L (bP b (.cells cs.toArray E (0,0))) R)(oV:off+us.length<=cs.length)(hc:cs.take off++us++cs.drop (off+us.length)=EG)(h:KO P ops d Q n D w0 G (bP b (.cells EG.toArray E (0,0))::R) l):
 KO P ops d Q n D w0 G L ((k,⟨none,.store T x y,ty,pos,af,none⟩)::l):=
 KO.EP hk (N:=bP b (.cells EG.toArray E (0,0))::R) (fun a w ha hw=>by
  have hb:=hw.pick hp
  have kt:=kW (P:=P) (T:=T) (off:=off) (v:=v) hb (by simpa[hv]using hn w) (by simpa[hv]using oV) (by simpa[hv]using h1)
  refine⟨_,?_,hb.setRow (c':=EG.toArray)⟩
  simp only[hv,hc]at kt
  simp[execOp,ha.eval hx,ha.eval hy,Instr.storeAt,Instr.sureAddr,kt]) h
end
theorem EO{r:Int}(h1: -9223372036854775808<=r)(h2:r<=9223372036854775807):IntKind.i64.wrap r=r:=by
 unfold IntKind.wrap
 simp only[IntKind.bits,IntKind.signed,Bool.true_and]
 simp only[show(2^64:Int)=18446744073709551616 from rfl,show(2^(64-1):Int)=9223372036854775808 from rfl]
 by_cases h:r%18446744073709551616>=9223372036854775808
 ·rw[if_pos HV];omega
 ·rw[if_neg HV];omega
theorem UE{r:Int}(h1:0<=r)(h2:r<=18446744073709551615):IntKind.u64.wrap r=r:=by
 unfold IntKind.wrap
 simp only[IntKind.bits,IntKind.signed,Bool.false_and]
 simp only[show(2^64:Int)=18446744073709551616 from rfl]
 rw[if_neg aj];omega
section
variable {P:Program} {ops:Array Oper} {d:Bool} {Q:Exit->Act->World->Prop} {n:Nat} {D:List Deferred} {w0:World} {G:Env} {L R:List HP} {l:List (Kd×Oper)} {k:Kd}
 {t:Nat} {op:Op} {ty T T' E:TypeId} {pos:String} {af:Array Edge} {x y z:Operand} {v u:Value} {b b' p q:Bool} {i j off:Nat} {a c r:Int} {ad:Addr} {kk:IntKind}
theorem KO.add(hx:ev G x=some (.int .i64 a))(hy:ev G y=some (.int .i64 c))(hr:a+c=r)(h1: -9223372036854775808<=r/\r<=9223372036854775807)(ht:Nat.blt t n=true)(h:KO P ops d Q n D w0 ((t,.int .i64 r)::G) L l):KO P ops d Q n D w0 G L ((k,⟨some t,.binOp .add T x y T',ty,pos,af,none⟩)::l):=
 KO.val (fun a w ha=>by simp[execOp,ha.eval hx,ha.eval hy,eqGuard_at_int,binOp_add,Op.intArith,hr,EO h1.1 h1.2]) ht h
theorem KO.sub(hx:ev G x=some (.int .i64 a))(hy:ev G y=some (.int .i64 c))(hr:a-c=r)(h1: -9223372036854775808<=r/\r<=9223372036854775807)(ht:Nat.blt t n=true)(h:KO P ops d Q n D w0 ((t,.int .i64 r)::G) L l):KO P ops d Q n D w0 G L ((k,⟨some t,.binOp .sub T x y T',ty,pos,af,none⟩)::l):=
 KO.val (fun a w ha=>by simp[execOp,ha.eval hx,ha.eval hy,eqGuard_at_int,binOp_sub,Op.intArith,hr,EO h1.1 h1.2]) ht h
theorem KO.mul(hx:ev G x=some (.int .i64 a))(hy:ev G y=some (.int .i64 c))(hr:a *c=r)(h1: -9223372036854775808<=r/\r<=9223372036854775807)(ht:Nat.blt t n=true)(h:KO P ops d Q n D w0 ((t,.int .i64 r)::G) L l):KO P ops d Q n D w0 G L ((k,⟨some t,.binOp .mul T x y T',ty,pos,af,none⟩)::l):=
 KO.val (fun a w ha=>by simp[execOp,ha.eval hx,ha.eval hy,eqGuard_at_int,binOp_mul,Op.intArith,hr,EO h1.1 h1.2]) ht h
theorem KO.lss(hx:ev G x=some (.int kk a))(hy:ev G y=some (.int kk c))(ht:Nat.blt t n=true)(h:KO P ops d Q n D w0 ((t,.bool (decide (a<c)))::G) L l):
 KO P ops d Q n D w0 G L ((k,⟨some t,.binOp .lss T x y T',ty,pos,af,none⟩)::l):=
 KO.val (fun a w ha=>by simp[execOp,ha.eval hx,ha.eval hy,eqGuard_at_int,binOp_lss]) ht h
theorem KO.leq(hx:ev G x=some (.int kk a))(hy:ev G y=some (.int kk c))(ht:Nat.blt t n=true)(h:KO P ops d Q n D w0 ((t,.bool (decide (a<=c)))::G) L l):
 KO P ops d Q n D w0 G L ((k,⟨some t,.binOp .leq T x y T',ty,pos,af,none⟩)::l):=
 KO.val (fun a w ha=>by simp[execOp,ha.eval hx,ha.eval hy,eqGuard_at_int,binOp_leq]) ht h
theorem KO.gtr(hx:ev G x=some (.int kk a))(hy:ev G y=some (.int kk c))(ht:Nat.blt t n=true)(h:KO P ops d Q n D w0 ((t,.bool (decide (c<a)))::G) L l):
 KO P ops d Q n D w0 G L ((k,⟨some t,.binOp .gtr T x y T',ty,pos,af,none⟩)::l):=
 KO.val (fun a w ha=>by simp[execOp,ha.eval hx,ha.eval hy,eqGuard_at_int,binOp_gtr]) ht h
theorem KO.geq(hx:ev G x=some (.int kk a))(hy:ev G y=some (.int kk c))(ht:Nat.blt t n=true)(h:KO P ops d Q n D w0 ((t,.bool (decide (c<=a)))::G) L l):
 KO P ops d Q n D w0 G L ((k,⟨some t,.binOp .geq T x y T',ty,pos,af,none⟩)::l):=
 KO.val (fun a w ha=>by simp[execOp,ha.eval hx,ha.eval hy,eqGuard_at_int,binOp_geq]) ht h
theorem KO.eqI(hx:ev G x=some (.int kk a))(hy:ev G y=some (.int kk c))(ht:Nat.blt t n=true)(h:KO P ops d Q n D w0 ((t,.bool (decide (a=c)))::G) L l):
 KO P ops d Q n D w0 G L ((k,⟨some t,.binOp .eql T x y T',ty,pos,af,none⟩)::l):=
 KO.val (fun a' w ha=>by simp[execOp,ha.eval hx,ha.eval hy,eqGuard_at_int,binOp_eql,show(a==c)=decide (a=c)from rfl]) ht h
theorem KO.neI(hx:ev G x=some (.int kk a))(hy:ev G y=some (.int kk c))(ht:Nat.blt t n=true)(h:KO P ops d Q n D w0 ((t,.bool (decide (a≠c)))::G) L l):
 KO P ops d Q n D w0 G L ((k,⟨some t,.binOp .neq T x y T',ty,pos,af,none⟩)::l):=
 KO.val (fun a' w ha=>by
  have e:(a !=c)=decide (a≠c):=by by_cases h:a=c<;>simp[h]
  simp only[execOp,ha.eval hx,ha.eval hy,eqGuard_at_int,binOp_neq,e,Sem.run_bind,Sem.run_pure,Result.andThen_ok]) ht h
theorem KO.not(hx:ev G x=some (.bool b))(ht:Nat.blt t n=true)(h:KO P ops d Q n D w0 ((t,.bool (!b))::G) L l):KO P ops d Q n D w0 G L ((k,⟨some t,.unOp .not T x,ty,pos,af,none⟩)::l):=
 KO.val (fun a' w ha=>by simp[execOp,ha.eval hx,unary_not]) ht h
theorem KO.neB(hx:ev G x=some (.bool p))(hy:ev G y=some (.bool q))(hT:P.underlying T=some .bool)(ht:Nat.blt t n=true)(h:KO P ops d Q n D w0 ((t,.bool (!(p==q)))::G) L l):
 KO P ops d Q n D w0 G L ((k,⟨some t,.binOp .neq T x y T',ty,pos,af,none⟩)::l):=
 KO.val (fun a' w ha=>by simp[execOp,ha.eval hx,ha.eval hy,eqGuard_at_bool,run_neq_bool w T p q hT]) ht h
variable {s s':ak}
theorem toList_eq_iff(s s':ak):(s.toList==s'.toList)=decide (s=s'):=by
 by_cases h:s=s'
 ·simp[h]
 ·have :s.toList≠s'.toList:=fun e=>h (by
   rw[ByteArray.toList_eq,ByteArray.toList_eq]at e
   exact ByteArray.ext (Array.ext' e))
  simp[h,this]
theorem KO.eqS(hx:ev G x=some (.string s))(hy:ev G y=some (.string s'))(ht:Nat.blt t n=true)(h:KO P ops d Q n D w0 ((t,.bool (decide (s=s')))::G) L l):
 KO P ops d Q n D w0 G L ((k,⟨some t,.binOp .eql T x y T',ty,pos,af,none⟩)::l):=
 KO.val (fun a' w ha=>by simp only[execOp,ha.eval hx,ha.eval hy,eqGuard_at_string,binOp_string_eql,toList_eq_iff,Sem.run_bind,Sem.run_pure,Result.andThen_ok]) ht h
theorem KO.neS(hx:ev G x=some (.string s))(hy:ev G y=some (.string s'))(ht:Nat.blt t n=true)(h:KO P ops d Q n D w0 ((t,.bool (!decide (s=s')))::G) L l):
 KO P ops d Q n D w0 G L ((k,⟨some t,.binOp .neq T x y T',ty,pos,af,none⟩)::l):=
 KO.val (fun a' w ha=>by simp only[execOp,ha.eval hx,ha.eval hy,eqGuard_at_string,binOp_string_neq,toList_eq_iff,Sem.run_bind,Sem.run_pure,Result.andThen_ok]) ht h
theorem KO.cat(hx:ev G x=some (.string s))(hy:ev G y=some (.string s'))(hs:s.size+s'.size<=9223372036854775807)(ht:Nat.blt t n=true)(h:KO P ops d Q n D w0 ((t,.string (s++s'))::G) L l):
 KO P ops d Q n D w0 G L ((k,⟨some t,.binOp .add T x y T',ty,pos,af,none⟩)::l):=
 KO.val (fun a' w ha=>by simp[execOp,ha.eval hx,ha.eval hy,eqGuard_at_string,binOp_string_add,run_string_add_sum w s s' hs]) ht h
theorem KO.SD(hx:ev G x=some (.string s))(hT:P.underlying T=some .string)(ht:Nat.blt t n=true)(h:KO P ops d Q n D w0 ((t,.int .i64 (s.size:Nat))::G) L l):
 KO P ops d Q n D w0 G L ((k,⟨some t,.call ⟨.builtin .len,#[x],#[T]⟩,ty,pos,af,none⟩)::l):=
 KO.val (fun a' w ha=>by simp[execOp,resolve,invoke,builtin,ha.eval hx,run_len_string _ _ _ _ hT,goInt]) ht h
theorem KO.len{bs:Option Addr}{len cap:Nat}(hx:ev G x=some (.slice bs len cap))(hT:P.underlying T=some (.slice E))(ht:Nat.blt t n=true)(h:KO P ops d Q n D w0 ((t,.int .i64 (len:Nat))::G) L l):
 KO P ops d Q n D w0 G L ((k,⟨some t,.call ⟨.builtin .len,#[x],#[T]⟩,ty,pos,af,none⟩)::l):=
 KO.val (fun a' w ha=>by simp[execOp,resolve,invoke,builtin,ha.eval hx,run_len_slice w T ty bs len cap (by rw[hT];simp[Program.elem,hT]),goInt]) ht h
theorem KO.eX{g:Nat}{len cap sz:Nat}(hx:ev G x=some (.slice (some ⟨g,0,none⟩) len cap))(hy:ev G y=some (.int kk a))(hu:∀w,(underlying T).run P w=.ok (.slice E) w)(hs:∀w,(Go.sizeOf E).run P w=.ok sz w)(ha:a=(i:Int))(hb:i<len)(ht:Nat.blt t n=true)(h:KO P ops d Q n D w0 ((t,.pointer (some ⟨g,i *sz,none⟩))::G) L l):KO P ops d Q n D w0 G L ((k,⟨some t,.indexAddr T x y,ty,pos,af,none⟩)::l):=
 KO.idx hx hy hu hs ha hb ht (by rw[Nat.zero_add];exact h)
theorem KO.fo{fs:Array Field}{f b o sz off:Nat}{fd:Field}(hx:ev G x=some (.pointer (some ⟨b,o,none⟩)))(hu:∀w,(underlying T).run P w=.ok (.struct fs) w)(hf:fs[f]? =some fd)(ho:fd.offset=off)(hs:∀w,(Go.sizeOf fd.type).run P w=.ok (sz+1) w)(ht:Nat.blt t n=true)(h:KO P ops d Q n D w0 ((t,.pointer (some ⟨b,o+off,none⟩))::G) L l):KO P ops d Q n D w0 G L ((k,⟨some t,.fieldAddr T x f,ty,pos,af,none⟩)::l):=
 KO.fld hx hu hf hs ht (by rw[Addr.add_lit,ho];exact h)
theorem KO.gd{fs:Array Field}{f b sz off:Nat}{fd:Field}(hx:ev G x=some (.pointer (some ⟨b,0,none⟩)))(hu:∀w,(underlying T).run P w=.ok (.struct fs) w)(hf:fs[f]? =some fd)(ho:fd.offset=off)(hs:∀w,(Go.sizeOf fd.type).run P w=.ok (sz+1) w)(ht:Nat.blt t n=true)(h:KO P ops d Q n D w0 ((t,.pointer (some ⟨b,off,none⟩))::G) L l):KO P ops d Q n D w0 G L ((k,⟨some t,.fieldAddr T x f,ty,pos,af,none⟩)::l):=
 KO.fo hx hu hf ho hs ht (by rw[Nat.zero_add];exact h)
theorem MR{a:Act}(ha:cX n D G a){xs:Array Operand}{vs:List Value}(h:xs.toList.map (ev G)=vs.map some):xs.map a.eval=vs.toArray:=by
 have key:∀(xs:List Operand) (us:List Value),xs.map (ev G)=us.map some->xs.map a.eval=us:=by
  intro xs
  induction xs with
  |nil=>intro us h;cases us with|nil=>rfl|cons _ _=>simp at h
  |cons x xs ih=>intro us h;cases us with
   |nil=>simp at h
   |cons u us=>simp only[aL,List.cons.injEq]at h ⊢;exact⟨ha.eval h.1,ih us h.2⟩
 apply Array.ext';simpa using key _ _ h
theorem zC{a:Act}(ha:cX n D G a){f:FuncId}{xs:Array Operand}{ts:Array TypeId}{vs:List Value}{fi cp:Array Value}{dst:Option Nat}(hf:ev G x=some (.func (.func f) fi cp))(tP:xs.toList.map (ev G)=vs.map some){ar:Array Value}(DS:fi++vs.toArray++cp=ar)(gZ:∀args w,(callFunc f args).run P w=.ok (.enter f args) w)(w:World):(execOp a.eval ⟨dst,.call ⟨.value x,xs,ts⟩,ty,pos,af,none⟩).run P w=.ok (.enter f ar) w:=by
 have e:=MR ha tP
 simp only[execOp,resolve,ha.eval hf,Deferred.ofValue,e,invoke,Sem.run_bind,Sem.run_pure,Result.andThen_ok,gZ,DS]
theorem KO.call{f:FuncId}{xs:Array Operand}{ts:Array TypeId}{vs:List Value}{fi cp ar:Array Value}{Rr:Value->List HP->Prop}(hk:(!d||k== .write)=true)(hf:ev G x=some (.func (.func f) fi cp))(tP:xs.toList.map (ev G)=vs.map some)(DS:fi++vs.toArray++cp=ar)(gZ:∀args w,(callFunc f args).run P w=.ok (.enter f args) w)(ht:Nat.blt t n=true)(hc:KC P f ar w0 L Rr)(h:∀v L',Rr v L'->KO P ops d Q n D w0 ((t,v)::G) L' l):
 KO P ops d Q n D w0 G L ((k,⟨some t,.call ⟨.value x,xs,ts⟩,ty,pos,af,none⟩)::l):=fun a w ha hw=>by
 refine mD hk rfl ?_
 unfold Oper.wp
 rw[zC ha hf tP DS gZ]
 refine(hc w hw).mono ?_
 rintro e w' ⟨v,L',rfl,hr,hs⟩
 exact h v L' hr _ w' (iO ha v ht) hs
theorem KO.aca{f:FuncId}{xs:Array Operand}{ts:Array TypeId}{vs:List Value}{fi cp ar:Array Value}{Rr:Value->List HP->Prop}(hk:(!d||(k== .dm||k== .write))=true)(hf:ev G x=some (.func (.func f) fi cp))(tP:xs.toList.map (ev G)=vs.map some)(DS:fi++vs.toArray++cp=ar)(gZ:∀args w,(callFunc f args).run P w=.ok (.enter f args) w)(ht:Nat.blt t n=true)(hc:KE P f ar w0 L Rr)(h:∀v L',Rr v L'->KO P ops d Q n D w0 ((t,v)::G) L' l):
 KO P ops d Q n D w0 G L ((k,⟨some t,.call ⟨.value x,xs,ts⟩,ty,pos,af,none⟩)::l):=fun a w ha hw=>by
 refine E4 hk rfl ?_
 unfold Oper.wp
 rw[zC ha hf tP DS gZ]
 refine(hc w hw).mono ?_
 rintro e w' ⟨v,L',rfl,hr,hs,hb⟩
 exact⟨Ext.ct hb,h v L' hr _ w' (iO ha v ht) hs⟩
end
section
variable {P:Program} {f:FuncId} {args:Array Value} {w0:World} {L:List HP}
theorem KE.ct{v:Value}(h:∀w,St w0 L w->Calls P f args w fun e w'=>e=.returned v/\Below w.heap.size w w'):KE P f args w0 L (fun u L'=>u=v/\L'=L):=fun w hw=>
 (h w hw).mono fun _ _ ⟨he,hb⟩=>⟨v,L,he,⟨rfl,rfl⟩,hw.aE hb,hb⟩
end
def Jc (G:Env):List Operand->Option (List Value)
 |[]=>some []
 |x::r=>match ev G x,Jc G r with|some v,some vs=>some (v::vs)|_,_=>none
theorem p8{G:Env}:∀{xs:List Operand} {vs:List Value},Jc G xs=some vs->xs.map (ev G)=vs.map some
 |[],vs,h=>by simp only[Jc,az]at h;subst h;rfl
 |x::xs,vs,h=>by
  unfold Jc at h
  cases h1:ev G x with
  |none=>rw[h1]at h;simp at h
  |some v=>
   cases h2:Jc G xs with
   |none=>rw[h1,h2]at h;simp at h
   |some us=>
    rw[h1,h2]at h
    simp only[az]at h
    subst h
    simp[h1,p8 h2]
def l9:Nat->List Value->List Value->List Value
 |0,us,cs=>us++cs.drop us.length
 |i+1,us,c::cs=>c::l9 i us cs
 |_+1,_,[]=>[]
theorem rP:∀(i:Nat) (us cs:List Value),i+us.length<=cs.length->cs.take i++us++cs.drop (i+us.length)=l9 i us cs
 |0,us,cs,_=>by simp[l9]
 |i+1,us,c::cs,h=>by
  have :=rP i us cs (by simp at h;omega)
  simp only[l9,List.take_succ_cons,bF,show i+1+us.length=(i+us.length)+1 by omega,List.drop_succ_cons,<-this]
 |i+1,us,[],h=>by simp at h
def agB:Value->List Value:=fun v=>v.cells.toList
section
variable {P:Program} {ops:Array Oper} {d:Bool} {Q:Exit->Act->World->Prop} {n:Nat} {D:List Deferred} {w0:World} {G:Env} {L R:List HP} {l:List (Kd×Oper)} {k:Kd}
 {t:Nat} {op:Op} {ty T T' E:TypeId} {pos:String} {af:Array Edge} {x y z:Operand} {v u:Value} {b b' p q:Bool} {i j off:Nat} {a c r:Int} {ad:Addr} {kk:IntKind}
theorem KO.JV{b:Nat}{cs EG us:List Value}(hk:(!d||k== .write)=true)(hx:ev G x=some (.pointer (some ⟨b,off,none⟩)))(hy:ev G y=some v)(hv:v.cells=us.toArray)(hn:∀w,(Go.sizeOf T).run P w=.ok us.length w)(h1:us.all Value.oneCell'=true)(hp:bQ L (bP b (.cells cs.toArray E (0,0))) R)(oV:Nat.ble (off+us.length) cs.length=true)(hc:l9 off us cs=EG)(h:KO P ops d Q n D w0 G (bP b (.cells EG.toArray E (0,0))::R) l):
 KO P ops d Q n D w0 G L ((k,⟨none,.store T x y,ty,pos,af,none⟩)::l):=
 have hf:off+us.length<=cs.length:=by simpa[Nat.ble_eq]using oV
 KO.st hk hx hy hv hn (fun u hu=>aJ.1 h1 u hu) hp hf ((rP _ _ _ hf).trans hc) h
theorem KO.uD(hx:ev G x=some (.bool b))(hb:b=true)(hv:ev G y=some v)(ht:Nat.blt t n=true)(h:KO P ops d Q n D w0 ((t,v)::G) L l):KO P ops d Q n D w0 G L ((k,⟨some t,.pick x y z,ty,pos,af,none⟩)::l):=
 KO.pick hx (by rw[hb];exact hv) ht h
theorem KO.nd(hx:ev G x=some (.bool b))(hb:b=false)(hv:ev G z=some v)(ht:Nat.blt t n=true)(h:KO P ops d Q n D w0 ((t,v)::G) L l):KO P ops d Q n D w0 G L ((k,⟨some t,.pick x y z,ty,pos,af,none⟩)::l):=
 KO.pick hx (by rw[hb];exact hv) ht h
theorem KO.Zc{f:Fn}{xs ys:Array Operand}{us vs:List Value}(h1:Jc G xs.toList=some us)(h2:Jc G ys.toList=some vs)(ht:Nat.blt t n=true)(h:KO P ops d Q n D w0 ((t,.func f us.toArray vs.toArray)::G) L l):
 KO P ops d Q n D w0 G L ((k,⟨some t,.makeFunc f xs ys,ty,pos,af,none⟩)::l):=KO.mkf (us:=us.toArray) (vs:=vs.toArray) (by simpa using p8 h1) (by simpa using p8 h2) ht h
theorem KO.cl{f:FuncId}{xs:Array Operand}{ts:Array TypeId}{vs:List Value}{fi cp:List Value}{Rr:Value->List HP->Prop}(hk:(!d||k== .write)=true)(hf:ev G x=some (.func (.func f) fi.toArray cp.toArray))(tP:Jc G xs.toList=some vs)(gZ:∀args w,(callFunc f args).run P w=.ok (.enter f args) w)(ht:Nat.blt t n=true)(hc:KC P f (fi++(vs++cp)).toArray w0 L Rr)(h:∀v L',Rr v L'->KO P ops d Q n D w0 ((t,v)::G) L' l):
 KO P ops d Q n D w0 G L ((k,⟨some t,.call ⟨.value x,xs,ts⟩,ty,pos,af,none⟩)::l):=KO.call hk hf (p8 tP) aj gZ ht hc h
theorem KO.ce{f:FuncId}{xs:Array Operand}{ts:Array TypeId}{vs:List Value}{fi cp:List Value}{Rr:Value->List HP->Prop}(hk:(!d||(k== .dm||k== .write))=true)(hf:ev G x=some (.func (.func f) fi.toArray cp.toArray))(tP:Jc G xs.toList=some vs)(gZ:∀args w,(callFunc f args).run P w=.ok (.enter f args) w)(ht:Nat.blt t n=true)(hc:KE P f (fi++(vs++cp)).toArray w0 L Rr)(h:∀v L',Rr v L'->KO P ops d Q n D w0 ((t,v)::G) L' l):
 KO P ops d Q n D w0 G L ((k,⟨some t,.call ⟨.value x,xs,ts⟩,ty,pos,af,none⟩)::l):=KO.aca hk hf (p8 tP) aj gZ ht hc h
theorem KO.i2u(hx:ev G x=some (.int .i64 a))(hs:(P.underlying T).isSome=true)(hd:P.underlying T'=some (.int .u64))(h0:0<=a/\a<=18446744073709551615)(ht:Nat.blt t n=true)(h:KO P ops d Q n D w0 ((t,.int .u64 a)::G) L l):
 KO P ops d Q n D w0 G L ((k,⟨some t,.convert T T' x,ty,pos,af,none⟩)::l):=
 KO.val (fun a' w ha=>by
  have :=run_convert_int (P:=P) w T T' .i64 a hs Y30
  simp[Program.intKind,hd,UE h0.1 h0.2]at this
  simp[execOp,ha.eval hx,this]) ht h
theorem KO.u2i(hx:ev G x=some (.int .u64 a))(hs:(P.underlying T).isSome=true)(hd:P.underlying T'=some (.int .i64))(h0:0<=a/\a<=9223372036854775807)(ht:Nat.blt t n=true)(h:KO P ops d Q n D w0 ((t,.int .i64 a)::G) L l):
 KO P ops d Q n D w0 G L ((k,⟨some t,.convert T T' x,ty,pos,af,none⟩)::l):=
 KO.val (fun a' w ha=>by
  have :=run_convert_int (P:=P) w T T' .u64 a hs Y30
  simp[Program.intKind,hd,EO (by omega : -9223372036854775808<=a) h0.2]at this
  simp[execOp,ha.eval hx,this]) ht h
theorem KO.aek{yk:IntKind}(hx:ev G x=some (.int .u64 a))(hy:ev G y=some (.int yk 1))(hr:a/2=r)(ht:Nat.blt t n=true)(h:KO P ops d Q n D w0 ((t,.int .u64 r)::G) L l):
 KO P ops d Q n D w0 G L ((k,⟨some t,.binOp .shr T x y T',ty,pos,af,none⟩)::l):=
 KO.val (fun a' w ha=>by simp[execOp,ha.eval hx,ha.eval hy,eqGuard_at_int,binOp_shr,shift_shr_u64,<-hr]) ht h
theorem KO.max2{ts:Array TypeId}(hx:ev G x=some (.int .i64 a))(hy:ev G y=some (.int .i64 c))(hr:max a c=r)(ht:Nat.blt t n=true)(h:KO P ops d Q n D w0 ((t,.int .i64 r)::G) L l):
 KO P ops d Q n D w0 G L ((k,⟨some t,.call ⟨.builtin .max,#[x,y],ts⟩,ty,pos,af,none⟩)::l):=
 KO.val (fun a' w ha=>by
  subst hr
  simp[execOp,resolve,invoke,builtin,ha.eval hx,ha.eval hy,Builtin.max_,Builtin.max2]
  rw[Int.max_def];split<;>split<;>first|rfl|omega) ht h
def SL {α:Type} (E:TypeId) (sz:Nat) (cf:α->List Value) (v:Value) (xs:List α):HP:=lu E sz v xs.length (xs.flatMap cf)
variable {α:Type} {cf:α->List Value} {sz:Nat} {xs:List α} {e e':α}
theorem pb{w:World}{g len cap:Nat}(dK:∀e,(cf e).length=sz)(hw:St w0 (SL E sz cf (.slice (some ⟨g,0,none⟩) len cap) xs::R) w)(he:xs[i]? =some e):∀j,j<sz->w.cell? ⟨g,i *sz+j,none⟩=(cf e)[j]? :=fun j hj=>by
 have hi:=(au.1 he).1
 have hlen:len=xs.length:=by
  rcases hw.cU with⟨h,_⟩|⟨_,_,_,h,_⟩
  ·simp at h
  ·simp at h;exact h.2.1
 have dS:i *sz+j<xs.length *sz:=by
  have :(i+1)*sz<=xs.length *sz:=Nat.mul_le_mul_right _ hi
  rw[Nat.succ_mul]at this;omega
 subst hlen
 rw[hw.zQ.cellAt _ dS,flat_get cf sz dK e xs i j hi hj]
 simp[aq,he]
theorem KO.ldE{g len cap:Nat}(hk:(!d||k != .pure)=true)(hx:ev G x=some (.pointer (some ⟨g,i *sz+j,none⟩)))(hT:∀w,(isAgg T).run P w=.ok false w)(hp:bQ L (SL E sz cf (.slice (some ⟨g,0,none⟩) len cap) xs) R)(dK:∀e,(cf e).length=sz)(he:xs[i]? =some e)(hj:Nat.blt j sz=true)(hv:(cf e)[j]? =some v)(ht:Nat.blt t n=true)(h:KO P ops d Q n D w0 ((t,v)::G) L l):KO P ops d Q n D w0 G L ((k,⟨some t,.load T x,ty,pos,af,none⟩)::l):=
 KO.ldS hk hx hT (fun w hw=>by rw[pb dK (hw.pick hp) he j (by simpa[Nat.blt_eq]using hj),hv]) ht h
theorem KO.wC{g len cap:Nat}(hk:(!d||k != .pure)=true)(hx:ev G x=some (.pointer (some ⟨g,i *sz,none⟩)))(hT:∀w,(isAgg T).run P w=.ok true w)(hn:∀w,(Go.sizeOf T).run P w=.ok sz w)(hp:bQ L (SL E sz cf (.slice (some ⟨g,0,none⟩) len cap) xs) R)(dK:∀e,(cf e).length=sz)(he:xs[i]? =some e)(ht:Nat.blt t n=true)(h:KO P ops d Q n D w0 ((t,.agg (cf e).toArray)::G) L l):KO P ops d Q n D w0 G L ((k,⟨some t,.load T x,ty,pos,af,none⟩)::l):=
 KO.Wn hk hx hT hn (by simpa using dK e) (fun w hw j c hj=>by
  have Gp:j<sz:=by rw[<-dK e];exact(au.1 hj).1
  rw[Addr.add_lit,pb dK (hw.pick hp) he j Gp];exact hj) ht h
theorem KO.aao{g len cap m:Nat}{us:List Value}(hk:(!d||k != .pure)=true)(hx:ev G x=some (.pointer (some ⟨g,i *sz+j,none⟩)))(hT:∀w,(isAgg T).run P w=.ok true w)(hn:∀w,(Go.sizeOf T).run P w=.ok m w)(hp:bQ L (SL E sz cf (.slice (some ⟨g,0,none⟩) len cap) xs) R)(dK:∀e,(cf e).length=sz)(he:xs[i]? =some e)(hu:((cf e).drop j).take m=us)(hm:us.length=m)(ht:Nat.blt t n=true)(h:KO P ops d Q n D w0 ((t,.agg us.toArray)::G) L l):KO P ops d Q n D w0 G L ((k,⟨some t,.load T x,ty,pos,af,none⟩)::l):=
 KO.Wn hk hx hT hn (by simpa using hm) (fun w hw q c hj=>by
  rw[show(us.toArray).toList=us from rfl,<-hu,List.getElem?_take]at hj
  split at hj
  ·rw[List.getElem?_drop]at hj
   have Gp:j+q<sz:=by rw[<-dK e];exact(au.1 hj).1
   rw[Addr.add_lit,Nat.add_assoc,pb dK (hw.pick hp) he (j+q) Gp];exact hj
  ·simp at hj) ht h
end
section
variable {w0 w:World} {L:List HP} {E:TypeId} {α:Type} {cf:α->List Value} {sz:Nat} {xs:List α} {v:Value}
theorem Be(h:St w0 (SL E sz cf v xs::L) w):(v=.slice none 0 0/\xs=[])\/∃g cap,v=.slice (some ⟨g,0,none⟩) xs.length cap:=by
 rcases h.cU with⟨h1,h2,_⟩|⟨g,cap,_,h1,_⟩
 ·exact .inl ⟨h1,List.eq_nil_of_length_eq_zero h2⟩
 ·exact .inr ⟨g,cap,h1⟩
theorem sd(h:St w0 (SL E sz cf v xs::L) w){i:Nat}(hi:i<xs.length):∃g cap,v=.slice (some ⟨g,0,none⟩) xs.length cap:=by
 rcases Be h with⟨_,h1⟩|h1
 ·rw[h1]at hi;simp at hi
 ·exact h1
theorem aY(h:St w0 (SL E sz cf v xs::L) w):∃a cap,v=.slice a xs.length cap/\(0<xs.length->∃g,a=some ⟨g,0,none⟩):=by
 rcases Be h with⟨h0,h1⟩|⟨g,cap,h1⟩
 ·exact⟨none,0,by rw[h0,h1];rfl,fun h=>by rw[h1]at h;simp at h⟩
 ·exact⟨_,cap,h1,fun _=>⟨g,rfl⟩⟩
end
section
variable {P:Program} {ops:Array Oper} {d:Bool} {Q:Exit->Act->World->Prop} {n:Nat} {D:List Deferred} {w0:World} {G:Env} {L R:List HP} {l:List (Kd×Oper)} {k:Kd}
 {t:Nat} {ty T E:TypeId} {pos:String} {af:Array Edge} {x:Operand} {v:Value} {i j:Nat} {α:Type} {cf:α->List Value} {sz:Nat} {xs:List α} {e:α}
theorem KO.uS{b:Nat}{cs:List Value}{fz:Nat×Nat}(hk:(!d||k != .pure)=true)(hx:ev G x=some (.pointer (some ⟨b,0,none⟩)))(hT:∀w,(isAgg T).run P w=.ok true w)(hn:∀w,(Go.sizeOf T).run P w=.ok sz w)(hp:bQ L (bP b (.cells cs.toArray E fz)) R)(dK:cs.length=sz)(ht:Nat.blt t n=true)(h:KO P ops d Q n D w0 ((t,.agg cs.toArray)::G) L l):KO P ops d Q n D w0 G L ((k,⟨some t,.load T x,ty,pos,af,none⟩)::l):=
 KO.Wp hk hx hT hn hp (us:=cs) (by rw[List.drop_zero,List.take_of_length_le ae]) dK ht h
theorem KO.iw{g len cap:Nat}(hk:(!d||k != .pure)=true)(hx:ev G x=some (.pointer (some ⟨g,i *sz,none⟩)))(hT:∀w,(isAgg T).run P w=.ok false w)(hp:bQ L (SL E sz cf (.slice (some ⟨g,0,none⟩) len cap) xs) R)(dK:∀e,(cf e).length=sz)(he:xs[i]? =some e)(hj:Nat.blt 0 sz=true)(hv:(cf e)[0]? =some v)(ht:Nat.blt t n=true)(h:KO P ops d Q n D w0 ((t,v)::G) L l):KO P ops d Q n D w0 G L ((k,⟨some t,.load T x,ty,pos,af,none⟩)::l):=
 KO.ldE (j:=0) hk (by rw[Nat.add_zero];exact hx) hT hp dK he hj hv ht h
end
section
variable {P:Program} {ops:Array Oper} {d:Bool} {Q:Exit->Act->World->Prop} {n:Nat} {D:List Deferred} {w0 wX:World} {G:Env} {L LX R:List HP} {l:List (Kd×Oper)} {k:Kd}
 {t:Nat} {ty T E:TypeId} {pos:String} {af:Array Edge} {x:Operand} {v:Value} {i j off:Nat} {α:Type} {cf:α->List Value} {sz:Nat} {xs:List α} {e:α}
theorem KO.ldb(hw:St wX LX w0){b:Nat}{cs:List Value}{fz:Nat×Nat}(hk:(!d||k != .pure)=true)(hx:ev G x=some (.pointer (some ⟨b,off,none⟩)))(hT:∀w,(isAgg T).run P w=.ok false w)(hp:bQ LX (bP b (.cells cs.toArray E fz)) R)(hc:cs[off]? =some v)(ht:Nat.blt t n=true)(h:KO P ops d Q n D w0 ((t,v)::G) L l):KO P ops d Q n D w0 G L ((k,⟨some t,.load T x,ty,pos,af,none⟩)::l):=
 KO.sE hk hx hT (by rw[World.cell?,(hw.qh hp).2];simpa using hc) ht h
theorem KO.L3{cs:Array Value}(hk:(!d||k != .pure)=true){ad:Addr}(hx:ev G x=some (.pointer (some ad)))(hT:∀w,(isAgg T).run P w=.ok true w)(hn:∀w,(Go.sizeOf T).run P w=.ok sz w)(dK:cs.size=sz)(hc:dr w0 ad cs.toList)(ht:Nat.blt t n=true)(h:KO P ops d Q n D w0 ((t,.agg cs)::G) L l):KO P ops d Q n D w0 G L ((k,⟨some t,.load T x,ty,pos,af,none⟩)::l):=
 KO.Wn hk hx hT hn dK (fun _ hs=>hc.ext (Ext.ct hs.below)) ht h
theorem KO.aeG(hw:St wX LX w0){g len cap:Nat}(hk:(!d||k != .pure)=true)(hx:ev G x=some (.pointer (some ⟨g,i *sz+j,none⟩)))(hT:∀w,(isAgg T).run P w=.ok false w)(hp:bQ LX (SL E sz cf (.slice (some ⟨g,0,none⟩) len cap) xs) R)(dK:∀e,(cf e).length=sz)(he:xs[i]? =some e)(hj:Nat.blt j sz=true)(hv:(cf e)[j]? =some v)(ht:Nat.blt t n=true)(h:KO P ops d Q n D w0 ((t,v)::G) L l):KO P ops d Q n D w0 G L ((k,⟨some t,.load T x,ty,pos,af,none⟩)::l):=
 KO.sE hk hx hT (by rw[pb dK (hw.pick hp) he j (by simpa[Nat.blt_eq]using hj),hv]) ht h
theorem KO.aap(hw:St wX LX w0){g len cap:Nat}(hk:(!d||k != .pure)=true)(hx:ev G x=some (.pointer (some ⟨g,i *sz,none⟩)))(hT:∀w,(isAgg T).run P w=.ok false w)(hp:bQ LX (SL E sz cf (.slice (some ⟨g,0,none⟩) len cap) xs) R)(dK:∀e,(cf e).length=sz)(he:xs[i]? =some e)(hj:Nat.blt 0 sz=true)(hv:(cf e)[0]? =some v)(ht:Nat.blt t n=true)(h:KO P ops d Q n D w0 ((t,v)::G) L l):KO P ops d Q n D w0 G L ((k,⟨some t,.load T x,ty,pos,af,none⟩)::l):=
 KO.aeG hw (j:=0) hk (by rw[Nat.add_zero];exact hx) hT hp dK he hj hv ht h
end
section
variable {P:Program} {f:FuncId} {args:Array Value} {w0 w:World} {L L':List HP} {v:Value}
theorem KE.qX(h:KE P f args w0 L (fun u M=>u=v/\M=L))(hw:St w0 L w):KE P f args w L' (fun u M=>u=v/\M=L'):=fun w' hw'=>
 (h w' (hw.aE hw'.below)).mono fun _ _ ⟨u,_,he,⟨hu,_⟩,_,hb⟩=>⟨u,L',he,⟨hu,rfl⟩,hw'.aE hb,hb⟩
theorem KE.only(h:KE P f args w0 L (fun u M=>u=v/\M=L))(hs:∀w,St w0 L' w->St w0 L w):KE P f args w0 L' (fun u M=>u=v/\M=L'):=fun w' hw'=>
 (h w' (hs w' hw')).mono fun _ _ ⟨u,_,he,⟨hu,_⟩,_,hb⟩=>⟨u,L',he,⟨hu,rfl⟩,hw'.aE hb,hb⟩
end
def qC {α:Type} (p:α->Bool) (l:List α):Int:=match l.findIdx? p with|some k=>(k:Int)|none=> -1
theorem Ax{α:Type}{p:α->Bool}{l:List α}{k:Nat}{e:α}(hk:l[k]? =some e)(hp:p e=true)(hn:∀j u,j<k->l[j]? =some u->p u=false):qC p l=k:=by
 have :l.findIdx? p=some k:=by
  rw[List.findIdx?_eq_some_iff_getElem]
  obtain⟨dS,he⟩:=au.1 hk
  exact⟨dS,by rw[he];exact hp,fun j hj=>by
   have :=hn j l[j] hj (ao _)
   simp[this]⟩
 rw[qC,this]
theorem wU{α:Type}{p:α->Bool}{l:List α}(hn:∀(j:Nat) (u:α),l[j]? =some u->p u=false):qC p l= -1:=by
 have :l.findIdx? p=none:=by
  rw[List.findIdx?_eq_none_iff]
  intro x hx
  obtain⟨j,hj,rfl⟩:=List.getElem_of_mem hx
  exact hn j _ (ao hj)
 rw[qC,this]
theorem oc{α:Type}{p:α->Bool}{l:List α}(h:0<=qC p l):∃(k:Nat) (e:α),qC p l=(k:Int)/\l[k]? =some e/\p e=true/\k<l.length/\l.findIdx? p=some k:=by
 unfold qC at h ⊢
 cases hf:l.findIdx? p with
 |none=>rw[hf]at h;simp at h
 |some k=>
  obtain⟨dS,hp,_⟩:=List.findIdx?_eq_some_iff_getElem.1 hf
  exact⟨k,l[k],rfl,ao dS,hp,dS,rfl⟩
theorem u9{α:Type}{p:α->Bool}{l:List α}(h:qC p l<0):l.findIdx? p=none:=by
 unfold qC at h
 cases hf:l.findIdx? p with
 |none=>rfl
 |some k=>rw[hf]at h;simp only at h;omega
theorem Ay{α:Type}(p:α->Bool)(l:List α):decide (0<=qC p l)=l.any p:=by
 cases hf:l.findIdx? p with
 |none=>
  have h1:l.any p=false:=by
   rw[List.any_eq_false];intro x hx
   have :=List.findIdx?_eq_none_iff.1 hf x hx
   simp[this]
  simp[qC,hf,h1]
 |some k=>
  obtain⟨dS,hp,_⟩:=List.findIdx?_eq_some_iff_getElem.1 hf
  have h1:l.any p=true:=List.any_eq_true.2 ⟨l[k],List.getElem_mem dS,hp⟩
  simp[qC,hf,h1]
open Go
theorem KC.pre{P:Program}{f:FuncId}{args:Array Value}{w0:World}{L:List HP}{R:Value->List HP->Prop}{p:Prop}(hs:∀w,St w0 L w->p)(h:p->KC P f args w0 L R):KC P f args w0 L R:=fun w hw=>h (hs w hw) w hw
theorem KC.perm{P:Program}{f:FuncId}{args:Array Value}{w0:World}{L L':List HP}{R:Value->List HP->Prop}(hs:∀w,St w0 L w->St w0 L' w)(h:KC P f args w0 L' R):KC P f args w0 L R:=fun w hw=>h w (hs w hw)
theorem KE.perm{P:Program}{f:FuncId}{args:Array Value}{w0:World}{L L':List HP}{R:Value->List HP->Prop}(hs:∀w,St w0 L w->St w0 L' w)(h:KE P f args w0 L' R):KE P f args w0 L R:=fun w hw=>h w (hs w hw)
theorem jM{α:Type}{p:α->Bool}:∀{l:List α} {k:Nat},l.findIdx? p=some k->(l.take (k+1)).filter (fun e=> !p e)=l.take k
 |[],k,h=>by simp at h
 |a::l,k,h=>by
  rw[List.findIdx?_cons]at h
  by_cases ha:p a=true
  ·rw[if_pos ha]at h
   simp only[az]at h;subst h
   simp[ha]
  ·rw[if_neg ha]at h
   cases hf:l.findIdx? p with
   |none=>rw[hf]at h;simp at h
   |some j=>
    rw[hf]at h
    simp only[Option.map_some,az]at h
    subst h
    simp[ha,jM hf]
theorem bJ{α:Type}{l:List α}{k:Nat}{e:α}(h:l[k]? =some e):l.take (k+1)=l.take k++[e]:=by
 rw[List.take_add_one,h];rfl
def Eu {α:Type} (w:World) (sz:Nat) (cf:α->List Value) (v:Value) (xs:List α):Prop:=
 ∃a cap,v=.slice a xs.length cap/\(0<xs.length->∃g,a=some ⟨g,0,none⟩)/\∀g,a=some ⟨g,0,none⟩->∀(i:Nat) (e:α),xs[i]? =some e->dr w ⟨g,i *sz,none⟩ (cf e)
section
variable {w0 w w1:World} {L R LX RX:List HP} {E:TypeId} {α:Type} {cf:α->List Value} {sz:Nat} {xs:List α} {v:Value}
theorem Eu.ext(h:Eu w sz cf v xs)(e:Ext w w1):Eu w1 sz cf v xs:=by
 obtain⟨a,cap,h1,h2,h3⟩:=h
 exact⟨a,cap,h1,h2,fun g hg i x hx=>(h3 g hg i x hx).ext e⟩
theorem Eu.of(dK:∀e,(cf e).length=sz)(hp:bQ L (SL E sz cf v xs) R)(w:World)(hw:St w0 L w):Eu w sz cf v xs:=by
 have h:=hw.pick hp
 obtain⟨a,cap,rfl,ha⟩:=aY h
 refine⟨a,cap,rfl,ha,fun g hg i e he j c hj=>?_⟩
 subst hg
 have Gp:j<sz:=by rw[<-dK e];exact(au.1 hj).1
 rw[Addr.add_lit,pb dK h he j Gp];exact hj
theorem Eu.base(h:Eu w0 sz cf v xs)(w:World)(hw:St w0 L w):Eu w sz cf v xs:=h.ext (Ext.ct hw.below)
end
structure Ms where
 id:Int
 pri:Int
 body:ak
 queue:ak
 cq:Int
instance:Inhabited Ms:=⟨⟨0,0,⟨#[]⟩,⟨#[]⟩,0⟩⟩
def du (m:Ms):List Value:=[.int .i64 m.id,.int .i64 m.pri,.string m.body,.string m.queue,.int .i64 m.cq]
structure It where
 m:Ms
 line:Int
 put:Int
 iS:Int
instance:Inhabited It:=⟨⟨default,0,0,0⟩⟩
def nJ (x:It):List Value:=[.int .i64 x.m.id,.int .i64 x.m.pri,.string x.m.body,.string x.m.queue,.int .i64 x.m.cq,.int .i64 x.line,.int .i64 x.put,.int .i64 x.iS]
def vf (p q x y:Int):Int:=if p≠q then q-p else x-y
def small (a:Int):Prop:= -1152921504606846976<=a/\a<=1152921504606846976
def iY (a b:It):Int:=vf a.m.pri b.m.pri a.line b.line
structure Qu where
 l:List It
 next:Int
instance:Inhabited Qu:=⟨⟨[],0⟩⟩
def pF (e:It):Prop:=small e.m.pri/\small e.line
def QO (l:List It) (x:It):Prop:= ∀(p q:Nat) (a b:It),p<=q->l[p]? =some a->l[q]? =some b->iY b x<0->iY a x<0
structure JL (l:List It) (x:It) (k:Nat):Prop where
 le:k<=l.length
 lo:∀(p:Nat) (a:It),p<k->l[p]? =some a->iY a x<0
 hi:∀(p:Nat) (a:It),k<=p->l[p]? =some a->0<=iY a x
def O9 (l:List It) (x:It) (k:Nat):Bool:=match l[k]? with|some a=>decide (iY a x=0)|none=>false
def kD (l:List It) (x:It):Nat:=(l.takeWhile fun e=>decide (iY e x<0)).length
theorem BY:∀{l:List It} {x:It} {k:Nat},JL l x k->k=kD l x
 |[],x,k,h=>by have :=h.le;simp at this;subst this;rfl
 |a::l,x,k,h=>by
  unfold kD
  by_cases hx:iY a x<0
  ·simp only[List.takeWhile_cons,hx,decide_true,if_true,List.length_cons]
   cases k with
   |zero=>exact absurd hx (Int.not_lt.2 (h.hi 0 a (aD _) aj))
   |succ k=>
    have :JL l x k:=⟨by have :=h.le;simp at this;omega,fun p b hp hb=>h.lo (p+1) b ae (by simpa using hb),fun p b hp hb=>h.hi (p+1) b ae (by simpa using hb)⟩
    rw[BY this];rfl
  ·simp only[List.takeWhile_cons,hx,decide_false]
   cases k with
   |zero=>rfl
   |succ k=>exact absurd (h.lo 0 a ae aj) hx
theorem BX(l:List It)(x:It):kD l x<=l.length:=(List.takeWhile_prefix _).length_le
def er (q:Qu) (m:Ms) (u:Int):It:=⟨m,q.next,max u (-1),-1⟩
def db (q:Qu) (m:Ms) (u:Int):Qu:=⟨q.l.take (kD q.l (er q m u))++er q m u::q.l.drop (kD q.l (er q m u)),q.next+1⟩
structure YO (q:Qu):Prop where
 len:q.l.length<900000
 small:∀e∈q.l,pF e
 next:0<=q.next/\q.next<1000000
 mono:∀m u,QO q.l (er q m u)
def f_ (e:It):Bool:=decide (e.put<0)&&decide (e.iS<0)
def dF (q:Qu):List Ms:=(q.l.filter f_).map (·.m)
def aW (q:Qu):List Ms:=(q.l.filter fun e=>decide (e.put<0)).map (·.m)
def DJ (id:Int) (e:It):Bool:=decide (e.m.id=id)
def Dm (q:Qu) (id:Int):Bool:=q.l.any (DJ id)
def bT (m:Ms):Bool:=decide (0<=m.id)&&(decide (m.id<=1099511627776)&&(decide (0<=m.pri)&&(decide (m.pri<=9)&&(lG m.body&&(dw m.queue&&(decide (0<=m.cq)&&decide (m.cq<4)))))))
theorem bV{m:Ms}(h:bT m=true):0<=m.id/\m.id<=1099511627776/\0<=m.pri/\m.pri<=9/\lG m.body=true/\dw m.queue=true/\0<=m.cq/\m.cq<4:=by
 unfold bT at h
 simp only[bn,decide_eq_true_eq]at h
 exact h
def kz (q:Qu) (m:Ms):Int:=if bT m=false then 1 else if Dm q m.id=true then 9 else if 20<=q.l.length then 12 else 0
def pM (q:Qu) (m:Ms) (u:Int):Qu:=if kz q m=0 then db q m u else q
def zI (q:Qu):Option Nat:=q.l.findIdx? f_
def om (q:Qu) (id:Int):Option Nat:=q.l.findIdx? (DJ id)
def IF (l:List It) (k:Nat):It:=l.getD k default
def oh:Ms:=⟨0,0,⟨#[]⟩,⟨#[]⟩,0⟩
def oM (q:Qu) (u:Int):Qu:=match zI q with|none=>q|some k=>if u<0 then⟨q.l.eraseIdx k,q.next⟩else⟨q.l.set k {IF q.l k with iS:=u},q.next⟩
def mX (q:Qu):Ms:=match zI q with|none=>oh|some k=>(IF q.l k).m
def nV (q:Qu):Int:=match zI q with|none=>8|some _=>0
def eA (q:Qu) (id:Int):Qu:=match om q id with|none=>q|some k=>⟨q.l.eraseIdx k,q.next⟩
def sX (q:Qu) (id:Int):Ms:=match om q id with|none=>oh|some k=>(IF q.l k).m
def mW (q:Qu) (id:Int):Int:=match om q id with|none=>7|some _=>0
def p9 (u:Int) (back:Bool) (x:It):Bool:=(decide (x.put=u)&&back)||(decide (x.iS=u)&& !back)
def nt (u:Int) (x:It):It:={x with put:=if x.put=u then -1 else x.put,iS:=if x.iS=u then -1 else x.iS}
def eK (q:Qu) (u:Int) (back:Bool):Qu:=if u<0 then q else⟨(q.l.filter fun e=> !p9 u back e).map (nt u),q.next⟩
theorem pW{l:List It}{k:Nat}{e:It}(h:l[k]? =some e):IF l k=e:=by simp[IF,aq,h]
end WB
namespace Go.Proofs.YtjhogocabcdjbabGreatDoor
open Tryz
open Go Go.RowKit WB
theorem ab7(w0:World)(L:List HP)(a b:Ms)(x y:Int)(h1:small a.pri)(h2:small b.pri)(h3:small x)(h4:small y):
 KE prog 245 #[.agg (du a).toArray,.agg (du b).toArray,.int .i64 x,.int .i64 y] w0 L (fun v L'=>v=.int .i64 (vf a.pri b.pri x y)/\L'=L):=by
 unfold small at h1 h2 h3 h4
 refine KE.mk (n:=22) func245 rfl ntmps245 aj ?_
 intro w hw
 refine Z3 ?_
 refine KO.box rfl rfl aQ rfl ?_;intro b4
 refine KO.box rfl rfl aQ rfl ?_;intro b5
 refine mB ?_
 refine T6 ?_
 refine vy ?_
 refine T6 ?_
 refine tL ?_
 refine xA ?_
 refine Z2 ?_
 refine K.bz rfl (fun h=>?_) (fun h=>?_)
 ·refine Z3 ?_
  refine T6 ?_
  refine tL ?_
  refine T6 ?_
  refine vy ?_
  refine Hd ?_
  refine sN ?_
  refine KQ.bG rfl rfl (fun w' hs=>⟨_,_,rfl,⟨?_,rfl⟩,hw.aE hs.below,hs.below⟩)
  simp[vf,h]
 ·refine Z6 ?_
  refine ji ?_
  refine Hd ?_
  refine jH ?_
  refine KQ.bG rfl rfl (fun w' hs=>⟨_,_,rfl,⟨?_,rfl⟩,hw.aE hs.below,hs.below⟩)
  simp[vf,h]
abbrev Kf (v:Value) (xs:List It):HP:=SL 243 8 nJ v xs
theorem Xy(w0:World)(L:List HP)(e:It):
 KE prog 150 #[.agg (nJ e).toArray] w0 L (fun v L'=>v=.bool (decide (e.put<0)&&decide (e.iS<0))/\L'=L):=by
 refine KE.mk (n:=11) func150 rfl ntmps150 aj ?_
 intro w hw
 refine Z3 ?_
 refine KO.box rfl rfl aQ rfl ?_;intro b1
 refine lK ?_
 by_cases h1:e.put<0
 ·refine ZE ?_
  refine G_ ?_
  refine Hn ?_
  refine o_ ?_
  refine yz ?_
  refine sO ?_
  refine jH ?_
  refine KQ.bG rfl rfl (fun w' hs=>⟨_,_,rfl,⟨?_,rfl⟩,hw.aE hs.below,hs.below⟩)
  simp[h1]
 ·refine ZE ?_
  refine Ub ?_
  refine JC ?_
  refine jH ?_
  refine KQ.bG rfl rfl (fun w' hs=>⟨_,_,rfl,⟨?_,rfl⟩,hw.aE hs.below,hs.below⟩)
  simp[h1]
theorem RR(w0:World)(L R:List HP)(e:It)(b:Nat)(id:Int)(E:TypeId)(hp:bQ L (bP b (.cells [Value.int .i64 id].toArray E (0,0))) R):
 KE prog 252 #[.agg (nJ e).toArray,.pointer (some ⟨b,0,none⟩)] w0 L (fun v L'=>v=.bool (decide (e.m.id=id))/\L'=L):=by
 refine KE.mk (n:=9) func252 rfl ntmps252 aj ?_
 intro w hw
 have hw:=hw.pick hp
 refine Z3 ?_
 refine KO.box rfl rfl aQ rfl ?_;intro b2
 refine mB ?_
 refine MY ?_
 refine JH ?_
 refine Yc ?_
 refine jH ?_
 refine KQ.bG rfl rfl (fun w' hs=>⟨_,_,rfl,⟨rfl,rfl⟩,(hw.zl hp).aE hs.below,hs.below⟩)
theorem DI(w0:World)(L:List HP)(v:Value)(xs:List It)(f:FuncId)(cp:List Value)(pf:It->Bool)(hr:∀w,St w0 L w->Eu w 8 nJ v xs)(hlen:xs.length<1000000)(gZ:∀args w,(callFunc f args).run prog w=.ok (.enter f args) w)(qP:∀e,e∈xs->KE prog f ([]++([Value.agg (nJ e).toArray]++cp)).toArray w0 L (fun v L'=>v=.bool (pf e)/\L'=L)):
 KE prog 149 #[v,.func (.func f) [].toArray cp.toArray] w0 L (fun v L'=>v=.int .i64 (qC pf xs)/\L'=L):=by
 refine KE.mk (n:=19) func149 rfl ntmps149 aj ?_
 intro w hw
 obtain⟨a,cap,rfl,ha,hc⟩:=hr w hw
 refine qE ?_
 refine Ba ?_
 refine ox ?_
 refine K.loop (fun k:Nat=>[(0,.slice a xs.length cap),(1,.func (.func f) [].toArray cp.toArray),(7,.int .i64 (xs.length:Nat)),(8,.int .i64 (k:Nat))]) (fun _=>[]) (fun k=>k<=xs.length/\∀(j:Nat) (u:It),j<k->xs[j]? =some u->pf u=false) (fun k=>xs.length-k) 0 ⟨by omega,fun j u h=>by omega⟩ ⟨rfl,rfl,rfl,rfl,trivial⟩ (fun _ h=>h) ?_
 rintro k ⟨hk,sG⟩
 refine iJ ?_
 refine K.bz rfl (fun h=>?_) (fun h=>?_)
 ·have dS:k<xs.length:=by omega
  obtain⟨g,rfl⟩:=ha ae
  obtain⟨e,he⟩:∃e,xs[k]? =some e:=⟨xs[k],ao dS⟩
  refine xy ?_
  refine mS ?_
  refine nB ?_
  refine YA ?_
  refine KO.ce rfl rfl rfl gZ rfl ((qP e (ax he)).qX hw) ?_;rintro v L' ⟨rfl,rfl⟩
  refine Z2 ?_
  refine K.cond rfl (fun h1=>?_) (fun h1=>?_)
  ·refine jI ?_
   refine lT ?_
   refine KQ.bG rfl rfl (fun w' hs=>⟨_,_,rfl,⟨?_,rfl⟩,hw.aE hs.below,hs.below⟩)
   rw[Ax he h1 sG]
  ·refine qD ?_
   refine KQ.round (k+1) ⟨by omega,fun j u hj hu=>?_⟩ ae ⟨rfl,rfl,rfl,rfl,trivial⟩ (fun _ h=>h)
   by_cases wK:j=k
   ·subst wK;rw[he]at hu;simp only[az]at hu;rw[<-hu];exact h1
   ·exact sG j u ae hu
 ·refine Jy ?_
  refine KQ.bG rfl rfl (fun w' hs=>⟨_,_,rfl,⟨?_,rfl⟩,hw.aE hs.below,hs.below⟩)
  rw[wU fun j u hu=>sG j u Y21 hu]
theorem XK(w0:World)(L:List HP)(v:Value)(xs:List It)(f:FuncId)(cp:List Value)(pf:It->Bool)(hr:∀w,St w0 L w->Eu w 8 nJ v xs)(hlen:xs.length<1000000)(gZ:∀args w,(callFunc f args).run prog w=.ok (.enter f args) w)(qP:∀e,e∈xs->KE prog f ([]++([Value.agg (nJ e).toArray]++cp)).toArray w0 L (fun v L'=>v=.bool (pf e)/\L'=L)):
 KE prog 241 #[v,.func (.func f) [].toArray cp.toArray] w0 L (fun v L'=>v=.bool (xs.any pf)/\L'=L):=by
 refine KE.mk (n:=9) func241 rfl ntmps241 aj ?_
 intro w hw
 refine Jx ?_
 refine KO.ce rfl rfl rfl call149 rfl ((DI w0 L v xs f cp pf hr hlen gZ qP).qX hw) ?_;rintro v L' ⟨rfl,rfl⟩
 refine vO ?_
 refine jH ?_
 refine KQ.bG rfl rfl (fun w' hs=>⟨_,_,rfl,⟨?_,rfl⟩,hw.aE hs.below,hs.below⟩)
 rw[Ay]
theorem wG:(prog.info? 243).map (fun i=>(i.zero,i.size,i.bytes))=some (some (Value.agg #[.int .i64 0,.int .i64 0,.string ⟨#[]⟩,.string ⟨#[]⟩,.int .i64 0,.int .i64 0,.int .i64 0,.int .i64 0]),8,80):=by kernel_rfl
theorem IE(w w0:World)(L:List HP)(v:Value)(n:Nat)(xs vs:List Value)(bv:Nat)(h:St w0 (lu 243 8 v n xs::bP bv (.cells vs.toArray 243 (0,0))::L) w)(hv:vs.length=8)(h1:∀u∈vs,u.oneCell'=true)(hn:n<1000000):
 Calls prog 246 #[v,.int .i64 n,.slice (some ⟨bv,0,none⟩) 1 1] w fun e w'=> ∃v',e=.returned v'/\St w0 (lu 243 8 v' (n+1) (xs++vs)::L) w':=by
 obtain⟨i0,hi,xU,n0,qN⟩:=info_parts wG
 have qZ:dr w ⟨bv,0,none⟩ vs:=by
  have h2:=h.pick (.tail .head)
  exact h2.fu fun j u hj=>by simpa using hj
 obtain⟨v',w1,hr,kt⟩:=sb (P:=prog) 120 120 243 i0 _ 8 80 underlying120 hi xU n0 qN rfl h ⟨bv,0,none⟩ 1 1 vs (by rw[hv]) qZ h1 Ux ae
 have HR:=Lib.hid hr
 have HS:=Lib.hid kt
 have kA:v=.slice none 0 0/\n=0\/∃g cap,v=.slice (some ⟨g,0,none⟩) n cap/\n<=cap:=by
  rcases h.cU with⟨h1,h2,_⟩|⟨g,cap,_,h1,h2,_⟩
  ·exact .inl ⟨h1,h2⟩
  ·exact .inr ⟨g,cap,h1,h2⟩
 clear h hr kt qZ hi xU n0 qN
 rcases kA with⟨rfl,rfl⟩|⟨g,cap,rfl,xX⟩
 ·go_enter func246,ntmps246
  go_wp2_with (at_builtin;refine Lib.wpList_append_run _ rfl _ _ _ _ rfl _ _ rfl rfl _ _ HR.out ?_)
  go_ret
  exact⟨_,rfl,HS.out.gJ.drop⟩
 ·have hE:((n:Int)==(n:Int))=true:=by simp
  by_cases Xh:cap=n
  ·have Xg:n=cap:=Xh.symm
   subst Xg
   go_enter func246,ntmps246
   go_wp2_with (at_builtin;refine Lib.wpList_append_run _ rfl _ _ _ _ rfl _ _ rfl rfl _ _ HR.out ?_)
   go_ret
   exact⟨_,rfl,HS.out.gJ.drop⟩
  ·go_enter func246,ntmps246
   go_wp2_with (at_builtin;refine Lib.wpList_append_run _ rfl _ _ _ _ rfl _ _ rfl rfl _ _ HR.out ?_)
   go_ret
   exact⟨_,rfl,HS.out.gJ.drop⟩
theorem FN(w w0:World)(L:List HP)(g n cap k:Nat)(xs vs:List Value)(bv:Nat)(h:St w0 (lu 243 8 (.slice (some ⟨g,0,none⟩) n cap) n xs::bP bv (.cells vs.toArray 243 (0,0))::L) w)(hv:vs.length=8)(h1:∀u∈vs,u.oneCell'=true)(uT:∀u∈xs,u.oneCell'=true)(hn:n<1000000)(hk:k<n)(jE:n+1<=cap):
 Calls prog 246 #[.slice (some ⟨g,0,none⟩) n cap,.int .i64 k,.slice (some ⟨bv,0,none⟩) 1 1] w fun e w'=> ∃v',e=.returned v'/\St w0 (lu 243 8 v' (n+1) (xs.take (k *8)++vs++xs.drop (k *8))::L) w':=by
 obtain⟨i0,hi,xU,n0,qN⟩:=info_parts wG
 rcases h.cU with⟨hc,_⟩|⟨g',o5,cur,hc,xX,rh,lW,fL,tQ,hblk⟩
 ·simp at hc
 ·simp only[Value.slice.injEq,az,Addr.mk.injEq,and_true,true_and]at hc
  obtain⟨rfl,rfl⟩:=hc
  have Mj:∀o n c o' n' c',(callFunc 346 #[.slice (some ⟨bv,o,none⟩) n c,.slice (some ⟨g,o',none⟩) n' c']).run prog w=.ok (.value (.bool false)) w:=fun o n c o' n' c'=>by
   rw[run_callFunc_extern func346 bH bH bH (e:=Extern.SlicesOverlaps.overlaps #[120,120] #[4]) bH,
    xN 120 4 243 i0 underlying120 hi hblk.gJ o n c o' n' c' (by rw[lW];omega)]
   rfl
  have HB:=Lib.hid hblk
  have gN:((k:Int)==(n:Int))=false:=by simp;omega
  have Tm:cap<9223372036854775808:=by unfold maxLen at rh;omega
  have dK:(cur.toList.take (n *8)).length=n *8:=by simp;omega
  have qP:cur.toList.length=cap *8:=by simpa using lW
  have DO:Nat.min (n+1-k) (n-k)=n-k:=Nat.min_eq_right ae
  have O3:∀u∈(cur.toList.take (n *8)).drop (k *8),u.oneCell'=true:=fun u hu=>uT u (fL▸List.mem_of_mem_drop hu)
  have Q8:((cur.toList.take (n *8)).drop (k *8)).length=Nat.min (n+1-k) (n-k)*i0.size:=by
   rw[bC,dK,n0,DO,Nat.sub_mul]
  have wP:=fC (P:=prog) w.drew 120 120 3 243 i0 g ((k+1)*8) (n-k) (cap-(k+1)) ⟨g,k *8,none⟩ (n+1-k) (cap-k) cur 243 _ underlying120 hi hblk.drew.look.2 Q8
   (hblk.drew.fu fun j u hj=>by
    rw[List.getElem?_drop,List.getElem?_take]at hj
    split at hj
    ·simpa using hj
    ·simp at hj) (by rw[Q8,n0,DO,lW];omega) O3
  have uV:=hblk.drew.setRow (c':=(cur.toList.take ((k+1)*8)++(cur.toList.take (n *8)).drop (k *8)++cur.toList.drop ((k+1)*8+((cur.toList.take (n *8)).drop (k *8)).length)).toArray)
  have Gi:((cur.toList.take (n *8)).drop (k *8)).length=n *8-k *8:=by rw[bC,dK]
  generalize DT:cur.toList.take ((k+1)*8)++(cur.toList.take (n *8)).drop (k *8)++cur.toList.drop ((k+1)*8+((cur.toList.take (n *8)).drop (k *8)).length)=C1 at wP uV
  have tu:C1.length=cap *8:=by rw[<-DT];simp only[aP,bL,Gi,bC,qP];omega
  have mI:=fC (P:=prog) (w.drew.setRow g C1.toArray) 120 120 3 243 i0 g (k *8) (n+1-k) (cap-k) ⟨bv,0,none⟩ 1 1 C1.toArray 243 vs underlying120 hi uV.look.2
   Y10 (uV.drop.fu fun j u hj=>by simpa using hj) (by rw[hv];simp[tu];omega) h1
  have qY:=uV.setRow (c':=(C1.take (k *8)++vs++C1.drop (k *8+vs.length)).toArray)
  have oU:Nat.min 1 (n+1-k)=1:=Nat.min_eq_left ae
  rw[oU]at mI
  rw[DO]at wP
  have jr:((C1.take (k *8)++vs++C1.drop (k *8+vs.length)).toArray).toList.take ((n+1)*8)=xs.take (k *8)++vs++xs.drop (k *8):=by
   have :=oF cur.toList vs (k *8) 8 (n *8) (cap *8) ae hv ae qP
   simp only[fL]at this
   rw[hv]
   have e:(k+1)*8=k *8+8:=by omega
   have e2:(n+1)*8=n *8+8:=by omega
   have e3:(k *8+8+(n *8-k *8))=n *8+8:=by omega
   rw[fL,e,show(xs.drop (k *8)).length=n *8-k *8 by rw[bC,tQ],e3]at DT
   rw[<-DT,e2]
   exact this
  have pY:=qY.lO (n:=n+1) (size:=8) (cap:=cap) jE rh (by simp[tu,hv];omega) jr
  generalize C1.take (k *8)++vs++C1.drop (k *8+vs.length)=C2 at mI pY qY jr
  have YV:=Lib.hid wP
  have YU:=Lib.hid mI
  have HO:=Lib.hid pY
  clear h hblk rh hi xU n0 qN lW fL tQ uT h1 hv wP mI pY uV qY jr DT Gi Q8 O3 qP dK DO oU tu
  go_enter func246,ntmps246
  go_wp2_with fail
  refine fe [.pure,.pure,.pure,.pure,.pure,.pure,.pure,.pure,.write] [0,1,2,3,4,5,6,7,8] bH bH ?_
  simp only[aL,List.map_nil,item,List.getD_cons_zero,List.getD_cons_succ]
  repeat((with_reducible refine fT (v:=?_) (a':=?_) ?_ ?_ ?_ ?_);rotate_left 2;(rfl);((intro w';go_simp;(try(go_bits;(try go_simp);(try(go_bits;(try go_simp)))));(repeat(first|rewrite [if_pos ae]|rewrite [if_neg ae])))<;>rfl);(go_simp;rfl))
  refine lZ (a':=?_) (v:=?_) (w':=?_) rfl ?_ ?_ ?_
  rotate_left 3
  ·rw[nw _ _ _ _ rfl (.slice (some ⟨g,(k+1)*8,none⟩) (n-k) (cap-(k+1))) (.slice (some ⟨g,k *8,none⟩) (n+1-k) (cap-k)) rfl rfl YV.out]
  ·go_simp;rfl
  refine pz ?_
  go_wp2_with (refine ub rfl _ _ _ _ rfl (.slice (some ⟨g,k *8,none⟩) (n+1-k) (cap-k)) (.slice (some ⟨bv,0,none⟩) 1 1) rfl rfl YU.out ?_;intro K hK;go_simp)
  go_ret
  exact⟨_,rfl,HO.out.gJ.drop⟩
theorem FP(w w0:World)(L:List HP)(g n k:Nat)(cap:Nat)(xs vs:List Value)(bv:Nat)(h:St w0 (lu 243 8 (.slice (some ⟨g,0,none⟩) n cap) n xs::bP bv (.cells vs.toArray 243 (0,0))::L) w)(hv:vs.length=8)(h1:∀u∈vs,u.oneCell'=true)(uT:∀u∈xs,u.oneCell'=true)(hn:n<1000000)(hk:k<n)(jE:cap<n+1):
 Calls prog 246 #[.slice (some ⟨g,0,none⟩) n cap,.int .i64 k,.slice (some ⟨bv,0,none⟩) 1 1] w fun e w'=> ∃v',e=.returned v'/\St w0 (lu 243 8 v' (n+1) (xs.take (k *8)++vs++xs.drop (k *8))::L) w':=by
 obtain⟨i0,hi,xU,n0,qN⟩:=info_parts wG
 rcases h.cU with⟨hc,_⟩|⟨g',o5,cur,hc,xX,rh,lW,fL,tQ,hblk⟩
 ·simp at hc
 ·simp only[Value.slice.injEq,az,Addr.mk.injEq,and_true,true_and]at hc
  obtain⟨rfl,rfl⟩:=hc
  have Xh:cap=n:=by omega
  have gN:((k:Int)==(n:Int))=false:=by simp;omega
  have qP:cur.toList.length=cap *8:=by simpa using lW
  have SP:(xs.take (k *8)).length=k *8:=by rw[bL,tQ];omega
  have iX:∀(j:Nat) (u:Value),xs[j]? =some u->cur[j]? =some u:=fun j u hj=>by
   rw[<-fL,List.getElem?_take]at hj
   split at hj
   ·simpa using hj
   ·simp at hj
  have hr:=oJ (P:=prog) w 120 3 120 243 i0 _ .i64 .i64 underlying120 underlying3 hi xU ⟨g,0,none⟩ k cap (xs.take (k *8)) (by rw[SP,n0])
   (hblk.fu fun j u hj=>by
    rw[List.getElem?_take]at hj
    split at hj
    ·rw[Nat.zero_add];exact iX j u hj
    ·simp at hj) (n+1-k) ae (by rw[n0];omega) ae ae (by rw[qN];exact growslice_fits ae ae) (by rw[qN];omega)
  have Hz:=grownCap_ge w (k+(n+1-k)) cap 243
  have hle:=grownCap_le_maxLen w (k+(n+1-k)) cap 243 Ux
  have oz:=hblk.drew.alloc (.cells ((xs.take (k *8)).toArray++Builtin.zeroCells (Value.agg #[.int .i64 0,.int .i64 0,.string ⟨#[]⟩,.string ⟨#[]⟩,.int .i64 0,.int .i64 0,.int .i64 0,.int .i64 0]).cells (n+1-k)++Builtin.zeroCells (Value.agg #[.int .i64 0,.int .i64 0,.string ⟨#[]⟩,.string ⟨#[]⟩,.int .i64 0,.int .i64 0,.int .i64 0,.int .i64 0]).cells (grownCap w (k+(n+1-k)) cap 243-(k+(n+1-k)))) 243)
  have Md:∀q,(Builtin.zeroCells (Value.agg #[.int .i64 0,.int .i64 0,.string ⟨#[]⟩,.string ⟨#[]⟩,.int .i64 0,.int .i64 0,.int .i64 0,.int .i64 0]).cells q).size=q *8:=fun q=>by rw[size_zeroCells];rfl
  generalize hW:w.drew.alloc (.cells ((xs.take (k *8)).toArray++Builtin.zeroCells (Value.agg #[.int .i64 0,.int .i64 0,.string ⟨#[]⟩,.string ⟨#[]⟩,.int .i64 0,.int .i64 0,.int .i64 0,.int .i64 0]).cells (n+1-k)++Builtin.zeroCells (Value.agg #[.int .i64 0,.int .i64 0,.string ⟨#[]⟩,.string ⟨#[]⟩,.int .i64 0,.int .i64 0,.int .i64 0,.int .i64 0]).cells (grownCap w (k+(n+1-k)) cap 243-(k+(n+1-k)))) 243)=W at hr oz
  clear hW
  generalize hcp:grownCap w (k+(n+1-k)) cap 243=cp at hr oz Hz hle
  clear hcp
  have e1:k+(n+1-k)=n+1:=by omega
  rw[e1]at hr Hz
  generalize hB:w.heap.size=B at hr
  have hB':w.drew.heap.size=B:=hB
  rw[hB']at oz
  clear hB hB'
  generalize hZ:Builtin.zeroCells (Value.agg #[.int .i64 0,.int .i64 0,.string ⟨#[]⟩,.string ⟨#[]⟩,.int .i64 0,.int .i64 0,.int .i64 0,.int .i64 0]).cells (n+1-k)++Builtin.zeroCells (Value.agg #[.int .i64 0,.int .i64 0,.string ⟨#[]⟩,.string ⟨#[]⟩,.int .i64 0,.int .i64 0,.int .i64 0,.int .i64 0]).cells (cp-(k+(n+1-k)))=Z at oz
  have hZl:Z.toList.length=(cp-k)*8:=by
   rw[<-hZ];simp only[Array.length_toList,Array.size_append,Md];omega
  have Mu:((xs.take (k *8)).toArray++Builtin.zeroCells (Value.agg #[.int .i64 0,.int .i64 0,.string ⟨#[]⟩,.string ⟨#[]⟩,.int .i64 0,.int .i64 0,.int .i64 0,.int .i64 0]).cells (n+1-k)++Builtin.zeroCells (Value.agg #[.int .i64 0,.int .i64 0,.string ⟨#[]⟩,.string ⟨#[]⟩,.int .i64 0,.int .i64 0,.int .i64 0,.int .i64 0]).cells (cp-(k+(n+1-k))))=(xs.take (k *8)++Z.toList).toArray:=by
   rw[<-hZ];apply Array.ext';simp
  rw[Mu]at oz
  clear Mu hZ Md
  have WJ:=oz
  generalize Mu:xs.take (k *8)++Z.toList=C0 at oz
  have I7:C0.length=cp *8:=by rw[<-Mu,aP,SP,hZl];omega
  have Al:Nat.min 1 (n+1-k)=1:=Nat.min_eq_left ae
  have Cz:St w0 (bP bv (.cells vs.toArray 243 (0,0))::bP B (.cells C0.toArray 243 (0,0))::bP g (.cells cur 243 (0,0))::L) W:=oz.pick (.tail (.tail .head))
  have wP:=fC (P:=prog) W 120 120 3 243 i0 B (k *8) (n+1-k) (cp-k) ⟨bv,0,none⟩ 1 1 C0.toArray 243 vs underlying120 hi oz.look.2
   (by rw[hv,n0,Al,Nat.one_mul]) (Cz.fu fun j u hj=>by simpa using hj) (by rw[hv];simp[I7];omega) h1
  have uV:=oz.setRow (c':=(C0.take (k *8)++vs++C0.drop (k *8+vs.length)).toArray)
  rw[Al]at wP
  generalize DT:C0.take (k *8)++vs++C0.drop (k *8+vs.length)=C1 at wP uV
  have tu:C1.length=cp *8:=by rw[<-DT];simp only[aP,bL,bC,I7,hv];omega
  generalize Pk:W.setRow B C1.toArray=W1 at wP uV
  clear Pk
  have tU:(xs.drop (k *8)).length=(n-k)*8:=by rw[bC,tQ];omega
  have oU:Nat.min (n-k) (n-k)=n-k:=Nat.min_self _
  have rb:St w0 (bP g (.cells cur 243 (0,0))::bP B (.cells C1.toArray 243 (0,0))::bP bv (.cells vs.toArray 243 (0,0))::L) W1.drew:=(uV.pick (.tail .head)).drew
  have mI:=fC (P:=prog) W1.drew 120 120 3 243 i0 B ((k+1)*8) (n-k) (cp-(k+1)) ⟨g,k *8,none⟩ (n-k) (cap-k) C1.toArray 243 (xs.drop (k *8)) underlying120 hi uV.drew.look.2
   (by rw[tU,n0,oU]) (rb.fu fun j u hj=>by rw[List.getElem?_drop]at hj;exact iX _ u hj) (by rw[tU];simp[tu];omega) (fun u hu=>uT u (List.mem_of_mem_drop hu))
  have qY:=uV.drew.setRow (c':=(C1.take ((k+1)*8)++xs.drop (k *8)++C1.drop ((k+1)*8+(xs.drop (k *8)).length)).toArray)
  rw[oU]at mI
  have jr:((C1.take ((k+1)*8)++xs.drop (k *8)++C1.drop ((k+1)*8+(xs.drop (k *8)).length)).toArray).toList.take ((n+1)*8)=xs.take (k *8)++vs++xs.drop (k *8):=by
   have :=x5 (xs.take (k *8)) Z.toList vs (xs.drop (k *8)) (k *8) 8 ((n-k)*8) SP hv tU
   simp only[Mu]at this
   rw[hv]at DT
   rw[DT]at this
   rw[tU,show(k+1)*8=k *8+8 by omega,show(n+1)*8=k *8+8+(n-k)*8 by omega]
   exact this
  have ra:(C1.take ((k+1)*8)++xs.drop (k *8)++C1.drop ((k+1)*8+(xs.drop (k *8)).length)).length=cp *8:=by
   simp only[aP,bL,bC,tu,tQ];omega
  generalize C1.take ((k+1)*8)++xs.drop (k *8)++C1.drop ((k+1)*8+(xs.drop (k *8)).length)=C2 at mI qY jr ra
  have pY:=qY.lO (n:=n+1) (size:=8) (cap:=cp) Hz hle (by simpa using ra) jr
  have e9:((n+1-k:Nat):Int)=(n:Int)+1-k:=by omega
  rw[e9]at hr
  clear e9
  have HR:=Lib.hid hr
  have YV:=Lib.hid wP
  have YU:=Lib.hid mI
  have HO:=Lib.hid pY
  have afP:cp<9223372036854775808:=by unfold maxLen at hle;omega
  clear h hblk rh hi xU n0 qN lW fL tQ uT h1 hv wP mI pY oz WJ uV qY jr ra Mu I7 DT tu hr rb Cz tU SP qP iX hZl Al oU hle e1 Xh
  go_enter func246,ntmps246
  go_wp2_with (first|(at_builtin;refine Lib.wpList_append_run _ rfl _ _ _ _ rfl _ _ rfl rfl _ _ HR.out ?_)|(refine ub rfl _ _ _ _ rfl (.slice (some ⟨B,k *8,none⟩) (n+1-k) (cp-k)) (.slice (some ⟨bv,0,none⟩) 1 1) rfl rfl YV.out ?_;intro K hK;go_simp))
  refine fe [.pure,.pure,.pure,.pure,.pure,.pure,.pure,.pure,.write] [0,1,2,3,4,5,6,7,8] bH bH ?_
  simp only[aL,List.map_nil,item,List.getD_cons_zero,List.getD_cons_succ]
  repeat((with_reducible refine fT (v:=?_) (a':=?_) ?_ ?_ ?_ ?_);rotate_left 2;(rfl);((intro w';go_simp;(try(go_bits;(try go_simp);(try(go_bits;(try go_simp)))));(repeat(first|rewrite [if_pos ae]|rewrite [if_neg ae])))<;>rfl);(go_simp;rfl))
  refine lZ (a':=?_) (v:=?_) (w':=?_) rfl ?_ ?_ ?_
  rotate_left 3
  ·rw[nw _ _ _ _ rfl (.slice (some ⟨B,(k+1)*8,none⟩) (n-k) (cp-(k+1))) (.slice (some ⟨g,k *8,none⟩) (n-k) (cap-k)) rfl rfl YU.out]
  ·go_simp;rfl
  refine pz ?_
  go_wp2_with fail
  go_ret
  exact⟨_,rfl,HO.out.pick (.tail .head) |>.drop.pick (.tail .head) |>.drop⟩
end Go.Proofs.YtjhogocabcdjbabGreatDoor
