import Derived.WalkKit
import Derived.LoopN
import Derived.ChangeMaps5
import Derived.Laws.CopyOwn
import Derived.Lib.Hide
import Derived.Lib.Bytealg
import Derived.Lib.SlTrimSet
import Derived.Lib.Overlaps
import Derived.Lib.AppendZeros
import Derived.Maps.OwnOps
import Derived.IntWalk
import Derived.Test.YtjhogocabcdjbabGreatDoorShelf
set_option linter.unusedSimpArgs false
set_option linter.unusedVariables false
set_option maxRecDepth 100000
set_option maxHeartbeats 8000000
theorem ao{α:Type}{l:List α}{i:Nat}(h:i<l.length):l[i]? =some l[i]:=List.getElem?_eq_getElem h
theorem aq{α:Type}{l:List α}{i:Nat}{d:α}:l.getD i d=(l[i]?).getD d:=List.getD_eq_getElem?_getD
theorem au{α:Type}{l:List α}{i:Nat}{a:α}:l[i]? =some a↔∃h:i<l.length,l[i]=a:=List.getElem?_eq_some_iff
theorem ax{α:Type}{l:List α}{i:Nat}{a:α}(h:l[i]? =some a):a∈l:=List.mem_of_getElem? h
theorem ay{α:Type}(a b:α):(some a=some b)=(a=b):=Option.some.injEq _ _
theorem aB{a b:ByteArray}:(a++b).size=a.size+b.size:=ByteArray.size_append
theorem aC(n:Nat):n≤n:=Nat.le_refl _
theorem aD{α β:Type}{b:β}{f:α→β}{l:List α}:b∈l.map f↔∃a,a∈l∧f a=b:=List.mem_map
theorem aG{α:Type}{p:α→Bool}{l:List α}:l.all p=true↔∀x,x∈l→p x=true:=List.all_eq_true
theorem aH{α β:Type}{f:α→β}{l:List α}{i:Nat}:(l.map f)[i]? =(l[i]?).map f:=List.getElem?_map
theorem aI{α:Type}{p:α→Bool}{l:List α}{x:α}:x∈l.filter p↔x∈l∧p x=true:=List.mem_filter
theorem aJ{α:Type}{b:α}{l:List α}{a:α}:a∈b::l↔a=b∨a∈l:=List.mem_cons
theorem aK{α:Type}(a b c:List α):a++b++c=a++(b++c):=List.append_assoc _ _ _
theorem aM(n:Nat):(n:Int).toNat=n:=Int.toNat_natCast _
theorem aO{α β:Type}{x:α}{l:List α}{f:α→List β}:(x::l).flatMap f=f x++l.flatMap f:=List.flatMap_cons
theorem aP{α:Type}{a:α}{s t:List α}:a∈s++t↔a∈s∨a∈t:=List.mem_append
theorem aQ{α:Type}{a b:List α}:(a++b).length=a.length+b.length:=List.length_append
theorem aR(n:Nat):0≤n:=Nat.zero_le _
theorem aT{α β:Type}{f:α→β}{a:α}{l:List α}:(a::l).map f=f a::l.map f:=List.map_cons
theorem aV{α β:Type}{l:List α}(f:α→β):(l.map f).length=l.length:=List.length_map _
theorem aW(a b:Bool):((a&&b)=true)=(a=true∧b=true):=Bool.and_eq_true _ _
theorem bn{α:Type}{a:α}{s t:List α}:a::s++t=a::(s++t):=List.cons_append
theorem bo{α:Type}{i:Nat}{l:List α}:(l.drop i).length=l.length-i:=List.length_drop
theorem bp{α:Type}{i:Nat}{l:List α}:(l.take i).length=min i l.length:=List.length_take
theorem br{α:Type}{l:List α}{i:Nat}{a b:α}(h:a∈l.set i b):a∈l∨a=b:=List.mem_or_eq_of_mem_set h
theorem bu{α β:Type}{f:α→β}{a b:List α}:(a++b).map f=a.map f++b.map f:=List.map_append
theorem bz{m n:Nat}:m∈List.range n↔m<n:=List.mem_range
theorem bM{α:Type}{a b:List α}{i:Nat}(h:a.length≤i):(a++b)[i]? =b[i-a.length]?:=List.getElem?_append_right h
theorem bZ{α:Type}{a:α}{l:List α}:(a::l).Nodup↔¬a∈l∧l.Nodup:=List.nodup_cons
theorem b_{α:Type}{p:α→Bool}{l:List α}:l.filter p=l↔∀a∈l,p a=true:=List.filter_eq_self
theorem cB{α:Type}{p q:α→Bool}{l:List α}:(l.filter q).filter p=l.filter fun a=>p a&&q a:=List.filter_filter
theorem cG{α:Type}{l:List α}{i:Nat}(h:l.length≤i):l[i]? =none:=List.getElem?_eq_none h
theorem dG{α:Type}{p:α→Bool}(a b:List α):(a++b).filter p=a.filter p++b.filter p:=List.filter_append _ _
theorem fh{α:Type}{x:α}{l:List α}{p:α→Bool}:(x::l).filter p=if p x=true then x::l.filter p else l.filter p:=List.filter_cons
theorem j_{α β:Type}{a:α}{l:List α}{f:α→β}(h:a∈l):f a∈l.map f:=List.mem_map_of_mem h
theorem ae{p:Prop}(h:p:=by omega):p:=h
theorem ai{p:Prop}(h:p:=by decide):p:=h
theorem aj{p:Prop}(h:p:=by simp):p:=h
abbrev ak:=ByteArray
section
variable {p q:Prop}
structure ZH (q:Prop):Prop where
 t:q
theorem Y0(h:p:=by(try simp only[nZ,List.drop_succ_cons,List.drop_zero,List.drop_nil,bn,List.nil_append,List.length_cons,List.length_nil,Nat.zero_add,Nat.reduceAdd]);(try exact rfl)):p:=h
theorem Y1(h:p:=by with_reducible repeat(first|exact iI.refl|refine iI.cons (by with_reducible repeat(first|exact bC.head|apply bC.tail)) ?_|apply iI.drop)):p:=h
theorem Y2(h:p:=by rintro v M ⟨c,h1,rfl⟩;exact⟨_,⟨c,h1,rfl⟩,fun w hw=>((hw.gu (A:=cW p.1 p.2 x.1) (B:=fa p.2 x.2) (.tail .head) (.tail .head)).join).fL⟩):p:=h
theorem Y3(h:p:=by with_reducible repeat(first|exact iI.refl|refine iI.cons (by with_reducible repeat(first|exact bC.head|apply bC.tail)) ?_)):p:=h
theorem Y4(h:p:=by with_reducible repeat(first|exact iI.nil|refine iI.cons (by with_reducible repeat(first|exact bC.head|apply bC.tail)) ?_)):p:=h
theorem Y5(h:p:=by repeat(first|exact iI.refl|refine iI.cons (by repeat(first|exact bC.head|apply bC.tail)) ?_|apply iI.drop)):p:=h
theorem Y6(h:p:=by simp only[decide_eq_true_eq,decide_eq_false_iff_not,Bool.not_eq_true,Bool.not_true,Bool.not_false,ne_eq];omega):p:=h
theorem Y7(h:p:=by repeat(first|exact iI.refl|refine iI.cons (by repeat(first|exact bC.head|apply bC.tail)) ?_)):p:=h
theorem Y8(h:p:=by repeat(first|exact iI.nil|refine iI.cons (by repeat(first|exact bC.head|apply bC.tail)) ?_)):p:=h
theorem Y9(h:p:=by(try simp only[List.drop_zero,List.drop_succ_cons,List.take_succ_cons,List.take_zero]);(try exact rfl)):p:=h
theorem Y10(h:p:=by rw[hv,l0,show Nat.min 1 (n+1-k)=1 from Nat.min_eq_left ae,Nat.one_mul]):p:=h
theorem Y11(h:p:=by intro x hx;simp at hx;rcases hx with rfl|rfl|rfl|rfl<;>omega):p:=h
theorem aX(h:p:=by with_reducible (repeat(first|exact bC.head|apply bC.tail))):p:=h
theorem Cc(h:p:=by with_reducible repeat(first|exact sM.refl|apply sM.drop)):p:=h
theorem Y14(h:p:=by rintro v M ⟨h1,rfl⟩;exact⟨_,⟨h1,rfl⟩,fun w hw=>hw.join⟩):p:=h
theorem Y15(h:p:=by intro w;simp[sizeOf3,sizeOf4,sizeOf49]):p:=h
theorem Y16(h:p:=by dsimp only[Wo.bX];rw[List.length_set];exact hV):p:=h
theorem Y17(h:p:=by have :=(au.1 hu).1;omega):p:=h
theorem Y18(h:p:=by simp only[aB,z6,z7];omega):p:=h
theorem Y19(h:p:=by simp at hy ⊢;rcases hy with h|h<;>simp[h]):p:=h
theorem Y20(h:p:=by intro w;simp[sizeOf3,sizeOf120]):p:=h
theorem Y21(h:p:=by intro w;simp[sizeOf3,sizeOf9]):p:=h
theorem bE(h:p:=by with_reducible (repeat(exact bC.head))):p:=h
theorem Y23(h:p:=by simp only[aB];omega):p:=h
theorem Ov(h:p:=by with_reducible repeat(exact iI.refl)):p:=h
theorem R0(h:p:=by simp only[Addr.add_lit];(simp;done)):p:=h
theorem Y26(h:p:=by rw[hd];simp[Program.intKind,hd]):p:=h
theorem Y27(h:p:=by rw[Ix (by exact h3)];omega):p:=h
theorem Y28(h:p:=by rw[aB];omega):p:=h
theorem Y29(h:p:=by unfold maxLen;dsimp only;omega):p:=h
theorem Y30(h:p:=by rw[List.length_range];omega):p:=h
theorem Y31(h:p:=by rw[bp];omega):p:=h
theorem lY(h:p:=by rw[aV];omega):p:=h
theorem Y33(h:p:=by as_aux_lemma=>kernel_rfl):p:=h
theorem mH(h:p:=by repeat(exact iI.refl)):p:=h
theorem wz(h:p:=by rw[Addr.add_lit];simp):p:=h
theorem WM(h:p:=by rw[hB.az];exact hu):p:=h
theorem OW(h:p:=by simp at hy ⊢;simp[hy]):p:=h
theorem Y38(h:p:=by rw[Ix h3];omega):p:=h
theorem OV(h:p:=by rw[pW hV];omega):p:=h
theorem Ou(h:p:=by unfold maxLen;omega):p:=h
theorem Y41(h:p:=by exact sizeOf243):p:=h
theorem Y42(h:p:=by exact sizeOf120):p:=h
theorem Ot(h:p:=by exact sizeOf256):p:=h
theorem Y44(h:p:=by exact sizeOf160):p:=h
theorem Y45(h:p:=by exact sizeOf161):p:=h
theorem IG(h:p:=by exact sizeOf44):p:=h
theorem Y47(h:p:=by exact sizeOf49):p:=h
theorem Y48(h:p:=by exact sizeOf31):p:=h
theorem AB(h:p:=by exact sizeOf3):p:=h
theorem WL(h:p:=by exact sizeOf9):p:=h
theorem ji(h:p:=by dsimp only;omega):p:=h
theorem Tp(h:p:=by simp[bG, *]):p:=h
theorem Oq(h:p:=by rw[<-qg];rfl):p:=h
theorem XG(h:p:=by simpa using h0):p:=h
theorem Y55(h:p:=by simpa using h2):p:=h
theorem WK(h:p:=by simpa using h1):p:=h
theorem Y57(h:p:=by simp_all;done):p:=h
theorem K7(h:p:=by rw[hl];simp):p:=h
theorem IF(h:p:=by simpa using h):p:=h
theorem XF(h:p:=by rw[hh,k_]):p:=h
theorem Oo(h:p:=by(simp;omega)):p:=h
theorem WJ(h:p:=by rw[hk];simp):p:=h
theorem Y63(h:p:=by(simp;done)):p:=h
theorem fV(h:p:=by simp;omega):p:=h
theorem bm(h:p:=by kernel_rfl):p:=h
theorem uT(h:p:=by assumption):p:=h
theorem XE(h:p:=by simp[O1]):p:=h
theorem sR(h:p:=by simp[hx]):p:=h
theorem aL(h:p:=by exact rfl):p:=h
theorem ET(h:p:=by simp[h1]):p:=h
theorem Z0(a:q)(h:ZH q->p:=by intro zq;refine KO.nil ?_;(repeat(first|(with_reducible refine K.seq ?_)|(with_reducible refine KQ.next ?_)));exact zq.1):p:=h ⟨a⟩
theorem Z1(a:q)(h:ZH q->p:=by intro zq;refine KO.mv rfl rfl ?_;exact zq.1):p:=h ⟨a⟩
theorem Z2(a:q)(h:ZH q->p:=by intro zq;(repeat((with_reducible refine K.seq ?_)));refine K.FA ?_;exact zq.1):p:=h ⟨a⟩
theorem Z3(a:q)(h:ZH q->p:=by intro zq;refine KO.nil ?_;(repeat(first|(with_reducible refine KQ.next ?_)|(with_reducible refine KQ.mQ ?_)|(with_reducible refine K.ret ?_)));exact zq.1):p:=h ⟨a⟩
theorem Z4(a:q)(h:ZH q->p:=by intro zq;refine KO.nil ?_;(repeat(first|(with_reducible refine KQ.next ?_)|(with_reducible refine K.ret ?_)));exact zq.1):p:=h ⟨a⟩
theorem Z5(a:q)(h:ZH q->p:=by intro zq;refine KO.nil ?_;(repeat((with_reducible refine KQ.next ?_)));exact zq.1):p:=h ⟨a⟩
theorem Z6(a:q)(h:ZH q->p:=by intro zq;(repeat(first|(with_reducible refine K.seq ?_)|(with_reducible refine KQ.next ?_)|(with_reducible refine K.skip ?_)));exact zq.1):p:=h ⟨a⟩
theorem Z7(a:q)(h:ZH q->p:=by intro zq;refine K.FA ?_;refine Z1 ?_;exact zq.1):p:=h ⟨a⟩
theorem Z8(a:q)(h:ZH q->p:=by intro zq;refine KO.as rfl rfl ?_;exact zq.1):p:=h ⟨a⟩
theorem Z9(a:q)(h:ZH q->p:=by intro zq;refine KO.nil ?_;(repeat(first|(with_reducible refine KQ.next ?_)|(with_reducible refine KQ.mQ ?_)|(with_reducible refine KQ.wo ?_)|(with_reducible refine K.ret ?_)));exact zq.1):p:=h ⟨a⟩
theorem wx(a:q)(h:ZH q->p:=by intro zq;(repeat(first|(with_reducible refine K.seq ?_)|(with_reducible refine KQ.next ?_)|(with_reducible refine KQ.iZ ?_)|(with_reducible refine KQ.kD ?_)|(with_reducible refine K.exit ?_)));exact zq.1):p:=h ⟨a⟩
theorem RY(a:q)(h:ZH q->p:=by intro zq;(repeat(first|(with_reducible refine K.seq ?_)|(with_reducible refine KQ.next ?_)|(with_reducible refine K.skip ?_)|(with_reducible refine K.block ?_)));exact zq.1):p:=h ⟨a⟩
theorem IE(a:q)(h:ZH q->p:=by intro zq;refine KO.no rfl rfl rfl rfl ?_;refine KO.no rfl rfl rfl rfl ?_;exact zq.1):p:=h ⟨a⟩
theorem yO(a:q)(h:ZH q->p:=by intro zq;refine KO.eN (i:=0) rfl rfl runUnderlying23 sizeOf3 rfl aj rfl ?_;refine KO.fJ (i:=0) (sz:=1) (cf:=cR) (e:=k) rfl rfl isAgg3 bE (fun _=>rfl) rfl aj aL rfl ?_;exact zq.1):p:=h ⟨a⟩
theorem Z14(a:q)(h:ZH q->p:=by intro zq;refine KO.nil ?_;(repeat(first|(with_reducible refine KQ.next ?_)|(with_reducible refine KQ.gS ?_)));exact zq.1):p:=h ⟨a⟩
theorem Z15(a:q)(h:ZH q->p:=by intro zq;refine KO.Nx rfl aL rfl ?_;refine KO.Nx rfl aL rfl ?_;exact zq.1):p:=h ⟨a⟩
theorem jH(a:q)(h:ZH q->p:=by intro zq;refine Z8 ?_;refine Z0 ?_;exact zq.1):p:=h ⟨a⟩
theorem K6(a:q)(h:ZH q->p:=by intro zq;refine KO.tA (i:=0) rfl rfl runUnderlying115 sizeOf9 rfl aj rfl ?_;refine KO.W7 rfl rfl isAgg9 (fun w' hw'=>c.at (hw'.pick aX) (i:=0) rfl) rfl ?_;exact zq.1):p:=h ⟨a⟩
theorem Tn(a:q)(h:ZH q->p:=by intro zq;refine KO.nil ?_;(repeat(first|(with_reducible refine KQ.next ?_)|(with_reducible refine K.block ?_)));exact zq.1):p:=h ⟨a⟩
theorem Tm(a:q)(h:ZH q->p:=by intro zq;refine KO.no rfl rfl Y6 rfl ?_;refine KO.no rfl rfl Y6 rfl ?_;exact zq.1):p:=h ⟨a⟩
theorem Hf(a:q)(h:ZH q->p:=by intro zq;refine Z1 ?_;refine KO.on rfl rfl rfl ?_;exact zq.1):p:=h ⟨a⟩
theorem OU(a:q)(h:ZH q->p:=by intro zq;refine KO.eN (i:=0) rfl rfl runUnderlying23 sizeOf3 rfl aj rfl ?_;refine KO.fJ (i:=0) (sz:=1) (cf:=cR) (e:=(j:Int)) rfl rfl isAgg3 bE (fun _=>rfl) rfl aj aL rfl ?_;exact zq.1):p:=h ⟨a⟩
theorem vG(a:q)(h:ZH q->p:=by intro zq;refine KO.ld rfl rfl isAgg3 bE aL rfl ?_;exact zq.1):p:=h ⟨a⟩
theorem RH(a:q)(h:ZH q->p:=by intro zq;refine KO.nc rfl rfl ?_;refine KO.ij (off:=0) rfl runUnderlying164 rfl rfl sizeOf160 rfl ?_;exact zq.1):p:=h ⟨a⟩
theorem lV(a:q)(h:ZH q->p:=by intro zq;refine KO.on rfl rfl Y6 ?_;exact zq.1):p:=h ⟨a⟩
theorem Z25(a:q)(h:ZH q->p:=by intro zq;refine KO.nc rfl rfl ?_;refine KO.ij (off:=1) rfl runUnderlying164 rfl rfl sizeOf161 rfl ?_;exact zq.1):p:=h ⟨a⟩
theorem kQ(a:q)(h:ZH q->p:=by intro zq;refine jH ?_;refine Z7 ?_;exact zq.1):p:=h ⟨a⟩
theorem uS(a:q)(h:ZH q->p:=by intro zq;refine KO.add rfl rfl rfl ae rfl ?_;exact zq.1):p:=h ⟨a⟩
theorem lb(a:q)(h:ZH q->p:=by intro zq;refine KO.nc rfl rfl ?_;exact zq.1):p:=h ⟨a⟩
theorem fK(a:q)(h:ZH q->p:=by intro zq;refine Z8 ?_;refine Z4 ?_;exact zq.1):p:=h ⟨a⟩
theorem OT(a:q)(h:ZH q->p:=by intro zq;refine KO.ij (off:=0) rfl runUnderlying44 rfl rfl sizeOf3 rfl ?_;exact zq.1):p:=h ⟨a⟩
theorem Z36(a:q)(h:ZH q->p:=by intro zq;refine KO.mki rfl bm rfl ?_;refine Z8 ?_;exact zq.1):p:=h ⟨a⟩
theorem V5(a:q)(h:ZH q->p:=by intro zq;refine KO.ij (off:=7) rfl runUnderlying133 rfl rfl sizeOf123 rfl ?_;refine KO.di (i:=7) rfl rfl isAgg123 bE rfl rfl rfl ?_;exact zq.1):p:=h ⟨a⟩
theorem jh(a:q)(h:ZH q->p:=by intro zq;refine Z1 ?_;refine Z1 ?_;exact zq.1):p:=h ⟨a⟩
theorem qj(a:q)(h:ZH q->p:=by intro zq;refine KO.o7 rfl rfl rfl rfl ?_;exact zq.1):p:=h ⟨a⟩
theorem V0(a:q)(h:ZH q->p:=by intro zq;refine lb ?_;refine KO.ij (off:=0) rfl runUnderlying122 rfl rfl sizeOf120 rfl ?_;exact zq.1):p:=h ⟨a⟩
theorem vz(a:q)(h:ZH q->p:=by intro zq;refine KO.lss rfl rfl rfl ?_;exact zq.1):p:=h ⟨a⟩
theorem Ek(a:q)(h:ZH q->p:=by intro zq;refine Z1 ?_;refine lV ?_;exact zq.1):p:=h ⟨a⟩
theorem K5(a:q)(h:ZH q->p:=by intro zq;refine KR.FA bm (fun a w h=>by exact og a w h) ?_;exact zq.1):p:=h ⟨a⟩
theorem Z45(a:q)(h:ZH q->p:=by intro zq;refine KO.tA (i:=2) rfl rfl runUnderlying115 sizeOf9 rfl aj rfl ?_;refine KO.W7 rfl rfl isAgg9 (fun w' hw'=>c.at (hw'.pick aX) (i:=2) rfl) rfl ?_;exact zq.1):p:=h ⟨a⟩
theorem XD(a:q)(h:ZH q->p:=by intro zq;refine KO.nil ?_;(repeat(first|(with_reducible refine KR.seq ?_)|(with_reducible refine KQ.r_ ?_)));exact zq.1):p:=h ⟨a⟩
theorem Ru(a:q)(h:ZH q->p:=by intro zq;refine KO.ij (off:=22) rfl runUnderlying133 rfl rfl sizeOf94 rfl ?_;refine KO.mC (i:=j) rfl rfl runUnderlying94 sizeOf23 rfl ae rfl ?_;exact zq.1):p:=h ⟨a⟩
theorem Z48(a:q)(h:ZH q->p:=by intro zq;refine lb ?_;refine KO.ij (off:=3) rfl runUnderlying133 rfl rfl sizeOf4 rfl ?_;exact zq.1):p:=h ⟨a⟩
theorem OS(a:q)(h:ZH q->p:=by intro zq;refine KO.nil ?_;(repeat(first|(with_reducible refine K.seq ?_)|(with_reducible refine KQ.next ?_)|(with_reducible refine K.block ?_)));exact zq.1):p:=h ⟨a⟩
theorem qJ(a:q)(h:ZH q->p:=by intro zq;refine KO.r7 rfl Y6 rfl rfl ?_;exact zq.1):p:=h ⟨a⟩
theorem Tl(a:q)(h:ZH q->p:=by intro zq;refine IE ?_;refine KO.no rfl rfl rfl rfl ?_;exact zq.1):p:=h ⟨a⟩
theorem BD(a:q)(h:ZH q->p:=by intro zq;refine Z5 ?_;refine K.cA rfl rfl ?_;exact zq.1):p:=h ⟨a⟩
theorem vy(a:q)(h:ZH q->p:=by intro zq;refine KO.o7 rfl Y6 rfl rfl ?_;exact zq.1):p:=h ⟨a⟩
theorem Cb(a:q)(h:ZH q->p:=by intro zq;refine Z1 ?_;refine Z15 ?_;exact zq.1):p:=h ⟨a⟩
theorem XC(a:q)(h:ZH q->p:=by intro zq;refine RH ?_;refine KO.di (i:=0) rfl rfl isAgg160 aX rfl rfl rfl ?_;exact zq.1):p:=h ⟨a⟩
theorem N3(a:q)(h:ZH q->p:=by intro zq;refine KO.ij (off:=0) rfl runUnderlying256 rfl rfl sizeOf3 rfl ?_;exact zq.1):p:=h ⟨a⟩
theorem iw(a:q)(h:ZH q->p:=by intro zq;refine Z7 ?_;refine Z1 ?_;exact zq.1):p:=h ⟨a⟩
theorem iG(a:q)(h:ZH q->p:=by intro zq;refine Z2 ?_;refine kQ ?_;exact zq.1):p:=h ⟨a⟩
theorem oQ(a:q)(h:ZH q->p:=by intro zq;(repeat((with_reducible refine K.seq ?_)));exact zq.1):p:=h ⟨a⟩
theorem y4(a:q)(h:ZH q->p:=by intro zq;refine KO.r7 rfl rfl rfl rfl ?_;exact zq.1):p:=h ⟨a⟩
theorem VZ(a:q)(h:ZH q->p:=by intro zq;refine KO.ij (off:=12) rfl runUnderlying133 rfl rfl sizeOf131 rfl ?_;refine KO.mC (i:=u.toNat) rfl rfl runUnderlying131 sizeOf130 W_ ae rfl ?_;exact zq.1):p:=h ⟨a⟩
theorem vx(a:q)(h:ZH q->p:=by intro zq;refine Z8 ?_;refine Z3 ?_;exact zq.1):p:=h ⟨a⟩
theorem XB(a:q)(h:ZH q->p:=by intro zq;refine K.FA ?_;refine KO.ij (off:=6) rfl runUnderlying243 rfl rfl sizeOf3 rfl ?_;exact zq.1):p:=h ⟨a⟩
theorem Z64(a:q)(h:ZH q->p:=by intro zq;refine KO.sE (pl:=[(0,1),(1,1),(2,1),(3,1),(4,1)]) rfl zeroValue44 runUnderlying44 Y21 aL rfl ?_;exact zq.1):p:=h ⟨a⟩
theorem XA(a:q)(h:ZH q->p:=by intro zq;refine KO.ij (off:=1) rfl runUnderlying44 rfl rfl sizeOf3 rfl ?_;exact zq.1):p:=h ⟨a⟩
theorem Xz(a:q)(h:ZH q->p:=by intro zq;refine KO.eN (i:=1) rfl rfl runUnderlying115 sizeOf9 rfl aj rfl ?_;refine KO.fJ (i:=1) (sz:=1) (cf:=fI) (e:=wb) rfl rfl isAgg9 bE (fun _=>rfl) rfl aL aL rfl ?_;exact zq.1):p:=h ⟨a⟩
theorem Z67(a:q)(h:ZH q->p:=by intro zq;refine KO.ij (off:=30) rfl runUnderlying133 rfl rfl sizeOf95 rfl ?_;refine KO.mC (i:=j) rfl rfl runUnderlying95 sizeOf3 rfl ae rfl ?_;exact zq.1):p:=h ⟨a⟩
theorem VY(a:q)(h:ZH q->p:=by intro zq;(repeat(first|(with_reducible refine K.seq ?_)|(with_reducible refine KQ.next ?_)|(with_reducible refine KQ.gS ?_)|(with_reducible refine K.skip ?_)));exact zq.1):p:=h ⟨a⟩
theorem Z69(a:q)(h:ZH q->p:=by intro zq;refine Z1 ?_;refine KO.nil ?_;exact zq.1):p:=h ⟨a⟩
theorem N2(a:q)(h:ZH q->p:=by intro zq;refine Cb ?_;refine Z8 ?_;exact zq.1):p:=h ⟨a⟩
theorem Tk(a:q)(h:ZH q->p:=by intro zq;refine lb ?_;refine KO.ij (off:=2) rfl runUnderlying164 rfl rfl sizeOf162 rfl ?_;exact zq.1):p:=h ⟨a⟩
theorem K4(a:q)(h:ZH q->p:=by intro zq;refine Z2 ?_;refine Z36 ?_;exact zq.1):p:=h ⟨a⟩
theorem sG(a:q)(h:ZH q->p:=by intro zq;refine KO.on rfl rfl rfl ?_;exact zq.1):p:=h ⟨a⟩
theorem Rs(a:q)(h:ZH q->p:=by intro zq;refine KO.sE (pl:=[(0,1),(1,1),(2,1),(3,1)]) rfl zeroValue256 runUnderlying256 Y15 aL rfl ?_;exact zq.1):p:=h ⟨a⟩
theorem Z75(a:q)(h:ZH q->p:=by intro zq;refine KO.eN (i:=0) rfl rfl runUnderlying23 sizeOf3 rfl aj rfl ?_;refine KO.fJ (i:=0) (sz:=1) (cf:=cR) (e:=(j:Int)) rfl rfl isAgg3 aX (fun _=>rfl) rfl aL aL rfl ?_;exact zq.1):p:=h ⟨a⟩
theorem Z76(a:q)(h:ZH q->p:=by intro zq;refine uS ?_;refine Z69 ?_;exact zq.1):p:=h ⟨a⟩
theorem uh(a:q)(h:ZH q->p:=by intro zq;refine KO.geq rfl rfl rfl ?_;exact zq.1):p:=h ⟨a⟩
theorem oY(a:q)(h:ZH q->p:=by intro zq;refine KO.not rfl rfl ?_;exact zq.1):p:=h ⟨a⟩
theorem K3(a:q)(h:ZH q->p:=by intro zq;refine Hf ?_;refine Hf ?_;exact zq.1):p:=h ⟨a⟩
theorem BB(a:q)(h:ZH q->p:=by intro zq;refine Z5 ?_;refine K.cP rfl rfl ?_;exact zq.1):p:=h ⟨a⟩
theorem Z81(a:q)(h:ZH q->p:=by intro zq;(repeat(first|(with_reducible refine KQ.r_ ?_)|(with_reducible refine KQ.mQ ?_)|(with_reducible refine KQ.wo ?_)|(with_reducible refine KR.ret ?_)));refine KQ.conv (fun w hw=>hw.all (M:=L2 b4 b3 b2 v (cz 70 3) xs++N) Y5) ?_;exact zq.1):p:=h ⟨a⟩
theorem Z82(a:q)(h:ZH q->p:=by intro zq;refine lb ?_;refine KO.ij (off:=2) rfl runUnderlying133 rfl rfl sizeOf3 rfl ?_;exact zq.1):p:=h ⟨a⟩
theorem Z83(a:q)(h:ZH q->p:=by intro zq;refine KO.ij (off:=1) rfl runUnderlying256 rfl rfl sizeOf3 rfl ?_;exact zq.1):p:=h ⟨a⟩
theorem E9(a:q)(h:ZH q->p:=by intro zq;refine Z0 ?_;refine K.FA ?_;exact zq.1):p:=h ⟨a⟩
theorem K2(a:q)(h:ZH q->p:=by intro zq;refine KO.lC rfl rfl rfl aL IG aL bE aL ?_;exact zq.1):p:=h ⟨a⟩
theorem Z88(a:q)(h:ZH q->p:=by intro zq;refine KO.ij (off:=6) rfl runUnderlying133 rfl rfl sizeOf125 rfl ?_;exact zq.1):p:=h ⟨a⟩
theorem ID(a:q)(h:ZH q->p:=by intro zq;refine KO.di (i:=1) rfl rfl isAgg161 aX rfl rfl rfl ?_;exact zq.1):p:=h ⟨a⟩
theorem Xy(a:q)(h:ZH q->p:=by intro zq;refine K.draw [.pure,.pure,.pure,.read,.cx,.pure,.pure,.read,.write,.write] [0,1,2,3,5,6,7,4,8,9] bm bm ?_;refine jh ?_;exact zq.1):p:=h ⟨a⟩
theorem E8(a:q)(h:ZH q->p:=by intro zq;refine KO.ld rfl rfl isAgg3 aX aL rfl ?_;exact zq.1):p:=h ⟨a⟩
theorem Rq(a:q)(h:ZH q->p:=by intro zq;refine KO.ij (off:=3) rfl runUnderlying44 rfl rfl sizeOf9 rfl ?_;exact zq.1):p:=h ⟨a⟩
theorem IC(a:q)(h:ZH q->p:=by intro zq;refine KO.eqI rfl rfl rfl ?_;exact zq.1):p:=h ⟨a⟩
theorem Tj(a:q)(h:ZH q->p:=by intro zq;refine KO.eN rfl rfl runUnderlying120 sizeOf243 aL ae rfl ?_;exact zq.1):p:=h ⟨a⟩
theorem Ti(a:q)(h:ZH q->p:=by intro zq;refine KO.lC rfl rfl rfl aL Y47 aL aX aL ?_;refine KO.lC rfl rfl rfl aL Y48 aL aX aL ?_;exact zq.1):p:=h ⟨a⟩
theorem N1(a:q)(h:ZH q->p:=by intro zq;refine KO.len rfl underlying115 rfl ?_;refine KO.neI rfl rfl rfl ?_;exact zq.1):p:=h ⟨a⟩
theorem Z97(a:q)(h:ZH q->p:=by intro zq;(repeat(first|(with_reducible refine KQ.next ?_)|(with_reducible refine KQ.iZ ?_)|(with_reducible refine KQ.kD ?_)|(with_reducible refine KQ.gS ?_)|(with_reducible refine K.exit ?_)));exact zq.1):p:=h ⟨a⟩
theorem VX(a:q)(h:ZH q->p:=by intro zq;refine KO.eN (i:=1) rfl rfl runUnderlying23 sizeOf3 rfl aj rfl ?_;exact zq.1):p:=h ⟨a⟩
theorem Z99(a:q)(h:ZH q->p:=by intro zq;refine KO.eN (i:=0) rfl rfl runUnderlying23 sizeOf3 rfl aj rfl ?_;refine KO.fJ (i:=0) (sz:=1) (cf:=cR) (e:=k) rfl rfl isAgg3 aX (fun _=>rfl) rfl aj aL rfl ?_;exact zq.1):p:=h ⟨a⟩
theorem WI(a:q)(h:ZH q->p:=by intro zq;refine Z48 ?_;refine KO.di (i:=3) rfl rfl isAgg4 bE rfl rfl rfl ?_;exact zq.1):p:=h ⟨a⟩
theorem RZ(a:q)(h:ZH q->p:=by intro zq;refine KO.eN (i:=j) rfl rfl runUnderlying161 sizeOf25 rfl lY rfl ?_;refine KO.fJ (i:=j) (sz:=1) (cf:=oV) (e:=p.2) rfl rfl isAgg25 aX (fun _=>rfl) kJ aj aL rfl ?_;exact zq.1):p:=h ⟨a⟩
theorem On(a:q)(h:ZH q->p:=by intro zq;refine lb ?_;refine KO.ij (off:=8) rfl runUnderlying133 rfl rfl sizeOf126 rfl ?_;exact zq.1):p:=h ⟨a⟩
theorem lg(a:q)(h:ZH q->p:=by intro zq;refine Z1 ?_;refine IE ?_;exact zq.1):p:=h ⟨a⟩
theorem iH(a:q)(h:ZH q->p:=by intro zq;refine Z8 ?_;refine Z5 ?_;exact zq.1):p:=h ⟨a⟩
theorem Kq(a:q)(h:ZH q->p:=by intro zq;refine K.FA ?_;refine Z76 ?_;exact zq.1):p:=h ⟨a⟩
theorem yD(a:q)(h:ZH q->p:=by intro zq;refine KO.nil ?_;(repeat((with_reducible refine KQ.gS ?_)));exact zq.1):p:=h ⟨a⟩
theorem gU(a:q)(h:ZH q->p:=by intro zq;refine Z2 ?_;refine Z1 ?_;exact zq.1):p:=h ⟨a⟩
theorem qo(a:q)(h:ZH q->p:=by intro zq;refine KO.adb rfl bm rfl ?_;exact zq.1):p:=h ⟨a⟩
theorem pF(a:q)(h:ZH q->p:=by intro zq;refine lV ?_;refine vG ?_;refine lV ?_;exact zq.1):p:=h ⟨a⟩
theorem RV(a:q)(h:ZH q->p:=by intro zq;refine K.draw [.pure,.pure,.pure,.read,.cx,.cx,.pure,.read,.cx,.pure,.pure,.read,.write,.write] [0,1,2,3,9,10,11,4,5,6,7,8,12,13] bm bm ?_;refine jh ?_;exact zq.1):p:=h ⟨a⟩
theorem ES(a:q)(h:ZH q->p:=by intro zq;(repeat(first|(with_reducible refine KQ.next ?_)|(with_reducible refine K.skip ?_)));exact zq.1):p:=h ⟨a⟩
theorem Hk(a:q)(h:ZH q->p:=by intro zq;refine Tm ?_;refine KO.no rfl rfl Y6 rfl ?_;exact zq.1):p:=h ⟨a⟩
theorem ER(a:q)(h:ZH q->p:=by intro zq;refine KO.ij (off:=4) rfl runUnderlying44 rfl rfl sizeOf3 rfl ?_;exact zq.1):p:=h ⟨a⟩
theorem qn(a:q)(h:ZH q->p:=by intro zq;refine KO.ld rfl rfl isAgg9 bE aL rfl ?_;exact zq.1):p:=h ⟨a⟩
theorem RU(a:q)(h:ZH q->p:=by intro zq;refine KO.tA (i:=3) rfl rfl runUnderlying115 sizeOf9 rfl aj rfl ?_;refine KO.W7 rfl rfl isAgg9 (fun w' hw'=>c.at (hw'.pick aX) (i:=3) rfl) rfl ?_;exact zq.1):p:=h ⟨a⟩
theorem nG(a:q)(h:ZH q->p:=by intro zq;refine KO.cat rfl rfl ae rfl ?_;exact zq.1):p:=h ⟨a⟩
theorem jY(a:q)(h:ZH q->p:=by intro zq;refine N2 ?_;refine kQ ?_;exact zq.1):p:=h ⟨a⟩
theorem rE(a:q)(h:ZH q->p:=by intro zq;refine KO.ld rfl rfl isAgg9 aX aL rfl ?_;exact zq.1):p:=h ⟨a⟩
theorem RT(a:q)(h:ZH q->p:=by intro zq;refine KO.ij (off:=26) rfl runUnderlying133 rfl rfl sizeOf95 rfl ?_;refine KO.mC (i:=j) rfl rfl runUnderlying95 sizeOf3 rfl ae rfl ?_;exact zq.1):p:=h ⟨a⟩
theorem gZ(a:q)(h:ZH q->p:=by intro zq;refine Z2 ?_;refine vz ?_;refine Z0 ?_;exact zq.1):p:=h ⟨a⟩
theorem EP(a:q)(h:ZH q->p:=by intro zq;refine KO.ij (off:=3) rfl runUnderlying256 rfl rfl sizeOf49 rfl ?_;exact zq.1):p:=h ⟨a⟩
theorem EO(a:q)(h:ZH q->p:=by intro zq;refine KO.ij (off:=7) rfl runUnderlying243 rfl rfl sizeOf3 rfl ?_;exact zq.1):p:=h ⟨a⟩
theorem EM(a:q)(h:ZH q->p:=by intro zq;refine KO.ij (off:=0) rfl runUnderlying133 rfl rfl sizeOf3 rfl ?_;exact zq.1):p:=h ⟨a⟩
theorem WH(a:q)(h:ZH q->p:=by intro zq;refine K.draw [.pure,.read,.pure,.pure,.pure,.pure,.pure,.read,.pure,.read,.read,.pure,.pure] [0,1,2,3,4,5,6,7,8,9,10,11,12] bm bm ?_;refine KO.ij (off:=1) rfl runUnderlying75 rfl rfl sizeOf9 rfl ?_;exact zq.1):p:=h ⟨a⟩
theorem jf(a:q)(h:ZH q->p:=by intro zq;refine E9 ?_;refine fK ?_;exact zq.1):p:=h ⟨a⟩
theorem BY(a:q)(h:ZH q->p:=by intro zq;refine KO.len rfl underlying49 rfl ?_;exact zq.1):p:=h ⟨a⟩
theorem WG(a:q)(h:ZH q->p:=by intro zq;refine K.draw [.pure,.pure,.pure,.read,.cx,.cx,.pure,.read,.cx,.pure,.pure,.read,.write,.pure,.pure,.pure,.pure,.pure] [0,1,2,3,9,10,11,4,5,6,7,8,12,13,14,15,16,17] bm bm ?_;refine jh ?_;exact zq.1):p:=h ⟨a⟩
theorem WE(a:q)(h:ZH q->p:=by intro zq;refine KO.fJ (i:=1) (sz:=1) (cf:=cR) (e:=h) rfl rfl isAgg3 bE (fun _=>rfl) rfl aj aL rfl ?_;refine KO.sE (pl:=[(0,1),(1,1),(2,1)]) rfl zeroValue75 runUnderlying75 Y21 aL rfl ?_;exact zq.1):p:=h ⟨a⟩
theorem lf(a:q)(h:ZH q->p:=by intro zq;refine Z1 ?_;refine Tn ?_;exact zq.1):p:=h ⟨a⟩
theorem uo(a:q)(h:ZH q->p:=by intro zq;refine Ek ?_;refine Ek ?_;exact zq.1):p:=h ⟨a⟩
theorem BX(a:q)(h:ZH q->p:=by intro zq;refine Z7 ?_;refine vz ?_;exact zq.1):p:=h ⟨a⟩
theorem um(a:q)(h:ZH q->p:=by intro zq;refine Z14 ?_;refine Kq ?_;exact zq.1):p:=h ⟨a⟩
theorem BW(a:q)(h:ZH q->p:=by intro zq;refine V0 ?_;refine KO.ld rfl rfl isAgg120 aX aL rfl ?_;exact zq.1):p:=h ⟨a⟩
theorem BV(a:q)(h:ZH q->p:=by intro zq;refine KO.xA rfl rfl isAgg44 sizeOf44 aX aL rfl ?_;exact zq.1):p:=h ⟨a⟩
theorem RS(a:q)(h:ZH q->p:=by intro zq;refine KO.Uf rfl bm rfl ?_;refine Z5 ?_;exact zq.1):p:=h ⟨a⟩
theorem Om(a:q)(h:ZH q->p:=by intro zq;refine KO.di (i:=22+j) rfl rfl isAgg23 aX wz c1 rfl ?_;refine KO.len rfl underlying23 rfl ?_;exact zq.1):p:=h ⟨a⟩
theorem qm(a:q)(h:ZH q->p:=by intro zq;refine jH ?_;refine K.FA ?_;exact zq.1):p:=h ⟨a⟩
theorem Hj(a:q)(h:ZH q->p:=by intro zq;refine KO.ij (off:=0) rfl runUnderlying75 rfl rfl sizeOf9 rfl ?_;exact zq.1):p:=h ⟨a⟩
theorem WD(a:q)(h:ZH q->p:=by intro zq;refine KO.eN (i:=0) rfl rfl runUnderlying115 sizeOf9 rfl aj rfl ?_;refine KO.fJ (i:=0) (sz:=1) (cf:=fI) (e:=wa) rfl rfl isAgg9 bE (fun _=>rfl) rfl aL aL rfl ?_;exact zq.1):p:=h ⟨a⟩
theorem WC(a:q)(h:ZH q->p:=by intro zq;refine KO.eN (i:=2) rfl rfl runUnderlying115 sizeOf9 rfl aj rfl ?_;refine KO.fJ (i:=2) (sz:=1) (cf:=fI) (e:=wc) rfl rfl isAgg9 bE (fun _=>rfl) rfl aL aL rfl ?_;exact zq.1):p:=h ⟨a⟩
theorem rD(a:q)(h:ZH q->p:=by intro zq;refine Z1 ?_;refine Tl ?_;exact zq.1):p:=h ⟨a⟩
theorem rC(a:q)(h:ZH q->p:=by intro zq;refine KO.mki rfl bm rfl ?_;exact zq.1):p:=h ⟨a⟩
theorem WA(a:q)(h:ZH q->p:=by intro zq;refine K.draw [.pure,.pure,.pure,.read,.cx,.pure,.pure,.read,.pure,.pure,.pure,.read,.pure,.write,.write] [0,1,2,3,5,6,7,8,9,10,11,12,4,13,14] bm bm ?_;refine jh ?_;exact zq.1):p:=h ⟨a⟩
theorem RR(a:q)(h:ZH q->p:=by intro zq;(repeat(first|(with_reducible refine KQ.iZ ?_)|(with_reducible refine KQ.kD ?_)|(with_reducible refine K.exit ?_)));exact zq.1):p:=h ⟨a⟩
theorem EL(a:q)(h:ZH q->p:=by intro zq;refine KO.no rfl rfl uT rfl ?_;refine KO.no rfl rfl uT rfl ?_;exact zq.1):p:=h ⟨a⟩
theorem EK(a:q)(h:ZH q->p:=by intro zq;refine KO.xA rfl rfl isAgg44 sizeOf44 bE aL rfl ?_;exact zq.1):p:=h ⟨a⟩
theorem Wz(a:q)(h:ZH q->p:=by intro zq;refine KR.cA rfl rfl ?_;(repeat(first|(with_reducible refine KR.seq ?_)|(with_reducible refine KQ.r_ ?_)|(with_reducible refine KR.skip ?_)|(with_reducible refine KR.block ?_)));exact zq.1):p:=h ⟨a⟩
theorem RP(a:q)(h:ZH q->p:=by intro zq;refine K.draw [.pure,.pure,.read,.pure,.pure,.read,.cx,.cx,.pure] [0,1,2,3,4,5,6,7,8] bm bm ?_;refine Z1 ?_;exact zq.1):p:=h ⟨a⟩
theorem Hh(a:q)(h:ZH q->p:=by intro zq;refine Z1 ?_;refine Tm ?_;exact zq.1):p:=h ⟨a⟩
theorem EJ(a:q)(h:ZH q->p:=by intro zq;refine KO.nil ?_;(repeat((with_reducible refine KQ.r_ ?_)));exact zq.1):p:=h ⟨a⟩
theorem Kp(a:q)(h:ZH q->p:=by intro zq;refine pF ?_;refine KO.leq rfl rfl rfl ?_;exact zq.1):p:=h ⟨a⟩
theorem jX(a:q)(h:ZH q->p:=by intro zq;refine Z2 ?_;refine Z8 ?_;exact zq.1):p:=h ⟨a⟩
theorem Ko(a:q)(h:ZH q->p:=by intro zq;refine KO.ij (off:=0) rfl runUnderlying243 rfl rfl sizeOf44 rfl ?_;exact zq.1):p:=h ⟨a⟩
theorem Ol(a:q)(h:ZH q->p:=by intro zq;refine lb ?_;refine KO.ij (off:=301) rfl runUnderlying28 rfl rfl sizeOf3 rfl ?_;exact zq.1):p:=h ⟨a⟩
theorem pE(a:q)(h:ZH q->p:=by intro zq;refine RY ?_;refine K.FA ?_;exact zq.1):p:=h ⟨a⟩
theorem Kn(a:q)(h:ZH q->p:=by intro zq;refine Z82 ?_;refine KO.di (i:=2) rfl rfl isAgg3 bE rfl rfl rfl ?_;exact zq.1):p:=h ⟨a⟩
theorem Oj(a:q)(h:ZH q->p:=by intro zq;refine lb ?_;refine KO.ij (off:=5) rfl runUnderlying133 rfl rfl sizeOf3 rfl ?_;exact zq.1):p:=h ⟨a⟩
theorem vI(a:q)(h:ZH q->p:=by intro zq;(repeat((with_reducible refine K.skip ?_)));exact zq.1):p:=h ⟨a⟩
theorem Oi(a:q)(h:ZH q->p:=by intro zq;refine KO.no2 rfl rfl rfl ?_;refine KO.no2 rfl rfl rfl ?_;exact zq.1):p:=h ⟨a⟩
theorem l3(a:q)(h:ZH q->p:=by intro zq;refine K4 ?_;refine vx ?_;exact zq.1):p:=h ⟨a⟩
theorem Wy(a:q)(h:ZH q->p:=by intro zq;refine KO.ij (off:=300) rfl runUnderlying28 rfl rfl sizeOf4 rfl ?_;refine KO.di (i:=300) rfl rfl isAgg4 .head rfl (by rw[QX h3,hcut]) rfl ?_;exact zq.1):p:=h ⟨a⟩
theorem EI(a:q)(h:ZH q->p:=by intro zq;(repeat((with_reducible refine KR.seq ?_)));refine K5 ?_;exact zq.1):p:=h ⟨a⟩
theorem oz(a:q)(h:ZH q->p:=by intro zq;refine Z8 ?_;refine KO.nil ?_;exact zq.1):p:=h ⟨a⟩
theorem yC(a:q)(h:ZH q->p:=by intro zq;refine KO.len rfl underlying120 rfl ?_;exact zq.1):p:=h ⟨a⟩
theorem abo(a:q)(h:ZH q->p:=by intro zq;refine K.draw [.read,.pure,.pure,.pure,.read,.cx,.pure,.pure,.pure,.pure,.pure,.pure,.pure,.cx,.pure,.pure,.read,.read,.pure,.pure,.pure] [0,1,2,3,4,5,6,7,8,9,10,11,12,14,15,16,17,13,18,19,20] bm bm ?_;refine KO.ld (v:=aZ bh) rfl rfl isAgg29 aX aL rfl ?_;exact zq.1):p:=h ⟨a⟩
theorem zf(a:q)(h:ZH q->p:=by intro zq;refine jh ?_;refine Z1 ?_;exact zq.1):p:=h ⟨a⟩
theorem Wx(a:q)(h:ZH q->p:=by intro zq;refine KO.eN rfl rfl runUnderlying49 sizeOf44 aL ae rfl ?_;refine KO.yU rfl rfl isAgg44 sizeOf44 aX (fun _=>rfl) uT rfl ?_;exact zq.1):p:=h ⟨a⟩
theorem Ww(a:q)(h:ZH q->p:=by intro zq;refine KO.ij (off:=0) rfl runUnderlying28 rfl rfl sizeOf26 rfl ?_;refine KO.mC rfl rfl runUnderlying26 sizeOf9 rfl ae rfl ?_;exact zq.1):p:=h ⟨a⟩
theorem RO(a:q)(h:ZH q->p:=by intro zq;refine KO.di (i:=0) rfl rfl isAgg160 bE rfl rfl rfl ?_;refine KO.len rfl underlying160 rfl ?_;exact zq.1):p:=h ⟨a⟩
theorem sL(a:q)(h:ZH q->p:=by intro zq;refine y4 ?_;refine BD ?_;exact zq.1):p:=h ⟨a⟩
theorem Wv(a:q)(h:ZH q->p:=by intro zq;refine lb ?_;refine KO.ij (off:=0) rfl runUnderlying196 rfl rfl sizeOf55 rfl ?_;refine KO.di (i:=0) rfl rfl isAgg55 aX rfl rfl rfl ?_;exact zq.1):p:=h ⟨a⟩
theorem Wu(a:q)(h:ZH q->p:=by intro zq;refine Z1 ?_;refine KO.mkc rfl rfl rfl ?_;refine KO.ins fj _ rfl rfl rfl rfl underlying360 underlying9 bE ?_;exact zq.1):p:=h ⟨a⟩
theorem RN(a:q)(h:ZH q->p:=by intro zq;refine On ?_;refine KO.mC (i:=j) rfl rfl runUnderlying126 sizeOf119 rfl ae rfl ?_;exact zq.1):p:=h ⟨a⟩
theorem oR(a:q)(h:ZH q->p:=by intro zq;refine Z6 ?_;refine K.FA ?_;exact zq.1):p:=h ⟨a⟩
theorem BU(a:q)(h:ZH q->p:=by intro zq;refine lg ?_;refine IE ?_;exact zq.1):p:=h ⟨a⟩
theorem BT(a:q)(h:ZH q->p:=by intro zq;refine BX ?_;refine uo ?_;exact zq.1):p:=h ⟨a⟩
theorem abn(a:q)(h:ZH q->p:=by intro zq;refine K.draw [.pure,.pure,.pure,.read,.cx,.pure,.pure,.read,.pure,.pure,.read,.pure,.pure,.read,.pure,.pure,.read,.write,.pure,.pure,.pure,.pure,.pure] [0,1,2,3,5,6,7,8,9,10,11,12,13,14,15,16,4,17,18,19,20,21,22] bm bm ?_;refine jh ?_;exact zq.1):p:=h ⟨a⟩
theorem yB(a:q)(h:ZH q->p:=by intro zq;refine KO.gtr rfl rfl rfl ?_;exact zq.1):p:=h ⟨a⟩
theorem nE(a:q)(h:ZH q->p:=by intro zq;refine Z8 ?_;refine fK ?_;exact zq.1):p:=h ⟨a⟩
theorem sK(a:q)(h:ZH q->p:=by intro zq;refine KO.on rfl rfl uT ?_;exact zq.1):p:=h ⟨a⟩
theorem abm(a:q)(h:ZH q->p:=by intro zq;refine Z1 ?_;refine KO.eN (i:=2) rfl rfl runUnderlying23 sizeOf3 rfl aj rfl ?_;exact zq.1):p:=h ⟨a⟩
theorem mG(a:q)(h:ZH q->p:=by intro zq;refine Z6 ?_;refine Z7 ?_;exact zq.1):p:=h ⟨a⟩
theorem ze(a:q)(h:ZH q->p:=by intro zq;refine KO.Yv rfl underlying9 rfl ?_;exact zq.1):p:=h ⟨a⟩
theorem Km(a:q)(h:ZH q->p:=by intro zq;refine rC ?_;refine KO.lC rfl rfl rfl aL Ot aL aX aL ?_;exact zq.1):p:=h ⟨a⟩
theorem Oh(a:q)(h:ZH q->p:=by intro zq;refine KO.ij (off:=2) rfl runUnderlying256 rfl rfl sizeOf4 rfl ?_;exact zq.1):p:=h ⟨a⟩
theorem Og(a:q)(h:ZH q->p:=by intro zq;refine KO.fo (off:=7) rfl runUnderlying243 rfl rfl sizeOf3 rfl ?_;exact zq.1):p:=h ⟨a⟩
theorem Oe(a:q)(h:ZH q->p:=by intro zq;refine KO.ij (off:=2) rfl runUnderlying44 rfl rfl sizeOf9 rfl ?_;exact zq.1):p:=h ⟨a⟩
theorem pD(a:q)(h:ZH q->p:=by intro zq;refine N2 ?_;refine jH ?_;exact zq.1):p:=h ⟨a⟩
theorem zd(a:q)(h:ZH q->p:=by intro zq;refine uh ?_;refine vy ?_;exact zq.1):p:=h ⟨a⟩
theorem Hg(a:q)(h:ZH q->p:=by intro zq;refine Wv ?_;refine Z1 ?_;exact zq.1):p:=h ⟨a⟩
theorem EH(a:q)(h:ZH q->p:=by intro zq;refine KO.lC rfl rfl rfl aL IG aL aX aL ?_;exact zq.1):p:=h ⟨a⟩
theorem nD(a:q)(h:ZH q->p:=by intro zq;refine Z8 ?_;refine Z9 ?_;exact zq.1):p:=h ⟨a⟩
theorem EG(a:q)(h:ZH q->p:=by intro zq;refine KO.ld rfl rfl isAgg49 bE aL rfl ?_;exact zq.1):p:=h ⟨a⟩
theorem zc(a:q)(h:ZH q->p:=by intro zq;refine KO.ada rfl bm rfl ?_;exact zq.1):p:=h ⟨a⟩
theorem BS(a:q)(h:ZH q->p:=by intro zq;refine KO.len rfl underlying162 rfl ?_;exact zq.1):p:=h ⟨a⟩
theorem vH(a:q)(h:ZH q->p:=by intro zq;refine Z2 ?_;refine vx ?_;exact zq.1):p:=h ⟨a⟩
theorem Od(a:q)(h:ZH q->p:=by intro zq;refine Z7 ?_;refine oY ?_;exact zq.1):p:=h ⟨a⟩
theorem rB(a:q)(h:ZH q->p:=by intro zq;refine KO.Nx rfl aL rfl ?_;exact zq.1):p:=h ⟨a⟩
theorem oy(a:q)(h:ZH q->p:=by intro zq;refine Z0 ?_;refine Z7 ?_;exact zq.1):p:=h ⟨a⟩
theorem BR(a:q)(h:ZH q->p:=by intro zq;refine KO.len rfl underlying23 rfl ?_;exact zq.1):p:=h ⟨a⟩
theorem RM(a:q)(h:ZH q->p:=by intro zq;refine K.conv (fun w hw=>ew z_ tN (hw.pick (A:=ck dB V.bs H.batch) aX)) ?_;exact zq.1):p:=h ⟨a⟩
theorem EF(a:q)(h:ZH q->p:=by intro zq;refine qj ?_;refine K3 ?_;exact zq.1):p:=h ⟨a⟩
theorem abl(a:q)(h:ZH q->p:=by intro zq;refine KO.eN (i:=j) rfl rfl runUnderlying160 sizeOf29 rfl lY rfl ?_;refine KO.XS (i:=j) (j:=0) (sz:=1) (cf:=oV) (us:=[aZ bh]) rfl rfl rfl aL (by exact sizeOf29) aL aX (fun _=>rfl) mD rfl bh rfl ?_;exact zq.1):p:=h ⟨a⟩
theorem abk(a:q)(h:ZH q->p:=by intro zq;(repeat(first|(with_reducible refine K.seq ?_)|(with_reducible refine KQ.next ?_)|(with_reducible refine KQ.iZ ?_)|(with_reducible refine KQ.kD ?_)|(refine KQ.Ec rfl ?_)|(with_reducible refine K.exit ?_)));exact zq.1):p:=h ⟨a⟩
theorem Wt(a:q)(h:ZH q->p:=by intro zq;refine jH ?_;refine K.draw [.pure,.pure,.pure,.pure,.pure,.pure,.write,.pure] [0,1,2,3,4,5,6,7] bm bm ?_;exact zq.1):p:=h ⟨a⟩
theorem abj(a:q)(h:ZH q->p:=by intro zq;refine K.draw [.pure,.read,.read,.pure,.pure,.read,.pure,.pure,.pure,.read,.pure,.read,.pure,.pure,.read,.pure,.pure,.pure] [0,1,2,3,4,5,6,7,8,9,10,11,12,13,14,15,16,17] bm bm ?_;refine ER ?_;exact zq.1):p:=h ⟨a⟩
theorem Ws(a:q)(h:ZH q->p:=by intro zq;refine Tj ?_;refine KO.Jp (cs:=(lZ e).toArray) rfl rfl isAgg243 sizeOf243 rfl (hc g rfl k e he) rfl ?_;exact zq.1):p:=h ⟨a⟩
theorem rA(a:q)(h:ZH q->p:=by intro zq;(repeat(first|(with_reducible refine KQ.next ?_)|(with_reducible refine KQ.gS ?_)|(with_reducible refine K.skip ?_)));refine K.FA ?_;refine Z76 ?_;exact zq.1):p:=h ⟨a⟩
theorem rz(a:q)(h:ZH q->p:=by intro zq;refine Z8 ?_;refine um ?_;exact zq.1):p:=h ⟨a⟩
theorem Oc(a:q)(h:ZH q->p:=by intro zq;refine qJ ?_;refine Ek ?_;exact zq.1):p:=h ⟨a⟩
theorem BQ(a:q)(h:ZH q->p:=by intro zq;refine qj ?_;refine Z5 ?_;exact zq.1):p:=h ⟨a⟩
theorem qk(a:q)(h:ZH q->p:=by intro zq;refine K4 ?_;refine Z3 ?_;exact zq.1):p:=h ⟨a⟩
theorem He(a:q)(h:ZH q->p:=by intro zq;refine Hh ?_;refine Tm ?_;exact zq.1):p:=h ⟨a⟩
theorem sJ(a:q)(h:ZH q->p:=by intro zq;refine rD ?_;refine qj ?_;exact zq.1):p:=h ⟨a⟩
theorem Wr(a:q)(h:ZH q->p:=by intro zq;refine KR.cP rfl rfl ?_;(repeat(first|(with_reducible refine KQ.r_ ?_)|(with_reducible refine KR.skip ?_)));exact zq.1):p:=h ⟨a⟩
theorem yA(a:q)(h:ZH q->p:=by intro zq;refine Od ?_;refine K3 ?_;exact zq.1):p:=h ⟨a⟩
theorem abi(a:q)(h:ZH q->p:=by intro zq;refine pD ?_;refine K.draw [.pure,.pure,.pure,.pure,.pure,.pure,.read,.pure,.pure,.read,.cx,.pure,.pure,.write,.pure,.pure,.pure] [0,1,2,3,4,5,6,7,8,9,11,10,12,13,14,15,16] bm bm ?_;exact zq.1):p:=h ⟨a⟩
theorem RL(a:q)(h:ZH q->p:=by intro zq;refine Z67 ?_;refine KO.di (i:=30+j) rfl rfl isAgg3 bE wz d1 rfl ?_;exact zq.1):p:=h ⟨a⟩
theorem Wq(a:q)(h:ZH q->p:=by intro zq;refine KO.fJ (i:=0) (sz:=1) (cf:=fI) (e:=wa) rfl rfl isAgg9 aX (fun _=>rfl) rfl aL aL rfl ?_;exact zq.1):p:=h ⟨a⟩
theorem Wp(a:q)(h:ZH q->p:=by intro zq;refine KO.nil ?_;(repeat(first|(with_reducible refine KQ.r_ ?_)|(with_reducible refine KQ.gS ?_)));exact zq.1):p:=h ⟨a⟩
theorem RJ(a:q)(h:ZH q->p:=by intro zq;refine KO.ij (off:=7) rfl runUnderlying133 rfl rfl sizeOf123 rfl ?_;exact zq.1):p:=h ⟨a⟩
theorem abh(a:q)(h:ZH q->p:=by intro zq;refine KO.eN (i:=k) rfl rfl runUnderlying160 sizeOf29 rfl ae rfl ?_;refine KO.fJ (i:=k) (sz:=1) (cf:=oV) (e:=p.1) rfl rfl isAgg29 aX (fun _=>rfl) mD aj aL rfl ?_;exact zq.1):p:=h ⟨a⟩
theorem RI(a:q)(h:ZH q->p:=by intro zq;refine Tk ?_;refine KO.di (i:=2) rfl rfl isAgg162 bE rfl rfl rfl ?_;exact zq.1):p:=h ⟨a⟩
theorem abg(a:q)(h:ZH q->p:=by intro zq;refine K.draw [.pure,.pure,.pure,.pure,.pure,.pure,.pure,.pure,.pure,.read,.read,.write,.pure,.pure,.pure,.pure] [0,1,2,3,4,5,6,7,8,9,10,11,12,13,14,15] bm bm ?_;refine zf ?_;exact zq.1):p:=h ⟨a⟩
theorem uk(a:q)(h:ZH q->p:=by intro zq;refine Z1 ?_;refine lb ?_;exact zq.1):p:=h ⟨a⟩
theorem abf(a:q)(h:ZH q->p:=by intro zq;refine KO.eN (i:=1) rfl rfl runUnderlying115 sizeOf9 rfl ai rfl ?_;refine KO.fJ (i:=1) (sz:=1) (cf:=fI) (e:=wb) rfl rfl isAgg9 aX (fun _=>rfl) rfl aL aL rfl ?_;exact zq.1):p:=h ⟨a⟩
theorem abe(a:q)(h:ZH q->p:=by intro zq;refine KO.eN (i:=4) rfl rfl runUnderlying115 sizeOf9 rfl ai rfl ?_;refine KO.fJ (i:=4) (sz:=1) (cf:=fI) (e:=we) rfl rfl isAgg9 aX (fun _=>rfl) rfl aL aL rfl ?_;exact zq.1):p:=h ⟨a⟩
theorem abd(a:q)(h:ZH q->p:=by intro zq;refine KO.eN (i:=j) rfl rfl runUnderlying160 sizeOf29 rfl lY rfl ?_;refine KO.fJ (i:=j) (sz:=1) (cf:=oV) (e:=p.1) rfl rfl isAgg29 aX (fun _=>rfl) mD aj aL rfl ?_;exact zq.1):p:=h ⟨a⟩
theorem abb(a:q)(h:ZH q->p:=by intro zq;refine KO.eN (i:=m) rfl rfl runUnderlying160 sizeOf29 rfl lY rfl ?_;refine KO.fJ (i:=m) (sz:=1) (cf:=oV) (e:=p.1) rfl rfl isAgg29 aX (fun _=>rfl) mD aj aL rfl ?_;exact zq.1):p:=h ⟨a⟩
theorem aa_(a:q)(h:ZH q->p:=by intro zq;refine KO.eN (i:=k) rfl rfl runUnderlying152 sizeOf119 rfl lY rfl ?_;refine KO.fJ (i:=k) (sz:=1) (cf:=AV) (e:=p) rfl rfl isAgg119 .head (fun _=>rfl) hpj aL aL rfl ?_;exact zq.1):p:=h ⟨a⟩
theorem vF(a:q)(h:ZH q->p:=by intro zq;refine K.FA ?_;refine KO.eqS rfl rfl rfl ?_;refine iH ?_;exact zq.1):p:=h ⟨a⟩
theorem aa9(a:q)(h:ZH q->p:=by intro zq;refine K.draw [.pure,.pure,.pure,.read,.pure,.pure,.read,.pure,.pure,.read,.pure,.pure,.read,.write,.write] [0,1,2,3,4,5,6,7,8,9,10,11,12,13,14] bm bm ?_;refine Z1 ?_;exact zq.1):p:=h ⟨a⟩
theorem EE(a:q)(h:ZH q->p:=by intro zq;refine RY ?_;refine Z7 ?_;exact zq.1):p:=h ⟨a⟩
theorem sI(a:q)(h:ZH q->p:=by intro zq;refine IC ?_;refine Z5 ?_;exact zq.1):p:=h ⟨a⟩
theorem ry(a:q)(h:ZH q->p:=by intro zq;refine Z8 ?_;refine Z8 ?_;exact zq.1):p:=h ⟨a⟩
theorem ED(a:q)(h:ZH q->p:=by intro zq;refine Z7 ?_;refine lb ?_;exact zq.1):p:=h ⟨a⟩
theorem Hd(a:q)(h:ZH q->p:=by intro zq;refine Z1 ?_;refine KO.eN (i:=1) rfl rfl runUnderlying23 sizeOf3 rfl aj rfl ?_;refine KO.fJ (i:=1) (sz:=1) (cf:=cR) (e:=u) rfl rfl isAgg3 bE (fun _=>rfl) rfl aj aL rfl ?_;exact zq.1):p:=h ⟨a⟩
theorem RG(a:q)(h:ZH q->p:=by intro zq;refine Z1 ?_;refine KO.tA (i:=1) rfl rfl runUnderlying115 sizeOf9 rfl aj rfl ?_;refine KO.W7 rfl rfl isAgg9 (fun w' hw'=>c.at (hw'.pick aX) (i:=1) rfl) rfl ?_;exact zq.1):p:=h ⟨a⟩
theorem Kl(a:q)(h:ZH q->p:=by intro zq;refine OT ?_;refine vG ?_;exact zq.1):p:=h ⟨a⟩
theorem Hc(a:q)(h:ZH q->p:=by intro zq;refine KO.len rfl underlying115 rfl ?_;exact zq.1):p:=h ⟨a⟩
theorem Wn(a:q)(h:ZH q->p:=by intro zq;refine K.draw [.pure,.pure,.pure,.read,.read,.pure] [0,1,2,3,4,5] bm bm ?_;refine uk ?_;exact zq.1):p:=h ⟨a⟩
theorem vE(a:q)(h:ZH q->p:=by intro zq;refine kQ ?_;refine RS ?_;exact zq.1):p:=h ⟨a⟩
theorem vD(a:q)(h:ZH q->p:=by intro zq;refine K.draw [.pure,.pure,.pure,.read,.pure,.cx,.pure,.read,.write,.write] [0,1,2,3,4,5,6,7,8,9] bm bm ?_;refine Z1 ?_;refine Hg ?_;exact zq.1):p:=h ⟨a⟩
theorem RF(a:q)(h:ZH q->p:=by intro zq;refine zf ?_;refine XC ?_;refine jh ?_;refine Z25 ?_;exact zq.1):p:=h ⟨a⟩
theorem aa7(a:q)(h:ZH q->p:=by intro zq;(repeat(first|(with_reducible refine KQ.next ?_)|(with_reducible refine KQ.iZ ?_)|(with_reducible refine KQ.kD ?_)|(with_reducible refine K.exit ?_)));refine Kq ?_;exact zq.1):p:=h ⟨a⟩
theorem aa6(a:q)(h:ZH q->p:=by intro zq;refine K.draw [.pure,.pure,.pure,.read,.cx,.pure,.pure,.read,.write,.pure,.pure,.pure,.pure,.pure] [0,1,2,3,5,6,7,4,8,9,10,11,12,13] bm bm ?_;refine jh ?_;exact zq.1):p:=h ⟨a⟩
theorem Wm(a:q)(h:ZH q->p:=by intro zq;refine KO.sE (pl:=[(0,1),(1,1)]) rfl zeroValue122 runUnderlying122 Y20 aL rfl ?_;exact zq.1):p:=h ⟨a⟩
theorem BP(a:q)(h:ZH q->p:=by intro zq;refine qJ ?_;refine Z5 ?_;exact zq.1):p:=h ⟨a⟩
theorem Ob(a:q)(h:ZH q->p:=by intro zq;refine vG ?_;refine vz ?_;exact zq.1):p:=h ⟨a⟩
theorem RD(a:q)(h:ZH q->p:=by intro zq;refine V0 ?_;refine KO.ldb hw rfl rfl isAgg120 bE aL rfl ?_;exact zq.1):p:=h ⟨a⟩
theorem vC(a:q)(h:ZH q->p:=by intro zq;refine iw ?_;refine lb ?_;exact zq.1):p:=h ⟨a⟩
theorem aa5(a:q)(h:ZH q->p:=by intro zq;refine KO.tA (i:=4) rfl rfl runUnderlying115 sizeOf9 rfl aj rfl ?_;refine KO.W7 rfl rfl isAgg9 (fun w' hw'=>c.at (hw'.pick aX) (i:=4) rfl) rfl ?_;exact zq.1):p:=h ⟨a⟩
theorem vB(a:q)(h:ZH q->p:=by intro zq;refine RH ?_;refine KO.iA (i:=0) rfl rfl rfl rfl Y44 rfl aX rfl XE ?_;refine Z25 ?_;refine KO.iA (i:=1) rfl rfl rfl rfl Y45 rfl bE rfl XE ?_;refine Z14 ?_;exact zq.1):p:=h ⟨a⟩
theorem Wl(a:q)(h:ZH q->p:=by intro zq;refine pE ?_;refine KO.eN rfl rfl runUnderlying115 sizeOf9 aL ae rfl ?_;exact zq.1):p:=h ⟨a⟩
theorem yz(a:q)(h:ZH q->p:=by intro zq;refine Oc ?_;refine XA ?_;exact zq.1):p:=h ⟨a⟩
theorem Oa(a:q)(h:ZH q->p:=by intro zq;refine qo ?_;refine K3 ?_;exact zq.1):p:=h ⟨a⟩
theorem Wj(a:q)(h:ZH q->p:=by intro zq;refine lb ?_;refine KO.ij (off:=3) rfl runUnderlying164 rfl rfl sizeOf3 rfl ?_;exact zq.1):p:=h ⟨a⟩
theorem Wi(a:q)(h:ZH q->p:=by intro zq;refine KO.ij (off:=0) rfl runUnderlying258 rfl rfl sizeOf3 rfl ?_;refine E8 ?_;exact zq.1):p:=h ⟨a⟩
theorem yx(a:q)(h:ZH q->p:=by intro zq;refine K6 ?_;refine RG ?_;exact zq.1):p:=h ⟨a⟩
theorem RC(a:q)(h:ZH q->p:=by intro zq;refine KO.xA rfl rfl isAgg243 sizeOf243 bE aL rfl ?_;exact zq.1):p:=h ⟨a⟩
theorem sH(a:q)(h:ZH q->p:=by intro zq;refine K.cA rfl rfl ?_;exact zq.1):p:=h ⟨a⟩
theorem vA(a:q)(h:ZH q->p:=by intro zq;refine K4 ?_;refine Z9 ?_;exact zq.1):p:=h ⟨a⟩
theorem dC(a:q)(h:ZH q->p:=by intro zq;refine K.FA ?_;exact zq.1):p:=h ⟨a⟩
theorem RB(a:q)(h:ZH q->p:=by intro zq;refine V0 ?_;refine KO.ld rfl rfl isAgg120 bE aL rfl ?_;exact zq.1):p:=h ⟨a⟩
theorem zb(a:q)(h:ZH q->p:=by intro zq;refine Wu ?_;refine Wu ?_;exact zq.1):p:=h ⟨a⟩
theorem aa4(a:q)(h:ZH q->p:=by intro zq;refine K.draw [.pure,.pure,.pure,.read,.pure,.pure,.read,.pure,.pure,.read,.write,.write] [0,1,2,3,4,5,6,7,8,9,10,11] bm bm ?_;refine Z1 ?_;exact zq.1):p:=h ⟨a⟩
theorem N_(a:q)(h:ZH q->p:=by intro zq;refine Z1 ?_;refine Hk ?_;exact zq.1):p:=h ⟨a⟩
theorem yw(a:q)(h:ZH q->p:=by intro zq;refine jh ?_;refine lb ?_;exact zq.1):p:=h ⟨a⟩
theorem Kk(a:q)(h:ZH q->p:=by intro zq;refine KO.sub rfl rfl rfl ae rfl ?_;exact zq.1):p:=h ⟨a⟩
theorem yv(a:q)(h:ZH q->p:=by intro zq;refine KO.eqS rfl rfl rfl ?_;exact zq.1):p:=h ⟨a⟩
theorem RA(a:q)(h:ZH q->p:=by intro zq;refine KO.ld (v:=aZ bh) rfl rfl isAgg29 aX aL rfl ?_;exact zq.1):p:=h ⟨a⟩
theorem aa3(a:q)(h:ZH q->p:=by intro zq;refine K.draw [.pure,.pure,.read,.pure,.pure,.read,.pure,.pure,.read,.cx,.cx,.pure] [0,1,2,3,4,5,6,7,8,9,10,11] bm bm ?_;refine Z1 ?_;exact zq.1):p:=h ⟨a⟩
theorem aa2(a:q)(h:ZH q->p:=by intro zq;refine iw ?_;refine KO.sE (pl:=[(0,1),(1,1)]) rfl zeroValue130 runUnderlying130 (by intro w;simp[sizeOf127,sizeOf128]) aL rfl ?_;exact zq.1):p:=h ⟨a⟩
theorem Wh(a:q)(h:ZH q->p:=by intro zq;refine KO.ldE rfl rfl isAgg3 bE (fun _=>rfl) uT aL aL rfl ?_;refine E8 ?_;exact zq.1):p:=h ⟨a⟩
theorem Kj(a:q)(h:ZH q->p:=by intro zq;refine KO.len rfl underlying86 rfl ?_;exact zq.1):p:=h ⟨a⟩
theorem za(a:q)(h:ZH q->p:=by intro zq;refine y4 ?_;refine BU ?_;exact zq.1):p:=h ⟨a⟩
theorem Wg(a:q)(h:ZH q->p:=by intro zq;refine Rq ?_;refine KO.ld (v:=.string x.queue) rfl rfl isAgg9 bE aL rfl ?_;exact zq.1):p:=h ⟨a⟩
theorem uj(a:q)(h:ZH q->p:=by intro zq;refine K.cP rfl rfl ?_;exact zq.1):p:=h ⟨a⟩
theorem yu(a:q)(h:ZH q->p:=by intro zq;refine wx ?_;refine Z7 ?_;exact zq.1):p:=h ⟨a⟩
theorem yr(a:q)(h:ZH q->p:=by intro zq;refine BB ?_;refine Z6 ?_;exact zq.1):p:=h ⟨a⟩
theorem N9(a:q)(h:ZH q->p:=by intro zq;refine KO.ld rfl rfl isAgg49 aX aL rfl ?_;exact zq.1):p:=h ⟨a⟩
theorem N8(a:q)(h:ZH q->p:=by intro zq;refine KO.ld rfl rfl isAgg29 aX aL rfl ?_;exact zq.1):p:=h ⟨a⟩
theorem BO(a:q)(h:ZH q->p:=by intro zq;refine qo ?_;refine EF ?_;exact zq.1):p:=h ⟨a⟩
theorem BN(a:q)(h:ZH q->p:=by intro zq;refine BT ?_;refine zd ?_;exact zq.1):p:=h ⟨a⟩
theorem y_(a:q)(h:ZH q->p:=by intro zq;refine sG ?_;refine oY ?_;exact zq.1):p:=h ⟨a⟩
theorem Wf(a:q)(h:ZH q->p:=by intro zq;refine KO.ZZ (off:=0) rfl runUnderlying130 rfl rfl sizeOf127 rfl ?_;exact zq.1):p:=h ⟨a⟩
theorem Wd(a:q)(h:ZH q->p:=by intro zq;refine KO.ZZ (off:=1) rfl runUnderlying130 rfl rfl sizeOf128 rfl ?_;exact zq.1):p:=h ⟨a⟩
theorem N7(a:q)(h:ZH q->p:=by intro zq;refine KO.ld rfl rfl isAgg4 bE aL rfl ?_;exact zq.1):p:=h ⟨a⟩
theorem y9(a:q)(h:ZH q->p:=by intro zq;refine KO.neI rfl rfl rfl ?_;exact zq.1):p:=h ⟨a⟩
theorem EC(a:q)(h:ZH q->p:=by intro zq;refine KO.cat rfl rfl Y18 rfl ?_;exact zq.1):p:=h ⟨a⟩
theorem aa1(a:q)(h:ZH q->p:=by intro zq;refine KQ.conv (fun w hw=>(St.wL (B:=[bD l (.loop ⟨.busy,none,fn,tm,#[p],assign,body,b⟩),bD b (.deferred (some []))]) hw)) ?_;exact zq.1):p:=h ⟨a⟩
theorem Wc(a:q)(h:ZH q->p:=by intro zq;refine Z25 ?_;refine KO.di (i:=1) rfl rfl isAgg161 bE rfl rfl rfl ?_;exact zq.1):p:=h ⟨a⟩
theorem Wb(a:q)(h:ZH q->p:=by intro zq;refine KO.ij (off:=0) rfl runUnderlying196 rfl rfl sizeOf55 rfl ?_;exact zq.1):p:=h ⟨a⟩
theorem Wa(a:q)(h:ZH q->p:=by intro zq;refine KO.ij (off:=1) rfl runUnderlying122 rfl rfl sizeOf3 rfl ?_;exact zq.1):p:=h ⟨a⟩
theorem V_(a:q)(h:ZH q->p:=by intro zq;refine KO.fo (off:=0) rfl runUnderlying125 rfl rfl sizeOf86 rfl ?_;exact zq.1):p:=h ⟨a⟩
theorem BM(a:q)(h:ZH q->p:=by intro zq;refine qm ?_;refine kQ ?_;exact zq.1):p:=h ⟨a⟩
theorem BL(a:q)(h:ZH q->p:=by intro zq;refine yB ?_;refine vy ?_;exact zq.1):p:=h ⟨a⟩
theorem BK(a:q)(h:ZH q->p:=by intro zq;refine Ek ?_;refine Z83 ?_;refine pF ?_;exact zq.1):p:=h ⟨a⟩
theorem V9(a:q)(h:ZH q->p:=by intro zq;refine KO.ij (off:=1) rfl runUnderlying75 rfl rfl sizeOf9 rfl ?_;exact zq.1):p:=h ⟨a⟩
theorem V8(a:q)(h:ZH q->p:=by intro zq;refine KO.ij (off:=2) rfl runUnderlying75 rfl rfl sizeOf3 rfl ?_;exact zq.1):p:=h ⟨a⟩
theorem y8(a:q)(h:ZH q->p:=by intro zq;refine Z2 ?_;refine jh ?_;exact zq.1):p:=h ⟨a⟩
theorem y7(a:q)(h:ZH q->p:=by intro zq;refine Z8 ?_;refine XD ?_;exact zq.1):p:=h ⟨a⟩
theorem y6(a:q)(h:ZH q->p:=by intro zq;refine Z2 ?_;refine jH ?_;exact zq.1):p:=h ⟨a⟩
theorem y5(a:q)(h:ZH q->p:=by intro zq;refine KO.on rfl rfl Y57 ?_;exact zq.1):p:=h ⟨a⟩
theorem aa0(a:q)(h:ZH q->p:=by intro zq;refine KO.fJ (i:=1) (sz:=1) (cf:=cR) (e:=n) rfl rfl isAgg3 aX (fun _=>rfl) rfl aj aL rfl ?_;refine abm ?_;refine KO.fJ (i:=2) (sz:=1) (cf:=cR) (e:=t) rfl rfl isAgg3 aX (fun _=>rfl) rfl aj aL rfl ?_;exact zq.1):p:=h ⟨a⟩
theorem aaZ(a:q)(h:ZH q->p:=by intro zq;refine abm ?_;refine KO.fJ (i:=2) (sz:=1) (cf:=cR) (e:=r) rfl rfl isAgg3 bE (fun _=>rfl) rfl aj aL rfl ?_;exact zq.1):p:=h ⟨a⟩
theorem aaY(a:q)(h:ZH q->p:=by intro zq;refine VX ?_;refine KO.fJ (i:=1) (sz:=1) (cf:=cR) (e:=d) rfl rfl isAgg3 aX (fun _=>rfl) rfl aj aL rfl ?_;exact zq.1):p:=h ⟨a⟩
theorem aaX(a:q)(h:ZH q->p:=by intro zq;refine VX ?_;refine KO.fJ (i:=1) (sz:=1) (cf:=cR) (e:=d) rfl rfl isAgg3 bE (fun _=>rfl) rfl aj aL rfl ?_;exact zq.1):p:=h ⟨a⟩
theorem EB(a:q)(h:ZH q->p:=by intro zq;refine K5 ?_;refine jh ?_;exact zq.1):p:=h ⟨a⟩
theorem BJ(a:q)(h:ZH q->p:=by intro zq;refine RF ?_;refine Z1 ?_;exact zq.1):p:=h ⟨a⟩
theorem EA(a:q)(h:ZH q->p:=by intro zq;refine BY ?_;refine lf ?_;exact zq.1):p:=h ⟨a⟩
theorem Ez(a:q)(h:ZH q->p:=by intro zq;refine Hf ?_;refine KO.neS rfl rfl rfl ?_;refine BQ ?_;exact zq.1):p:=h ⟨a⟩
theorem aaW(a:q)(h:ZH q->p:=by intro zq;(repeat(first|(with_reducible refine KQ.next ?_)|(with_reducible refine KQ.gS ?_)|(with_reducible refine K.skip ?_)));exact zq.1):p:=h ⟨a⟩
theorem aaV(a:q)(h:ZH q->p:=by intro zq;(repeat(first|(with_reducible refine K.seq ?_)|(with_reducible refine KQ.next ?_)|(with_reducible refine KQ.gS ?_)));exact zq.1):p:=h ⟨a⟩
theorem Ey(a:q)(h:ZH q->p:=by intro zq;refine Ob ?_;refine Ek ?_;exact zq.1):p:=h ⟨a⟩
theorem Ex(a:q)(h:ZH q->p:=by intro zq;refine dC ?_;refine fK ?_;exact zq.1):p:=h ⟨a⟩
theorem BI(a:q)(h:ZH q->p:=by intro zq;refine iG ?_;refine Z1 ?_;exact zq.1):p:=h ⟨a⟩
theorem Ew(a:q)(h:ZH q->p:=by intro zq;refine gU ?_;refine vx ?_;exact zq.1):p:=h ⟨a⟩
theorem Ev(a:q)(h:ZH q->p:=by intro zq;refine He ?_;refine Tm ?_;exact zq.1):p:=h ⟨a⟩
theorem BH(a:q)(h:ZH q->p:=by intro zq;refine K2 ?_;refine Z0 ?_;exact zq.1):p:=h ⟨a⟩
theorem BG(a:q)(h:ZH q->p:=by intro zq;refine sG ?_;refine Z1 ?_;exact zq.1):p:=h ⟨a⟩
theorem aaU(a:q)(h:ZH q->p:=by intro zq;refine dC ?_;refine Kl ?_;refine uh ?_;exact zq.1):p:=h ⟨a⟩
theorem BF(a:q)(h:ZH q->p:=by intro zq;refine K5 ?_;refine Z1 ?_;exact zq.1):p:=h ⟨a⟩
theorem N6(a:q)(h:ZH q->p:=by intro zq;refine BP ?_;refine K.cA rfl Y63 ?_;exact zq.1):p:=h ⟨a⟩
theorem Eu(a:q)(h:ZH q->p:=by intro zq;refine OU ?_;refine Hd ?_;exact zq.1):p:=h ⟨a⟩
theorem Rz(a:q)(h:ZH q->p:=by intro zq;refine KO.lC rfl rfl rfl aL Y41 aL bE aL ?_;exact zq.1):p:=h ⟨a⟩
theorem V7(a:q)(h:ZH q->p:=by intro zq;refine KO.ldb hw rfl rfl isAgg3 bE aL rfl ?_;refine IC ?_;exact zq.1):p:=h ⟨a⟩
theorem N5(a:q)(h:ZH q->p:=by intro zq;refine XB ?_;refine vG ?_;refine KO.pb rfl rfl isAgg3 c1 rfl ?_;refine IC ?_;refine Z1 ?_;exact zq.1):p:=h ⟨a⟩
theorem Et(a:q)(h:ZH q->p:=by intro zq;refine sG ?_;refine IC ?_;exact zq.1):p:=h ⟨a⟩
theorem aaT(a:q)(h:ZH q->p:=by intro zq;refine Ek ?_;refine OT ?_;exact zq.1):p:=h ⟨a⟩
theorem Es(a:q)(h:ZH q->p:=by intro zq;refine lb ?_;refine Z88 ?_;exact zq.1):p:=h ⟨a⟩
theorem Er(a:q)(h:ZH q->p:=by intro zq;refine Z7 ?_;refine WI ?_;exact zq.1):p:=h ⟨a⟩
theorem V6(a:q)(h:ZH q->p:=by intro zq;refine KO.xA rfl rfl isAgg256 sizeOf256 bE aL rfl ?_;exact zq.1):p:=h ⟨a⟩
theorem Ep(a:q)(h:ZH q->p:=by intro zq;refine KO.mkc rfl rfl rfl ?_;exact zq.1):p:=h ⟨a⟩
theorem Ki(a:q)(h:ZH q->p:=by intro zq;refine KO.r7 rfl uT rfl rfl ?_;exact zq.1):p:=h ⟨a⟩
theorem N4(a:q)(h:ZH q->p:=by intro zq;refine Z5 ?_;refine K.cA rfl fV ?_;exact zq.1):p:=h ⟨a⟩
theorem Ry(a:q)(h:ZH q->p:=by intro zq;refine Oi ?_;refine KO.no rfl rfl rfl rfl ?_;exact zq.1):p:=h ⟨a⟩
theorem Hb(a:q)(h:ZH q->p:=by intro zq;refine aaU ?_;refine aaT ?_;refine Kp ?_;exact zq.1):p:=h ⟨a⟩
theorem Ha(a:q)(h:ZH q->p:=by intro zq;refine jY ?_;refine zc ?_;exact zq.1):p:=h ⟨a⟩
theorem G_(a:q)(h:ZH q->p:=by intro zq;refine sL ?_;refine vH ?_;exact zq.1):p:=h ⟨a⟩
theorem G9(a:q)(h:ZH q->p:=by intro zq;refine BX ?_;refine Hh ?_;exact zq.1):p:=h ⟨a⟩
theorem aaS(a:q)(h:ZH q->p:=by intro zq;refine KO.fJ (i:=2) (sz:=1) (cf:=fI) (e:=wc) rfl rfl isAgg9 aX (fun _=>rfl) rfl aL aL rfl ?_;exact zq.1):p:=h ⟨a⟩
theorem aaR(a:q)(h:ZH q->p:=by intro zq;refine iw ?_;refine KO.cutFrom (lo:=1) rfl rfl underlying115 sizeOf9 rfl aj aj rfl ?_;exact zq.1):p:=h ⟨a⟩
theorem Rx(a:q)(h:ZH q->p:=by intro zq;refine N5 ?_;refine KO.no rfl rfl Y6 rfl ?_;exact zq.1):p:=h ⟨a⟩
theorem Eo(a:q)(h:ZH q->p:=by intro zq;refine vz ?_;refine Z5 ?_;exact zq.1):p:=h ⟨a⟩
theorem aaQ(a:q)(h:ZH q->p:=by intro zq;refine Z2 ?_;refine Z64 ?_;exact zq.1):p:=h ⟨a⟩
theorem G8(a:q)(h:ZH q->p:=by intro zq;refine aaQ ?_;refine rC ?_;exact zq.1):p:=h ⟨a⟩
theorem aaP(a:q)(h:ZH q->p:=by intro zq;refine V5 ?_;refine Z1 ?_;exact zq.1):p:=h ⟨a⟩
theorem G7(a:q)(h:ZH q->p:=by intro zq;refine ED ?_;refine aaP ?_;exact zq.1):p:=h ⟨a⟩
theorem Em(a:q)(h:ZH q->p:=by intro zq;refine Z8 ?_;refine vx ?_;exact zq.1):p:=h ⟨a⟩
theorem El(a:q)(h:ZH q->p:=by intro zq;refine Z1 ?_;refine Z45 ?_;exact zq.1):p:=h ⟨a⟩
theorem G6(a:q)(h:ZH q->p:=by intro zq;refine N_ ?_;refine vy ?_;exact zq.1):p:=h ⟨a⟩
theorem G5(a:q)(h:ZH q->p:=by intro zq;refine EE ?_;refine kQ ?_;exact zq.1):p:=h ⟨a⟩
theorem G4(a:q)(h:ZH q->p:=by intro zq;refine dC ?_;refine N3 ?_;exact zq.1):p:=h ⟨a⟩
theorem BE(a:q)(h:ZH q->p:=by intro zq;refine K.cP rfl fV ?_;exact zq.1):p:=h ⟨a⟩
theorem V4(a:q)(h:ZH q->p:=by intro zq;refine lV ?_;refine KO.neB rfl rfl underlying4 rfl ?_;exact zq.1):p:=h ⟨a⟩
theorem Rw(a:q)(h:ZH q->p:=by intro zq;refine yA ?_;refine KO.neS rfl rfl rfl ?_;exact zq.1):p:=h ⟨a⟩
theorem aaO(a:q)(h:ZH q->p:=by intro zq;refine EB ?_;refine KO.eN (i:=0) rfl rfl runUnderlying115 sizeOf9 rfl ai rfl ?_;exact zq.1):p:=h ⟨a⟩
theorem V3(a:q)(h:ZH q->p:=by intro zq;refine Z48 ?_;refine KO.pb rfl rfl isAgg4 Xq rfl ?_;exact zq.1):p:=h ⟨a⟩
theorem aaN(a:q)(h:ZH q->p:=by intro zq;refine pE ?_;refine KO.eN (i:=i) rfl rfl runUnderlying49 sizeOf44 rfl ae rfl ?_;exact zq.1):p:=h ⟨a⟩
theorem aaM(a:q)(h:ZH q->p:=by intro zq;refine Z1 ?_;refine KO.eN (i:=j) rfl rfl runUnderlying162 sizeOf258 rfl ae rfl ?_;exact zq.1):p:=h ⟨a⟩
theorem G3(a:q)(h:ZH q->p:=by intro zq;refine sG ?_;refine vG ?_;exact zq.1):p:=h ⟨a⟩
theorem G1(a:q)(h:ZH q->p:=by intro zq;refine qj ?_;refine fK ?_;exact zq.1):p:=h ⟨a⟩
theorem GZ(a:q)(h:ZH q->p:=by intro zq;refine Z1 ?_;refine sK ?_;exact zq.1):p:=h ⟨a⟩
theorem GY(a:q)(h:ZH q->p:=by intro zq;refine lb ?_;refine lV ?_;exact zq.1):p:=h ⟨a⟩
theorem GX(a:q)(h:ZH q->p:=by intro zq;refine Z7 ?_;refine Oa ?_;exact zq.1):p:=h ⟨a⟩
theorem GV(a:q)(h:ZH q->p:=by intro zq;refine oY ?_;refine BD ?_;exact zq.1):p:=h ⟨a⟩
end
namespace WB
open Go Go.RowKit
abbrev PH:=Nat->Option Obj
def HP:=PH->Prop
def sN (h1 h2:PH):Prop:= ∀k,h1 k=none\/h2 k=none
def nL (h1 h2:PH):PH:=fun k=>(h1 k).or (h2 k)
def emp:HP:=fun h=>∀k,h k=none
def sep (A B:HP):HP:=fun h=> ∃h1 h2,sN h1 h2/\h=nL h1 h2/\A h1/\B h2
def bD (b:Nat) (o:Obj):HP:=fun h=>h b=some o/\∀k,k≠b->h k=none
def CP (p:Prop):HP:=fun h=>p/\emp h
def ex {α:Sort _} (A:α->HP):HP:=fun h=> ∃x,A x h
def gj:List HP->HP
 |[]=>emp
 |a::l=>sep a (gj l)
structure St (w0:World) (L:List HP) (w:World):Prop where
 os:w.os=w0.os
 tape:w.tape=w0.tape
 output:w.output=w0.output
 size:w0.heap.size<=w.heap.size
 block:∀k,k<w0.heap.size->w.heap[k]? =w0.heap[k]?
 own:∃h:PH,(∀k o,h k=some o->w0.heap.size<=k/\w.heap[k]? =some o)/\gj L h
inductive bC:List HP->HP->List HP->Prop
 |head {a:HP} {L:List HP}:bC (a::L) a L
 |tail {x a:HP} {L R:List HP}:bC L a R->bC (x::L) a (x::R)
theorem rT{h1 h2:PH}(d:sN h1 h2):nL h1 h2=nL h2 h1:=by
 funext k;unfold nL;rcases d k with h|h<;>simp[h]
theorem sN.symm{h1 h2:PH}(d:sN h1 h2):sN h2 h1:=fun k=>(d k).symm
theorem mP(h1 h2 h3:PH):nL (nL h1 h2) h3=nL h1 (nL h2 h3):=by
 funext k;unfold nL;cases h1 k<;>simp
theorem nw{h1 h2 h3:PH}:sN (nL h1 h2) h3↔sN h1 h3/\sN h2 h3:=by
 constructor
 ·intro d;constructor<;>intro k<;>have :=d k<;>simp[nL]at this<;>rcases this with h|h<;>simp[h]
 ·rintro⟨d1,d2⟩ k;rcases d1 k with h|h
  ·rcases d2 k with h'|h'
   ·left;simp[nL,h,h']
   ·right;exact h'
  ·right;exact h
theorem ly{h1 h2 h3:PH}:sN h3 (nL h1 h2)↔sN h3 h1/\sN h3 h2:=by
 constructor
 ·intro d;exact⟨(nw.1 d.symm).1.symm,(nw.1 d.symm).2.symm⟩
 ·rintro⟨a,b⟩;exact(nw.2 ⟨a.symm,b.symm⟩).symm
theorem Cz{A B:HP}{h:PH}(H:sep A B h):sep B A h:=by
 obtain⟨h1,h2,d,rfl,a,b⟩:=H;exact⟨h2,h1,d.symm,rT d,b,a⟩
theorem lj{A B C:HP}{h:PH}:sep (sep A B) C h↔sep A (sep B C) h:=by
 constructor
 ·rintro⟨Vk,h3,d,rfl,⟨h1,h2,d',rfl,a,b⟩,c⟩;rw[nw]at d;exact⟨h1,nL h2 h3,ly.2 ⟨d',d.1⟩,mP _ _ _,a,h2,h3,d.2,rfl,b,c⟩
 ·rintro⟨h1,h23,d,rfl,a,h2,h3,d',rfl,b,c⟩;rw[ly]at d;exact⟨nL h1 h2,h3,nw.2 ⟨d.2,d'⟩,(mP _ _ _).symm,⟨h1,h2,d.1,rfl,a,b⟩,c⟩
theorem fY{A A' B B':HP}(ha:∀h,A h->A' h)(hb:∀h,B h->B' h){h:PH}(H:sep A B h):sep A' B' h:=by
 obtain⟨h1,h2,d,e,a,b⟩:=H;exact⟨h1,h2,d,e,ha _ a,hb _ b⟩
theorem wU{A B C:HP}{h:PH}(H:sep A (sep B C) h):sep B (sep A C) h:=by
 have :=lj.2 H;exact lj.1 (fY (fun _ x=>Cz x) (fun _ x=>x) this)
theorem vP{h1 h2:PH}(e:∀k,h1 k=none):nL h1 h2=h2:=by
 funext k;simp[nL,e]
theorem Bl{A:HP}{h:PH}:sep emp A h↔A h:=by
 constructor
 ·rintro⟨h1,h2,d,rfl,e,a⟩
  rwa [vP e]
 ·intro a;exact⟨fun _=>none,h,fun k=>.inl rfl,(vP (fun _=>rfl)).symm,fun _=>rfl,a⟩
theorem dD{L L':List HP}{h:PH}:gj (L++L') h↔sep (gj L) (gj L') h:=by
 induction L generalizing h with
 |nil=>simp only[List.nil_append,gj];exact Bl.symm
 |cons a L ih=>
  simp only[bn,gj];constructor
  ·intro H;exact lj.2 (fY (fun _ x=>x) (fun _ x=>ih.1 x) H)
  ·intro H;exact fY (fun _ x=>x) (fun _ x=>ih.2 x) (lj.1 H)
theorem bC.gj{L R:List HP}{a:HP}(p:bC L a R){h:PH}(H:WB.gj L h):WB.gj (a::R) h:=by
 induction p generalizing h with
 |head=>exact H
 |tail _ ih=>exact wU (fY (fun _ x=>x) (fun _ x=>ih x) H)
theorem bC.TC{L R:List HP}{a:HP}(p:bC L a R){h:PH}(H:WB.gj (a::R) h):WB.gj L h:=by
 induction p generalizing h with
 |head=>exact H
 |tail _ ih=>exact fY (fun _ x=>x) (fun _ x=>ih x) (wU H)
namespace St
variable {w0 w:World} {L L' R:List HP} {A B:HP}
theorem jw(h:St w0 L w)(f:∀x,gj L x->gj L' x):St w0 L' w:=
 {h with own:=let⟨x,a,b⟩:=h.own;⟨x,a,f x b⟩}
theorem pick(h:St w0 L w)(p:bC L A R):St w0 (A::R) w:=h.jw fun _=>p.gj
theorem sY(h:St w0 (A::R) w)(p:bC L A R):St w0 L w:=h.jw fun _=>p.TC
theorem imp(h:St w0 (A::L) w)(f:∀x,A x->B x):St w0 (B::L) w:=h.jw fun _=>fY f fun _ x=>x
theorem drop(h:St w0 (A::L) w):St w0 L w:=by
 obtain⟨x,hx,h1,h2,d,rfl,a,b⟩:=h.own;refine {h with own:=⟨h2,fun k o hk=>hx k o ?_,b⟩};rcases d k with e|e
 ·simp[nL,e,hk]
 ·simp[hk]at e
theorem split(h:St w0 (sep A B::L) w):St w0 (A::B::L) w:=h.jw fun _ x=>lj.1 x
theorem join(h:St w0 (A::B::L) w):St w0 (sep A B::L) w:=h.jw fun _ x=>lj.2 x
theorem splits(h:St w0 (gj L::L') w):St w0 (L++L') w:=h.jw fun _ x=>dD.2 x
theorem zO(h:St w0 (L++L') w):St w0 (gj L::L') w:=h.jw fun _ x=>dD.1 x
theorem B9{α:Sort _}{F:α->HP}(h:St w0 (ex F::L) w):∃x,St w0 (F x::L) w:=by
 obtain⟨x,hx,h1,h2,d,e,⟨y,a⟩,b⟩:=h.own;exact⟨y,{h with own:=⟨x,hx,h1,h2,d,e,a,b⟩}⟩
theorem Bk{α:Sort _}{F:α->HP}(y:α)(h:St w0 (F y::L) w):St w0 (ex F::L) w:=h.imp fun _ x=>⟨y,x⟩
theorem qQ{p:Prop}(h:St w0 (CP p::L) w):p/\St w0 L w:=by
 refine⟨?_,h.drop⟩;obtain⟨x,hx,h1,h2,d,e,a,b⟩:=h.own;exact a.1
theorem u5{p:Prop}(hp:p)(h:St w0 L w):St w0 (CP p::L) w:=
 h.jw fun _ x=>fY (fun _ e=>⟨hp,e⟩) (fun _ x=>x) (Bl.2 x)
theorem aah(h:St w0 L w):St w0 (emp::L) w:=h.jw fun _ x=>Bl.2 x
theorem look{b:Nat}{o:Obj}(h:St w0 (bD b o::L) w):w0.heap.size<=b/\w.heap[b]? =some o:=by
 obtain⟨x,hx,h1,h2,d,rfl,a,_⟩:=h.own;exact hx b o (by simp[nL,a.1])
theorem lK{b:Nat}{o:Obj}(h:St w0 L w)(p:bC L (bD b o) R):w0.heap.size<=b/\w.heap[b]? =some o:=(h.pick p).look
theorem lt{b:Nat}{o:Obj}(h:St w0 (bD b o::L) w):b<w.heap.size:=by
 have :=h.look.2;exact(Array.getElem?_eq_some_iff.1 this).1
theorem ne{b b':Nat}{o o':Obj}(h:St w0 (bD b o::bD b' o'::L) w):b≠b':=by
 rintro rfl;obtain⟨x,hx,h1,h2,d,rfl,a,h3,h4,d',rfl,a',_⟩:=h.own;have :=d b;simp[a.1,nL,a'.1]at this
theorem init(w0:World):St w0 [] w0:=⟨rfl,rfl,rfl,aC _,fun _ _=>rfl,⟨fun _=>none,fun _ _ h=>by simp at h,fun _=>rfl⟩⟩
theorem below(h:St w0 L w):Below w0.heap.size w0 w:=⟨h.os,h.tape,h.output,h.size,h.block⟩
theorem drew(h:St w0 L w):St w0 L w.drew:=⟨h.os,h.tape,h.output,h.size,h.block,h.own⟩
theorem upd{b:Nat}{o o':Obj}{w':World}(h:St w0 (bD b o::L) w)(e1:w'.os=w.os)(e2:w'.tape=w.tape)(e3:w'.output=w.output)(e4:w'.heap.size=w.heap.size)(e5:w'.heap[b]? =some o')(e6:∀k,k≠b->w'.heap[k]? =w.heap[k]?):St w0 (bD b o'::L) w':=by
 obtain⟨hb,_⟩:=h.look;obtain⟨x,hx,h1,h2,d,rfl,a,c⟩:=h.own;refine⟨e1.trans h.os,e2.trans h.tape,e3.trans h.output,by rw[e4];exact h.size,fun k hk=>by rw[e6 k ae];exact h.block k hk,?_⟩;refine⟨nL (fun k=>if k=b then some o' else none) h2,fun k v hk=>?_,_,h2,?_,rfl,?_,c⟩
 ·by_cases e:k=b
  ·subst e;simp[nL]at hk;subst hk;exact⟨hb,e5⟩
  ·simp[nL,e]at hk;rw[e6 k e];exact hx k v (by simp[nL,hk,a.2 k e])
 ·intro k;by_cases e:k=b
  ·subst e;have :=d k;simp[a.1]at this;exact .inr this
  ·exact .inl (by simp[e])
 ·exact⟨by simp,fun k hk=>by simp[hk]⟩
theorem alloc(h:St w0 L w)(o:Obj):St w0 (bD w.heap.size o::L) (w.alloc o):=by
 obtain⟨x,hx,c⟩:=h.own;have YW:∀k,w.heap.size<=k->x k=none:=fun k hk=>by
  cases e:x k with
  |none=>rfl
  |some v=>have :=(hx k v e).2;rw[Array.getElem?_eq_none hk]at this;simp at this
 refine⟨h.os,h.tape,h.output,by simp;have :=h.size;omega,fun k hk=>?_,?_⟩
 ·rw[Below.heap_alloc _ _ _ (by have :=h.size;omega)];exact h.block k hk
 ·refine⟨nL (fun k=>if k=w.heap.size then some o else none) x,fun k v hk=>?_,_,x,?_,rfl,?_,c⟩
  ·by_cases e:k=w.heap.size
   ·subst e;simp[nL]at hk;subst hk;exact⟨h.size,by show(w.heap.push o)[w.heap.size]? =_;simp⟩
   ·simp[nL,e]at hk;have :=hx k v hk;refine⟨this.1,?_⟩;rw[Below.heap_alloc _ _ _ ?_]
    ·exact this.2
    ·exact(Array.getElem?_eq_some_iff.1 this.2).1
  ·intro k;by_cases e:k=w.heap.size
   ·exact .inr (YW k ae)
   ·exact .inl (by simp[e])
  ·exact⟨by simp,fun k hk=>by simp[hk]⟩
theorem setCell{b off:Nat}{c:Array Value}{T:TypeId}{fz:Nat×Nat}(h:St w0 (bD b (.cells c T fz)::L) w)(v:Value):
 St w0 (bD b (.cells (c.setIfInBounds off v) T fz)::L) (w.setCell ⟨b,off,none⟩ v):=by
 refine h.upd rfl rfl rfl (by simp[World.setCell]) ?_ fun k hk=>Below.heap_setCell _ _ _ _ hk
 simp[World.setCell,Array.getElem?_modify,h.look.2]
end St
end WB
namespace WB
open Go Go.RowKit
def Edge.always (e:Edge):Bool:=match e.ground with| .textOnly _=>false| .gcOnly _=>false|_=>true
def rk (o:Oper):List Nat:=(o.after.toList.filter Edge.always).map (·.on)
theorem jS:∀(l l':List Nat),l.Nodup->(∀x∈l,x∈l')->l.length<=l'.length
 |[],_,_,_=>aR _
 |a::l,l',hn,h=>by
  have ha:a∈l':=h a (List.mem_cons_self)
  have :=jS l (l'.erase a) (bZ.1 hn).2 (fun x hx=>by
   have kF:x≠a:=fun e=>(bZ.1 hn).1 (e▸hx)
   exact(List.mem_erase_of_ne kF).2 (h x (List.mem_cons_of_mem _ hx)))
  rw[List.length_erase_of_mem ha]at this;have hp:0<l'.length:=List.length_pos_of_mem ha;simp only[List.length_cons];omega
def Valid (ops:Array Oper) (l:List Nat):Prop:=
 l.Nodup/\(∀i,i∈l↔i<ops.size)/\∀p i s,l=p++i::s->∀o,ops[i]? =some o->∀d∈rk o,d∈p
theorem Kc(e:Edge):Region.binds .any e=Edge.always e:=by
 unfold Region.binds Edge.always;cases e.ground<;>rfl
theorem lL(m:Region.Mode)(hm:m=.any)(ops:Array Oper)(dI:∀(i:Nat) (o:Oper),ops[i]? =some o->∀d∈rk o,d<i):
 ∀(fuel t:Nat) (listed:Array Bool) (acc:List Nat),listed.size=ops.size->
  (∀i,i<ops.size->(listed.getD i false=true↔i∈acc))->(∀i∈acc,i<ops.size)->acc.Nodup->fuel+acc.length=ops.size->
  (∀p i s,acc.reverse=p++i::s->∀o,ops[i]? =some o->∀d∈rk o,d∈p)->
  Valid ops (Region.linearise.go m ops fuel t listed acc)
 |0,t,listed,acc,hs,hl,hr,hn,hf,hv=>by
  unfold Region.linearise.go;refine⟨(List.reverse_perm acc).nodup_iff.2 hn,fun i=>?_,hv⟩;rw[List.mem_reverse];refine⟨hr i,fun hi=>Classical.byContradiction fun US=>?_⟩
  have :=jS (i::acc) (List.range ops.size) (bZ.2 ⟨US,hn⟩) (fun x hx=>by
   rcases aJ.1 hx with rfl|hx
   ·exact bz.2 hi
   ·exact bz.2 (hr x hx))
  simp at this;omega
 |fuel+1,t,listed,acc,hs,hl,hr,hn,hf,hv=>by
  unfold Region.linearise.go;have hex:∃i,i<ops.size/\i∉acc/\∀j,j<i->j∈acc:=by
   have kF:∃i,i<ops.size/\i∉acc:=by
    refine Classical.byContradiction fun hc=>?_
    have fZ:∀i,i<ops.size->i∈acc:=fun i hi=>Classical.byContradiction fun h=>hc ⟨i,hi,h⟩
    have :=jS (List.range ops.size) acc List.nodup_range (fun x hx=>fZ x (bz.1 hx));simp at this;omega
   obtain⟨i,hi⟩:=kF;have :∀n,∀i,i<=n->(i<ops.size/\i∉acc)->∃i,i<ops.size/\i∉acc/\∀j,j<i->j∈acc:=by
    intro n
    induction n with
    |zero=>intro i vg hi;exact⟨i,hi.1,hi.2,fun j hj=>by omega⟩
    |succ n ih=>
     intro i vg hi;by_cases hc:∃j,j<i/\j∉acc
     ·obtain⟨j,hj,hja⟩:=hc;exact ih j ae ⟨by omega,hja⟩
     ·exact⟨i,hi.1,hi.2,fun j hj=>Classical.byContradiction fun h=>hc ⟨j,hj,h⟩⟩
   exact this i i (aC _) hi
  have tI:∀i,i<ops.size->∀b,listed.getD i b=listed.getD i false:=by
   intro i hi b;simp[Array.getD,hs,hi]
  generalize UM:((List.range ops.size).filter fun i=> !listed.getD i true&&((ops[i]?).map (·.after.all fun e=> !Region.binds m e||listed.getD e.on false)).getD false)=rs
  have k9:∀i,i∈rs↔i<ops.size/\i∉acc/\∃o,ops[i]? =some o/\(o.after.all fun e=> !Region.binds m e||listed.getD e.on false)=true:=by
   intro i;rw[<-UM,aI,bz];constructor
   ·rintro⟨hi,h⟩;simp only[aW,Bool.not_eq_true']at h;rw[tI i hi]at h;refine⟨hi,fun hc=>?_,ops[i],by simp[hi],?_⟩
    ·have :=(hl i hi).2 hc;simp[this]at h
    ·have h2:=h.2;simp only[Array.getElem?_eq_getElem hi,Option.map_some,Option.getD_some]at h2;exact h2
   ·rintro⟨hi,US,o,ho,h⟩;refine⟨hi,?_⟩;rw[tI i hi];have :listed.getD i false=false:=by
     cases hb:listed.getD i false with
     |false=>rfl
     |true=>exact absurd ((hl i hi).1 hb) US
    simp only[this,ho,Option.map_some,Option.getD_some,h,Bool.not_false,Bool.and_self]
  have A8:rs≠[]:=by
   obtain⟨i,hi,US,fZ⟩:=hex
   have :i∈rs:=(k9 i).2 ⟨hi,US,ops[i],by simp[hi],by
    rw[Array.all_eq_true'];intro e he;cases hb:Region.binds m e with
    |false=>simp
    |true=>
     rw[hm,Kc]at hb;have UU:=dI i ops[i] (by simp[hi]) e.on (aD.2 ⟨e,aI.2 ⟨Array.mem_toList_iff.2 he,hb⟩,rfl⟩);have :listed.getD e.on false=true:=(hl e.on ae).2 (fZ _ UU)
     simp[this]⟩
   intro h;rw[h]at this;simp at this
  have hlen:0<rs.length:=List.length_pos_iff.2 A8;have Ql:t%rs.length<rs.length:=Nat.mod_lt _ hlen;have YP:rs[t%rs.length]? =some (rs[t%rs.length]'Ql):=ao Ql;simp only[YP];have vg:=(k9 (rs[t%rs.length]'Ql)).1 (List.getElem_mem _);generalize (rs[t%rs.length]'Ql)=i at vg ⊢;obtain⟨hi,US,o,ho,fZ⟩:=vg;refine lL m hm ops dI fuel _ _ _ (by simp[hs]) ?_ ?_ (bZ.2 ⟨US,hn⟩) fV ?_
  ·intro k hk;by_cases e:k=i
   ·subst e;simp[Array.getD,hs,hi]
   ·have h2:(listed.setIfInBounds i true).getD k false=listed.getD k false:=by
     simp[Array.getD,hs,hk,Ne.symm e]
    rw[h2,hl k hk];simp[e]
  ·intro k hk;rcases aJ.1 hk with rfl|hk
   ·exact hi
   ·exact hr k hk
  ·intro p j s hp o' ho' d hd;rw[List.reverse_cons]at hp;rcases List.eq_nil_or_concat s with rfl|⟨s',x,rfl⟩
   ·have h2:=List.append_inj' hp rfl;have Zi:i=j:=by simpa using h2.2
    subst Zi;rw[<-h2.1,List.mem_reverse];rw[ho]at ho';cases ho'
    obtain⟨e,he,rfl⟩:=aD.1 hd;obtain⟨OO,iM⟩:=aI.1 he;rw[Array.all_eq_true']at fZ;have h3:=fZ e (Array.mem_toList_iff.1 OO);have hb:Region.binds m e=true:=by
     unfold Edge.always at iM;unfold Region.binds;cases hg:e.ground<;>simp_all
    simp[hb]at h3;exact(hl _ (by have :=dI i o ho e.on (aD.2 ⟨e,aI.2 ⟨OO,iM⟩,rfl⟩);omega)).1 (by rw[Array.getD_eq_getD_getElem?];exact h3)
   ·have :acc.reverse++[i]=(p++j::s')++[x]:=by simpa[List.concat_eq_append]using hp
    have h2:=List.append_inj' this rfl;exact hv p j s' h2.1 o' ho' d hd
theorem jm(mixed:Bool)(pg:mixed=true)(ops:Array Oper)(t:Nat)(dI:∀(i:Nat) (o:Oper),ops[i]? =some o->∀d∈rk o,d<i):
 Valid ops (Region.schedule mixed ops t):=by
 have :Valid ops (Region.linearise .any ops t):=by
  unfold Region.linearise;refine lL _ rfl ops dI _ _ _ _ aj ?_ aj List.nodup_nil aj ?_
  ·intro i hi;simp[Array.getD,hi]
  ·intro p i s h;simp at h
 unfold Region.schedule;rw[pg,Bool.true_or,if_pos rfl];exact this
inductive Kd|pure|read|same|cx|write
 deriving DecidableEq
def Kd.m_:Kd->Bool| .pure| .read| .same=>true|_=>false
def Ext (w w':World):Prop:=w.heap.size<=w'.heap.size/\∀k,k<w.heap.size->w'.heap[k]? =w.heap[k]?
theorem Ext.refl(w:World):Ext w w:=⟨aC _,fun _ _=>rfl⟩
theorem Ext.trans{a b c:World}(h:Ext a b)(k:Ext b c):Ext a c:=⟨Nat.le_trans h.1 k.1,fun i hi=>(k.2 i (Nat.lt_of_lt_of_le hi h.1)).trans (h.2 i hi)⟩
theorem Ext.bB{w w':World}(h:Below w.heap.size w w'):Ext w w':=⟨h.size,h.block⟩
theorem Ext.cell{w w':World}(h:Ext w w'){a:Addr}{v:Value}(hc:w.cell? a=some v):w'.cell? a=some v:=by
 have hb:a.block<w.heap.size:=by
  unfold World.cell? at hc;split at hc
  ·rename_i e;exact(Array.getElem?_eq_some_iff.1 e).1
  ·simp at hc
 rw[<-hc];exact World.cell?_of_block (h.2 _ hb)
def stays (k:Kd) (w w':World):Prop:=match k with| .pure=>True| .read=>Ext w w'|_=>w'=w
def II (P:Program) (m:Sem Next) (v:Value) (w:World):Prop:=
 m.run P w=.ok (.value v) w\/∃f args,m.run P w=.ok (.enter f args) w/\Calls P f args w fun e w'=>e=.returned v/\w'=w
def pq (Q:Exit->Act->World->Prop):Exit->Act->World->Prop:=fun e a w=>∀tm,Q e {a with tmps:=tm} w
theorem r5{Q:Exit->Act->World->Prop}(e:Exit)(a:Act)(w:World)(h:pq Q e a w):Q e a w:=h a.tmps
theorem L8{Q:Exit->Act->World->Prop}{e:Exit}{a:Act}{w:World}{d:Option Tmp}{u:Value}(h:pq Q e (a.put d u) w):pq Q e a w:=fun tm=>by
 have :=h tm;cases d<;>exact this
def ib (P:Program) (ops:Array Oper) (Q:Exit->Act->World->Prop):List (Kd×Oper)->Act->World->Prop
 |[],a,w=>Q .normal a w
 |(k,o)::rest,a,w=>
  if Region.wanted o (yielded ops a.tmps)then
   match k with
   | .cx=>o.wp P a w (fun a' w'=>Ext w w'/\ib P ops Q rest a' w') (pq Q)
   | .write=>o.wp P a w (fun a' w'=>ib P ops Q rest a' w') (pq Q)
   |k=> ∃v,(∀w',stays k w w'->II P (execOp a.eval o) v w')/\ib P ops Q rest (a.put o.dst v) w
  else ib P ops Q rest (a.put o.dst undef) w
def Lv:Operand->List Nat| .tmp t=>[t]|_=>[]
def jo (ops:Array Oper) (o:Oper):List Nat:=
 o.op.operands.toList.flatMap Lv++(match o.guard with|some (j,_)=>((ops[j]?).bind (·.dst)).toList|none=>[])
theorem eval_put{a:Act}{d:Option Tmp}{v:Value}{x:Operand}(h:∀t,d=some t->t∉Lv x):(a.put d v).eval x=a.eval x:=by
 cases d with
 |none=>rfl
 |some t=>
  cases x with
  |tmp u=>
   have :t≠u:=by have :=h t rfl;simpa[Lv]using this
   simp[Act.put,Act.eval,Array.getD_eq_getD_getElem?,this]
  |_=>rfl
def kX:Op->Bool| .select .. | .defer _| .go _=>false|_=>true
theorem execOp_congr{ρ ρ':Operand->Value}{o:Oper}(hp:kX o.op=true)(h:∀x∈o.op.operands.toList,ρ x=ρ' x):execOp ρ o=execOp ρ' o:=by
 have Uj:∀(xs:Array Operand),(∀x∈xs.toList,ρ x=ρ' x)->xs.map ρ=xs.map ρ':=fun xs hx=>
  Array.map_congr_left fun x Uy=>hx x (Array.mem_toList_iff.2 Uy)
 have Yt:∀(ps:Array (Nat×Operand)),(∀x∈ps.toList.map (·.2),ρ x=ρ' x)->ps.map (fun(i,x)=>(i,ρ x))=ps.map (fun(i,x)=>(i,ρ' x)):=fun ps hx=>
  Array.map_congr_left fun p hp=>by
   have :=hx p.2 (aD.2 ⟨p,Array.mem_toList_iff.2 hp,rfl⟩);simp[this]
 have PR:∀(x:Option Operand),(∀y,x=some y->ρ y=ρ' y)->x.map ρ=x.map ρ':=fun x hx=>by
  cases x with
  |none=>rfl
  |some y=>simp[hx y rfl]
 have NR:∀(c:Call) (t:TypeId),(∀x∈c.operands.toList,ρ x=ρ' x)->resolve ρ c t=resolve ρ' c t:=fun c t hx=>by
  have ha:c.args.map ρ=c.args.map ρ':=Uj _ fun x Uy=>hx x (by simp[Call.operands,Array.mem_toList_iff.1 Uy])
  unfold resolve;cases hc:c.callee with
  |value f=>simp only[ha];rw[hx f (by simp[Call.operands,hc])]
  |invoke r m=>simp only[ha];rw[hx r (by simp[Call.operands,hc])]
  |builtin b=>simp only[ha]
 rcases o with⟨dst,op,ty,pos,after,guard⟩
 unfold execOp;cases op with
 |build t ps=>simp only[Op.operands]at h ⊢;rw[Yt ps (fun x hx=>h x (by simpa using hx))]
 |buildSlice t n ps=>simp only[Op.operands]at h ⊢;rw[Yt ps (fun x hx=>h x (by simpa using hx))]
 |makeFunc f xs ys=>
  simp only[Op.operands,Array.toList_append,aP]at h ⊢;rw[Uj xs (fun x hx=>h x (.inl hx)),Uj ys (fun x hx=>h x (.inr hx))]
 |makeMap t r=>simp only[Op.operands]at h ⊢;rw[PR r (fun y hy=>h y (by simp[hy]))]
 |slice t x l hi m=>
  simp only[Op.operands]at h ⊢;rw[h x aj,PR l (fun y hy=>h y (by simp[hy])),PR hi (fun y hy=>h y (by simp[hy])),PR m (fun y hy=>h y (by simp[hy]))]
 |call c=>simp only[Op.operands]at h ⊢;rw[NR c _ h]
 |go c=>simp only[Op.operands]at h ⊢;rw[NR c _ h]
 |defer c=>simp only[Op.operands]at h ⊢;rw[NR c _ h]
 |select cs bl=>simp[kX]at hp
 |alloc=>rfl
 |ready=>rfl
 |waits=>rfl
 |_=>simp[Op.operands]at h ⊢ <;>simp[h]
theorem put_comm{a:Act}{d e:Option Tmp}{v u:Value}(h:∀x,d=some x->e≠some x):(a.put d v).put e u=(a.put e u).put d v:=by
 cases d with
 |none=>rfl
 |some x=>
  cases e with
  |none=>rfl
  |some y=>
   have kF:x≠y:=fun e=>h x rfl (by rw[e])
   simp only[Act.put];rw[Array.setIfInBounds_comm _ _ kF]
theorem wanted_put{ops:Array Oper}{o:Oper}{tm:Array Value}{d:Option Tmp}{v:Value}{df:List Deferred}(h:∀t,d=some t->t∉jo ops o):
 Region.wanted o (yielded ops (({tmps:=tm,defers:=df}:Act).put d v).tmps)=Region.wanted o (yielded ops tm):=by
 cases d with
 |none=>rfl
 |some t=>
  unfold Region.wanted;cases hg:o.guard with
  |none=>rfl
  |some g=>
   obtain⟨j,want⟩:=g;have ht:=h t rfl;simp only[jo,hg,aP,not_or]at ht;simp only[yielded,Act.put];cases hj:(ops[j]?).bind (·.dst)with
   |none=>rfl
   |some u=>
    have kF:t≠u:=by
     have :=ht.2;rw[hj]at this;simpa using this
    simp[kF]
theorem xY{ops:Array Oper}{o:Oper}{a:Act}{d:Option Tmp}{v:Value}(hp:kX o.op=true)(h:∀t,d=some t->t∉jo ops o):
 execOp (a.put d v).eval o=execOp a.eval o:=by
 refine execOp_congr hp fun x hx=>eval_put fun t ht hm=>h t ht ?_
 simp only[jo,aP,List.mem_flatMap];exact .inl ⟨x,hx,hm⟩
structure abz (ops:Array Oper) (o o':Oper):Prop where
 r1:∀t,o.dst=some t->t∉jo ops o'
 r2:∀t,o'.dst=some t->t∉jo ops o
 w:∀t,o.dst=some t->o'.dst≠some t
theorem Ch{P:Program}{ops:Array Oper}{o:Oper}{a:Act}{w:World}{d:Option Tmp}{u:Value}{N N':Act->World->Prop}{Q:Exit->Act->World->Prop}(hp:kX o.op=true)(h1:∀t,d=some t->t∉jo ops o)(h2:∀t,d=some t->o.dst≠some t)(hN:∀(x:Act) (v:Value) (w':World),x.tmps=a.tmps->N ((x.put o.dst v).put d u) w'->N' (x.put o.dst v) w')(h:o.wp P (a.put d u) w N (pq Q)):
 o.wp P a w N' (pq Q):=by
 have hc:∀v,(a.put d u).put o.dst v=(a.put o.dst v).put d u:=fun v=>put_comm h2
 unfold Oper.wp at h ⊢;rw[xY hp h1]at h;cases hr:(execOp a.eval o).run P w with
 |halt hh w'=>rw[hr]at h;cases hh<;>first|exact h.elim|exact L8 h
 |ok n w'=>
  rw[hr]at h;cases n with
  |value v=>simp only[Oper.upon]at h ⊢;rw[hc]at h;exact hN a _ _ rfl h
  |skip=>simp only[Oper.upon]at h ⊢;rw[hc]at h;exact hN a _ _ rfl h
  |defer dd=>
   simp only[Oper.upon]at h ⊢;have e:({(a.put d u)with defers:=dd::(a.put d u).defers}:Act).put o.dst undef=(({a with defers:=dd::a.defers}:Act).put o.dst undef).put d u:=by
    rw[<-put_comm h2];cases d<;>rfl
   rw[e]at h;exact hN {a with defers:=dd::a.defers} _ _ rfl h
  |enter f args=>
   simp only[Oper.upon]at h ⊢;refine h.mono fun e rF hh=>?_
   cases e with
   |returned v=>simp only at hh ⊢;rw[hc]at hh;exact hN a _ _ rfl hh
   |panicked c=>exact L8 hh
   |outgrown=>exact hh
  |row r args=>
   simp only[Oper.upon]at h ⊢;refine h.mono fun v rF hh=>?_
   rw[hc]at hh;exact hN a _ _ rfl hh
  |_=>exact h
section
variable {P:Program} {ops:Array Oper} {Q:Exit->Act->World->Prop} {rest:List (Kd×Oper)} {k:Kd} {o:Oper} {a:Act} {w:World}
theorem o0(hw:Region.wanted o (yielded ops a.tmps)=false):ib P ops Q ((k,o)::rest) a w=ib P ops Q rest (a.put o.dst undef) w:=by
 cases k<;>simp[ib,hw]
theorem dL(hk:k.m_=true)(hw:Region.wanted o (yielded ops a.tmps)=true):ib P ops Q ((k,o)::rest) a w=
 ∃v,(∀w',stays k w w'->II P (execOp a.eval o) v w')/\ib P ops Q rest (a.put o.dst v) w:=by
 cases k<;>first|(simp[Kd.m_]at hk;done)|simp[ib,hw]
theorem fX(hw:Region.wanted o (yielded ops a.tmps)=true):ib P ops Q ((.cx,o)::rest) a w=
 o.wp P a w (fun a' w'=>Ext w w'/\ib P ops Q rest a' w') (pq Q):=by simp[ib,hw]
theorem dK(hw:Region.wanted o (yielded ops a.tmps)=true):ib P ops Q ((.write,o)::rest) a w=
 o.wp P a w (fun a' w'=>ib P ops Q rest a' w') (pq Q):=by simp[ib,hw]
end
def GH (k k':Kd):Prop:=k'.m_=true\/k=.pure\/(k=.read/\k'=.cx)
theorem replay{P:Program}{ops:Array Oper}{Q:Exit->Act->World->Prop}{rest:List (Kd×Oper)}{k:Kd}{o:Oper}(hk:k.m_=true)(hp:kX o.op=true){a x:Act}{w w':World}{d:Option Tmp}{u v:Value}(hx:x.tmps=a.tmps)(hr:∀t,d=some t->t∉jo ops o)(hw:Region.wanted o (yielded ops a.tmps)=true)(hv:∀rF,stays k w rF->II P (execOp a.eval o) v rF)(hs:∀rF,stays k w' rF->stays k w rF)(h:ib P ops Q rest ((x.put d u).put o.dst v) w'):ib P ops Q ((k,o)::rest) (x.put d u) w':=by
 have hw':Region.wanted o (yielded ops (x.put d u).tmps)=true:=by
  obtain⟨tm,df⟩:=x;rw[wanted_put hr];rw[show tm=a.tmps from hx];exact hw
 have he:execOp (x.put d u).eval o=execOp a.eval o:=by
  rw[xY hp hr];exact execOp_congr hp fun y _=>by cases y<;>simp[Act.eval,hx]
 have :∃v,(∀rF,stays k w' rF->II P (execOp (x.put d u).eval o) v rF)/\ib P ops Q rest ((x.put d u).put o.dst v) w':=
  ⟨v,fun rF aY=>by rw[he];exact hv rF (hs rF aY),h⟩
 rw[dL hk hw'];exact this
theorem Fz{P:Program}{ops:Array Oper}{Q:Exit->Act->World->Prop}{rest:List (Kd×Oper)}{k:Kd}{o:Oper}{a x:Act}{w':World}{d:Option Tmp}{u:Value}(hx:x.tmps=a.tmps)(hr:∀t,d=some t->t∉jo ops o)(hw:Region.wanted o (yielded ops a.tmps)=false)(h:ib P ops Q rest ((x.put d u).put o.dst undef) w'):ib P ops Q ((k,o)::rest) (x.put d u) w':=by
 have hw':Region.wanted o (yielded ops (x.put d u).tmps)=false:=by
  obtain⟨tm,df⟩:=x;rw[wanted_put hr];rw[show tm=a.tmps from hx];exact hw
 rw[o0 hw'];exact h
theorem swap{P:Program}{ops:Array Oper}{Q:Exit->Act->World->Prop}{rest:List (Kd×Oper)}{k k':Kd}{o o':Oper}(hk:k.m_=true)(hc:GH k k')(hp:kX o.op=true)(E0:kX o'.op=true)(hf:abz ops o o'){a:Act}{w:World}(h:ib P ops Q ((k,o)::(k',o')::rest) a w):ib P ops Q ((k',o')::(k,o)::rest) a w:=by
 have key:∃u,ib P ops Q ((k',o')::rest) (a.put o.dst u) w/\
  ∀(x:Act) (v:Value) (w':World),x.tmps=a.tmps->(∀rF,stays k w' rF->stays k w rF)->ib P ops Q rest ((x.put o'.dst v).put o.dst u) w'->ib P ops Q ((k,o)::rest) (x.put o'.dst v) w':=by
  cases hw:Region.wanted o (yielded ops a.tmps)with
  |false=>
   rw[o0 hw]at h;exact⟨undef,h,fun x v w' hx _ hr=>Fz hx hf.r2 hw hr⟩
  |true=>
   rw[dL hk hw]at h;obtain⟨v,hv,hr⟩:=h;exact⟨v,hr,fun x u w' hx hs hr=>replay hk hp hx hf.r2 hw hv hs hr⟩
 obtain⟨u,hi,hre⟩:=key;have hw':Region.wanted o' (yielded ops (a.put o.dst u).tmps)=Region.wanted o' (yielded ops a.tmps):=by
  obtain⟨tm,df⟩:=a;exact wanted_put hf.r1
 have hee:execOp (a.put o.dst u).eval o'=execOp a.eval o':=xY E0 hf.r1;have zS:∀rF,stays k w rF->stays k w rF:=fun _ x=>x
 have SU:∀v,(a.put o.dst u).put o'.dst v=(a.put o'.dst v).put o.dst u:=fun v=>put_comm hf.w
 cases W9:Region.wanted o' (yielded ops a.tmps)with
 |false=>
  rw[o0 (by rw[hw',W9]),SU]at hi;rw[o0 W9];exact hre a undef w rfl zS hi
 |true=>
  have Uz:Region.wanted o' (yielded ops (a.put o.dst u).tmps)=true:=by rw[hw',W9]
  by_cases Zf:k'.m_=true
  ·rw[dL Zf Uz]at hi;rw[dL Zf W9];obtain⟨v,hv,hr⟩:=hi;rw[SU]at hr;exact⟨v,fun rF hs=>by rw[<-hee];exact hv rF hs,hre a v w rfl zS hr⟩
  ·cases k' with
   |cx=>
    rw[fX Uz]at hi;rw[fX W9];refine Ch E0 hf.r1 hf.w (fun x v w' hx hN=>⟨hN.1,hre x v w' hx (fun rF hs=>?_) hN.2⟩) hi;rcases hc with hc|rfl|⟨rfl,_⟩
    ·exact absurd hc Zf
    ·trivial
    ·exact hN.1.trans hs
   |write=>
    rw[dK Uz]at hi;rw[dK W9];refine Ch E0 hf.r1 hf.w (fun x v w' hx hN=>hre x v w' hx (fun rF hs=>?_) hN) hi;rcases hc with hc|rfl|⟨_,hc⟩
    ·exact absurd hc Zf
    ·trivial
    ·simp at hc
   |_=>exact absurd rfl Zf
variable {P:Program} {ops:Array Oper} {Q:Exit->Act->World->Prop}
theorem gg{Q1 Q2:Exit->Act->World->Prop}(hQ:∀e a w,Q1 e a w->Q2 e a w){o:Oper}{a:Act}{w:World}{N N':Act->World->Prop}(hN:∀a w,N a w->N' a w)(h:o.wp P a w N Q1):o.wp P a w N' Q2:=by
 unfold Oper.wp at h ⊢;cases hr:(execOp a.eval o).run P w with
 |halt hh w'=>rw[hr]at h;cases hh<;>first|exact hQ _ _ _ h|exact h.elim
 |ok n w'=>
  rw[hr]at h;cases n with
  |value v=>exact hN _ _ h
  |skip=>exact hN _ _ h
  |defer dd=>exact hN _ _ h
  |enter f args=>
   simp only[Oper.upon]at h ⊢;refine h.mono fun e rF hh=>?_
   cases e with
   |returned v=>exact hN _ _ hh
   |panicked c=>exact hQ _ _ _ hh
   |outgrown=>obtain⟨x,y,hx⟩:=hh;exact⟨x,y,hQ _ _ _ hx⟩
  |row r args=>
   simp only[Oper.upon]at h ⊢;exact h.mono fun v rF hh=>hN _ _ hh
  |_=>exact h.elim
theorem sU{o:Oper}{a:Act}{w:World}{N N':Act->World->Prop}(hN:∀a w,N a w->N' a w)(h:o.wp P a w N (fun _ _ _=>False)):o.wp P a w N' Q:=gg (fun _ _ _ h=>h.elim) hN h
theorem Ll{x:Kd×Oper}{L L':List (Kd×Oper)}(hL:∀a w,ib P ops Q L a w->ib P ops Q L' a w){a:Act}{w:World}(h:ib P ops Q (x::L) a w):ib P ops Q (x::L') a w:=by
 obtain⟨k,o⟩:=x;cases hw:Region.wanted o (yielded ops a.tmps)with
 |false=>rw[o0 hw]at h ⊢;exact hL _ _ h
 |true=>
  by_cases hl:k.m_=true
  ·rw[dL hl hw]at h ⊢;obtain⟨v,hv,hr⟩:=h;exact⟨v,hv,hL _ _ hr⟩
  ·cases k with
   |cx=>rw[fX hw]at h ⊢;exact gg (fun _ _ _ h=>h) (fun a w hh=>⟨hh.1,hL _ _ hh.2⟩) h
   |write=>rw[dK hw]at h ⊢;exact gg (fun _ _ _ h=>h) (fun a w hh=>hL _ _ hh) h
   |_=>exact absurd rfl hl
def No (ops:Array Oper) (o o':Oper):Bool:=
 (match o.dst with|some t=> !(jo ops o').contains t&& !(match o'.dst with|some u=>t==u|none=>false)|none=>true)&&
 (match o'.dst with|some t=> !(jo ops o).contains t|none=>true)
theorem QI{o o':Oper}(h:No ops o o'=true):abz ops o o':=by
 unfold No at h;rw[aW]at h;obtain⟨h1,h2⟩:=h;refine⟨fun t ht=>?_,fun t ht=>?_,fun t ht hd=>?_⟩
 ·rw[ht]at h1;simp only[aW,Bool.not_eq_true']at h1;intro hc;have :=List.contains_iff_mem.2 hc;rw[this]at h1;simp at h1
 ·rw[ht]at h2;simp only[Bool.not_eq_true']at h2;intro hc;have :=List.contains_iff_mem.2 hc;rw[this]at h2;simp at h2
 ·rw[ht,hd]at h1;simp at h1
def Br (k k':Kd):Bool:=match k,k' with
 |_,.pure=>true|_,.read=>true|_,.same=>true
 | .pure,_=>true| .read,.cx=>true|_,_=>false
theorem J4{k k':Kd}(h:Br k k'=true):GH k k':=by
 cases k<;>cases k'<;>simp_all [Br,GH,Kd.m_]
def item (ops:Array Oper) (ks:List Kd) (i:Nat):Kd×Oper:=(ks.getD i .write,ops.toList.getD i default)
def je (ops:Array Oper) (ks:List Kd) (x i:Nat):Bool:=
 (item ops ks x).1.m_&&(Br (item ops ks x).1 (item ops ks i).1&&(No ops (item ops ks x).2 (item ops ks i).2&&(kX (item ops ks x).2.op&&kX (item ops ks i).2.op)))
theorem GL{ks:List Kd}{i:Nat}{post:List Nat}:∀(pre:List Nat),(∀x∈pre,je ops ks x i=true)->∀a w,
 ib P ops Q ((pre++i::post).map (item ops ks)) a w->ib P ops Q ((i::(pre++post)).map (item ops ks)) a w
 |[],_,a,w,h=>h
 |x::pre,hp,a,w,h=>by
  have h1:ib P ops Q ((x::i::(pre++post)).map (item ops ks)) a w:=by
   refine Ll (fun a w hh=>GL pre (fun y hy=>hp y (List.mem_cons_of_mem _ hy)) a w hh) h
  have hx:=hp x List.mem_cons_self;simp only[je,aW]at hx;obtain⟨e1,e2,e3,e4,e5⟩:=hx;exact swap e1 (J4 e2) e4 e5 (QI e3) h1
def FX:List Nat->List Nat->List Nat
 |[],acc=>acc
 |x::l,acc=>FX l (if acc.contains x then acc else x::acc)
def C7:List Oper->List (List Nat)->List (List Nat)
 |[],acc=>acc
 |o::l,acc=>C7 l (acc++[FX ((FX (rk o) []).flatMap fun d=>d::acc.getD d []) []])
def qF (ops:Array Oper) (qG:List (List Nat)):Bool:=
 (List.range ops.size).all fun i=>(qG.getD i []).all fun x=>(rk (ops.toList.getD i default)).any fun d=>d==x||(qG.getD d []).contains x
def ff (ops:Array Oper):Bool:=(List.range ops.size).all fun i=>(rk (ops.toList.getD i default)).all fun d=>Nat.blt d i
theorem p9{qG:List (List Nat)}(hb:ff ops=true)(ha:qF ops qG=true){l:List Nat}(hv:Valid ops l):
 ∀n i,i<=n->i<ops.size->∀p s,l=p++i::s->∀x∈qG.getD i [],x∈p:=by
 have get:∀i (h:i<ops.size),ops[i]? =some (ops.toList.getD i default):=fun i h=>by simp[h]
 intro n
 induction n with
 |zero=>
  intro i vg hi p s hl x hx;unfold qF at ha;have h1:=aG.1 (aG.1 ha i (bz.2 hi)) x hx;obtain⟨d,hd,_⟩:=List.any_eq_true.1 h1;unfold ff at hb;have h2:=aG.1 (aG.1 hb i (bz.2 hi)) d hd;simp[Nat.blt_eq]at h2;omega
 |succ n ih=>
  intro i vg hi p s hl x hx;unfold qF at ha;have h1:=aG.1 (aG.1 ha i (bz.2 hi)) x hx;obtain⟨d,hd,Xo⟩:=List.any_eq_true.1 h1;have hdp:=hv.2.2 p i s hl _ (get i hi) d hd;have hdi:d<i:=by
   unfold ff at hb;have h2:=aG.1 (aG.1 hb i (bz.2 hi)) d hd;simpa[Nat.blt_eq]using h2
  rw[Bool.or_eq_true]at Xo;rcases Xo with Xo|Xo
  ·have :d=x:=by simpa using Xo
   exact this▸hdp
  ·obtain⟨p1,p2,rfl⟩:=List.append_of_mem hdp;have :=ih d ae ae p1 (p2++i::s) K7 x (List.contains_iff_mem.1 Xo);exact aP.2 (.inl this)
def j7 (f:Nat->Nat->Bool):List Nat->Bool
 |[]=>true
 |x::l=>l.all (f x)&&j7 f l
theorem my{f:Nat->Nat->Bool}{i:Nat}{post:List Nat}:∀(pre:List Nat),j7 f (pre++i::post)=true->(∀x∈pre,f x i=true)/\j7 f (pre++post)=true/\(∀y∈post,f i y=true)
 |[],h=>by simp only[List.nil_append,j7,aW]at h;exact⟨fun _ hx=>(by cases hx),h.2,fun y hy=>aG.1 h.1 y hy⟩
 |x::pre,h=>by
  simp only[bn,j7,aW]at h;obtain⟨h1,h2,h3⟩:=my pre h.2;refine⟨fun y hy=>?_,?_,h3⟩
  ·rcases aJ.1 hy with rfl|hy
   ·exact aG.1 h.1 i aj
   ·exact h1 y hy
  ·simp only[bn,j7,aW];refine⟨aG.2 fun y hy=>aG.1 h.1 y ?_,h2⟩;rcases aP.1 hy with hy|hy
   ·simp[hy]
   ·simp[hy]
def W6 (ops:Array Oper) (ks:List Kd) (ord:List Nat):Bool:=
 let qG:=C7 ops.toList []
 ff ops&&(qF ops qG&&((List.range ops.size).all (fun i=>ord.contains i)&&(ord.all (fun i=>Nat.blt i ops.size)&&
  j7 (fun x i=> !(x==i)&&((qG.getD i []).contains x||je ops ks x i)) ord)))
theorem tt{ks:List Kd}{qG:List (List Nat)}(hb:ff ops=true)(ha:qF ops qG=true){l:List Nat}(hv:Valid ops l):
 ∀(s p rem:List Nat),l=p++s->(∀x,x∈rem↔x∈s)->
  j7 (fun x i=> !(x==i)&&((qG.getD i []).contains x||je ops ks x i)) rem=true->
  ∀a w,ib P ops Q (rem.map (item ops ks)) a w->wpOps P ops Q s a w
 |[],p,rem,hl,hm,hp,a,w,h=>by
  have :rem=[]:=List.eq_nil_iff_forall_not_mem.2 fun x hx=>by simpa using(hm x).1 hx
  subst this;exact h
 |i::s,p,rem,hl,hm,hp,a,w,h=>by
  have hi:i<ops.size:=(hv.2.1 i).1 K7;have F7:=hv.1;rw[hl]at F7;have hnp:∀x∈i::s,x∉p:=fun x hx P8=>(List.nodup_append.1 F7).2.2 x P8 x hx rfl
  have E3:i∉s:=(bZ.1 (List.nodup_append.1 F7).2.1).1;obtain⟨pre,post,rfl⟩:=List.append_of_mem ((hm i).2 List.mem_cons_self);obtain⟨h1,h2,h3⟩:=my pre hp;have UO:∀x∈pre,je ops ks x i=true:=fun x hx=>by
   have hf:=h1 x hx;simp only[aW,Bool.or_eq_true]at hf;rcases hf.2 with hc|hc
   ·have P8:=p9 hb ha hv i i (aC _) hi p s hl x (List.contains_iff_mem.1 hc);exact absurd P8 (hnp x ((hm x).1 sR))
   ·exact hc
  have lP:=GL pre UO a w h;have F9:∀x,x∈pre++post↔x∈s:=fun x=>by
   have hx:=hm x;constructor
   ·intro YD;have Dj:x∈pre++i::post:=by
     rcases aP.1 YD with e|e<;>simp[e]
    rcases aJ.1 (hx.1 Dj)with rfl|e
    ·exfalso;rcases aP.1 YD with e|e
     ·have :=h1 x e;simp at this
     ·have :=h3 x e;simp at this
    ·exact e
   ·intro oc;have :=hx.2 (List.mem_cons_of_mem _ oc);rcases aP.1 this with e|e
    ·simp[e]
    ·rcases aJ.1 e with rfl|e
     ·exact absurd oc E3
     ·simp[e]
  have IH:=tt hb ha hv s (p++[i]) (pre++post) K7 F9 h2;have tI:ops[i]? =some (item ops ks i).2:=by simp[item,hi]
  simp only[aT]at lP;simp only[wpOps,tI];cases hw:Region.wanted (item ops ks i).2 (yielded ops a.tmps)with
  |false=>
   simp only[Bool.false_eq_true,if_false];rw[show item ops ks i=((item ops ks i).1,(item ops ks i).2)from rfl,o0 hw]at lP;exact IH _ _ lP
  |true=>
   simp only[if_true];left;rw[show item ops ks i=((item ops ks i).1,(item ops ks i).2)from rfl]at lP;by_cases dI:(item ops ks i).1.m_=true
   ·rw[dL dI hw]at lP;obtain⟨v,pU,hr⟩:=lP;have kO:stays (item ops ks i).1 w w:=by
     cases(item ops ks i).1<;>first|trivial|exact Ext.refl w|rfl
    unfold Oper.wp;rcases pU w kO with hg|⟨f,args,hg,dx⟩
    ·rw[hg];exact IH _ _ hr
    ·rw[hg];refine dx.mono ?_;rintro e w' ⟨rfl,rfl⟩;exact IH _ _ hr
   ·generalize hk:(item ops ks i).1=k at lP dI;cases k with
    |cx=>rw[fX hw]at lP;exact gg r5 (fun a w hh=>IH _ _ hh.2) lP
    |write=>rw[dK hw]at lP;exact gg r5 (fun a w hh=>IH _ _ hh) lP
    |_=>exact absurd rfl dI
theorem eA{id:Nat}{a:Act}{w:World}(ks:List Kd)(ord:List Nat)(pg:P.follows .mixedOrders=true)(ku:W6 ops ks ord=true)(h:ib P ops Q (ord.map (item ops ks)) a w.drew):(Code.region id ops true).wp P Q a w:=by
 simp only[W6,aW]at ku;obtain⟨hb,ha,fZ,dI,hp⟩:=ku;refine wp_region_draw fun t=>?_
 have hv:Valid ops (Region.schedule (P.follows .mixedOrders) ops t):=jm _ pg _ _ fun i o ho d hd=>by
  have hi:i<ops.size:=(Array.getElem?_eq_some_iff.1 ho).1
  have h1:=aG.1 (aG.1 hb i (bz.2 hi)) d (by
   have :ops.toList.getD i default=o:=by
    simp[Array.getElem?_eq_getElem hi]at ho ⊢;simp[ho]
   rw[this];exact hd)
  simpa[Nat.blt_eq]using h1
 generalize Region.schedule (P.follows .mixedOrders) ops t=l at hv ⊢;refine tt hb ha hv l [] ord rfl (fun x=>?_) hp a _ h;rw[hv.2.1 x];constructor
 ·intro hx;simpa[Nat.blt_eq]using aG.1 dI x hx
 ·intro hx;exact List.contains_iff_mem.1 (aG.1 fZ x (bz.2 hx))
end WB
namespace WB
open Go Go.RowKit
section
variable {P:Program} {ops:Array Oper} {Q:Exit->Act->World->Prop} {rest:List (Kd×Oper)} {k:Kd} {o:Oper} {a a':Act} {w:World} {v:Value}
theorem nP(h:Q .normal a w):ib P ops Q [] a w:=h
theorem fy(hw:Region.wanted o (yielded ops a.tmps)=true)(hv:∀w',(execOp a.eval o).run P w'=.ok (.value v) w')(hp:a.put o.dst v=a')(h:ib P ops Q rest a' w):ib P ops Q ((.pure,o)::rest) a w:=by
 rw[dL rfl hw];exact⟨v,fun w' _=>.inl (hv w'),by rw[hp];exact h⟩
end
def cU (w:World) (ad:Addr) (cs:List Value):Prop:= ∀j c,cs[j]? =some c->w.cell? (ad.add j)=some c
theorem cU.ext{w w':World}{ad:Addr}{cs:List Value}(h:cU w ad cs)(e:Ext w w'):cU w' ad cs:=fun j c hj=>e.cell (h j c hj)
theorem nV{P:Program}{w:World}{T:TypeId}{ad:Addr}{cs:List Value}(hT:(isAgg T).run P w=.ok true w)(hn:(Go.sizeOf T).run P w=.ok cs.length w)(hc:cU w ad cs):(loadVar T ad).run P w=.ok (.agg cs.toArray) w:=by
 simp[loadVar,hT,hn,run_loadCells_list (P:=P) (w:=w) ad cs hc]
theorem fb{P:Program}{w:World}{T:TypeId}{ad:Addr}{c:Value}(hT:(isAgg T).run P w=.ok false w)(hc:w.cell? ad=some c):(loadVar T ad).run P w=.ok c w:=by
 simp[loadVar,hT,hc]
section
variable {P:Program} {ops:Array Oper} {Q:Exit->Act->World->Prop} {rest:List (Kd×Oper)} {a a':Act} {w:World} {v:Value} {d:Option Tmp} {T ty:TypeId} {x:Operand} {pos:String} {after:Array Edge} {g:Option (Nat×Bool)} {ad:Addr}
theorem vO(hw:Region.wanted ⟨d,.load T x,ty,pos,after,g⟩ (yielded ops a.tmps)=true)(ha:a.eval x=.pointer (some ad))(hT:∀w,(isAgg T).run P w=.ok false w)(hc:w.cell? ad=some v)(hp:a.put d v=a')(h:ib P ops Q rest a' w):ib P ops Q ((.read,⟨d,.load T x,ty,pos,after,g⟩)::rest) a w:=by
 rw[dL rfl hw];refine⟨v,fun w' (e:Ext w w')=>?_,by rw[hp];exact h⟩;refine .inl ?_;simp[execOp,ha,Instr.loadAt,Instr.sureAddr,fb (hT w') (e.cell hc)]
theorem Hv{cs:List Value}(hw:Region.wanted ⟨d,.load T x,ty,pos,after,g⟩ (yielded ops a.tmps)=true)(ha:a.eval x=.pointer (some ad))(hT:∀w,(isAgg T).run P w=.ok true w)(hn:∀w,(Go.sizeOf T).run P w=.ok cs.length w)(hc:cU w ad cs)(hp:a.put d (.agg cs.toArray)=a')(h:ib P ops Q rest a' w):
 ib P ops Q ((.read,⟨d,.load T x,ty,pos,after,g⟩)::rest) a w:=by
 rw[dL rfl hw];refine⟨_,fun w' (e:Ext w w')=>?_,by rw[hp];exact h⟩;refine .inl ?_;simp[execOp,ha,Instr.loadAt,Instr.sureAddr,nV (hT w') (hn w') (hc.ext e)]
end
def ie (e:TypeId) (size:Nat) (v:Value) (n:Nat) (xs:List Value):HP:=fun h=>
 xs.length=n *size/\((v=.slice none 0 0/\n=0/\emp h)\/
  ∃g cap cur,v=.slice (some ⟨g,0,none⟩) n cap/\n<=cap/\cap<=maxLen/\cur.size=cap *size/\cur.toList.take (n *size)=xs/\bD g (.cells cur e (0,0)) h)
theorem JT{w0 w:World}{L:List HP}{A:HP}{p:Prop}(h:St w0 (A::L) w)(f:∀x,A x->p):p:=by
 obtain⟨x,hx,h1,h2,d,e,a,b⟩:=h.own;exact f _ a
namespace St
variable {w0 w w':World} {L:List HP} {e:TypeId} {size:Nat} {v v':Value} {n n':Nat} {xs xs':List Value}
theorem cr(h:St w0 (ie e size v n xs::L) w):
 (v=.slice none 0 0/\n=0/\xs=[]/\St w0 L w)\/
 ∃g cap cur,v=.slice (some ⟨g,0,none⟩) n cap/\n<=cap/\cap<=maxLen/\cur.size=cap *size/\cur.toList.take (n *size)=xs/\xs.length=n *size/\St w0 (bD g (.cells cur e (0,0))::L) w:=by
 obtain⟨x,hx,h1,h2,d,e',⟨hl,a⟩,b⟩:=h.own;rcases a with⟨rfl,rfl,he⟩|⟨g,cap,cur,rfl,a1,a2,a3,a4,a5⟩
 ·exact .inl ⟨rfl,rfl,List.eq_nil_of_length_eq_zero (by simpa using hl),h.drop⟩
 ·exact .inr ⟨g,cap,cur,rfl,a1,a2,a3,a4,hl,{h with own:=⟨x,hx,h1,h2,d,e',a5,b⟩}⟩
theorem pM(h:St w0 L w):St w0 (ie e size (.slice none 0 0) 0 []::L) w:=
 h.aah.imp fun _ he=>⟨by simp,.inl ⟨rfl,rfl,he⟩⟩
theorem ju{g cap:Nat}{cur:Array Value}(h:St w0 (bD g (.cells cur e (0,0))::L) w)(hn:n<=cap)(hc:cap<=maxLen)(hs:cur.size=cap *size)(ht:cur.toList.take (n *size)=xs):St w0 (ie e size (.slice (some ⟨g,0,none⟩) n cap) n xs::L) w:=
 h.imp fun _ hb=>⟨by rw[<-ht,bp,Array.length_toList,hs];exact Nat.min_eq_left (Nat.mul_le_mul_right _ hn),.inr ⟨g,cap,cur,rfl,hn,hc,hs,ht,hb⟩⟩
theorem r8(h:St w0 (ie e size v n xs::L) w):xs.length=n *size:=JT h fun _ hx=>hx.1
theorem o8(h:St w0 (ie e size v n xs::L) w):w.ownsRow w0.heap.size e size v n xs:=by
 refine⟨h.r8,?_⟩;rcases h.cr with⟨rfl,rfl,rfl,_⟩|⟨g,cap,cur,rfl,h1,h2,h3,h4,h5,h6⟩
 ·exact .inl ⟨rfl,rfl⟩
 ·exact .inr ⟨g,cap,cur,rfl,h6.look.1,h6.look.2,h1,h2,h3,h4⟩
theorem setRow{b:Nat}{c c':Array Value}{T:TypeId}{fz:Nat×Nat}(h:St w0 (bD b (.cells c T fz)::L) w):
 St w0 (bD b (.cells c' T fz)::L) (w.setRow b c'):=
 h.upd rfl rfl rfl aj (setRow_heap w b c c' T fz h.look.2) fun k hk=>setRow_other w b k c' hk
theorem aA(h:St w0 L w)(hb:Below w.heap.size w w'):St w0 L w':=by
 refine⟨hb.os.trans h.os,hb.tape.trans h.tape,hb.output.trans h.output,Nat.le_trans h.size hb.size,fun k hk=>?_,?_⟩
 ·rw[hb.block k (Nat.lt_of_lt_of_le hk h.size)];exact h.block k hk
 ·obtain⟨x,hx,c⟩:=h.own;refine⟨x,fun k o hk=>?_,c⟩;have :=hx k o hk;exact⟨this.1,by rw[hb.block k (Array.getElem?_eq_some_iff.1 this.2).1];exact this.2⟩
end St
theorem p8{P:Program}{w0 w:World}{L:List HP}(t ty e:TypeId)(i:TypeInfo)(z:Value)(size bytes:Nat)(ht:P.underlying t=some (.slice e))(hi:P.info? e=some i)(hz:i.zero=some z)(Dn:i.size=size)(SX:i.bytes=bytes)(P7:z.cells.size=size){v:Value}{n:Nat}{xs:List Value}(h:St w0 (ie e size v n xs::L) w)(a:Addr)(m c:Nat)(news:List Value)(hl:news.length=m *size)(pd:cU w a news)(h1:∀u∈news,u.oneCell'=true)(ZN:n+m<=maxLen)(Nh:(n+m)*bytes<=140737488355328):
 ∃v' w',(Builtin.append_ #[t,t] ty #[v,.slice (some a) m c]).run P w=.ok v' w'/\St w0 (ie e size v' (n+m) (xs++news)::L) w':=by
 subst Dn;subst SX;have adD:n+m<=9223372036854775807:=by simp only[maxLen]at ZN;omega
 have qd:=h.r8;have fresh:∀(yH:Nat),St w0 L w->St w0 (ie e i.size (.slice (some ⟨w.heap.size,0,none⟩) (n+m) (grownCap w (n+m) yH e)) (n+m) (xs++news)::L)
  (w.drew.alloc (.cells (xs.toArray++news.toArray++Builtin.zeroCells z.cells (grownCap w (n+m) yH e-(n+m))) e)):=by
  intro yH hL;refine(hL.drew.alloc _).ju (grownCap_ge w (n+m) yH e) (grownCap_le_maxLen w (n+m) yH e ZN) ?_ ?_
  ·have B7:=grownCap_ge w (n+m) yH e;simp only[Array.size_append,List.size_toArray,size_zeroCells,P7,qd,hl,<-Nat.add_mul];congr 1;omega
  ·simp only[Array.toList_append,aK];rw[<-aK,show(n+m)*i.size=(xs++news).length by rw[aQ,qd,hl,Nat.add_mul]];exact List.take_left
 rcases h.cr with⟨rfl,rfl,rfl,hL⟩|⟨g,cap,cur,rfl,tF,sP,mL,eO,_,hblk⟩
 ·by_cases hm:m=0
  ·subst hm;obtain rfl:news=[]:=List.eq_nil_of_length_eq_zero (by simpa using hl);refine⟨.slice none 0 0,w,?_,hL.pM⟩;simp[Builtin.append_,run_underlying ht,Go.sizeOf,typeInfo,hi,Builtin.lenOf,Builtin.firstCells,loadCells,loadCellsFrom]
  ·have hr:=run_append_nil (P:=P) w t ty e i z ht hi hz a m c news hl pd ae ae (by have hb:=Nh;simp only[Nat.zero_add]at hb;omega);have hf:=fresh 0 hL;simp only[Nat.zero_add,List.nil_append,Array.empty_append]at hf ⊢;exact⟨_,_,hr,hf⟩
 ·by_cases jM:n+m<=cap
  ·have nj:n *i.size+news.length<=cur.size:=by rw[hl,mL,<-Nat.add_mul];exact Nat.mul_le_mul_right _ jM
   have hr:=run_append_room (P:=P) w t ty e i ht hi g n cap cur hblk.look.2 a m c news hl pd h1 jM nj;refine⟨_,_,hr,hblk.setRow.ju jM sP ?_ ?_⟩
   ·simp only[List.size_toArray,aQ,bp,bo,Array.length_toList];omega
   ·simp only[aK];rw[eO,<-aK,show(n+m)*i.size=(xs++news).length by rw[aQ,qd,hl,Nat.add_mul]];exact List.take_left
  ·have holds:∀j u,xs[j]? =some u->w.cell? ((⟨g,0,none⟩:Addr).add j)=some u:=h.o8.cells (g:=g) rfl;have hr:=run_append_grow (P:=P) w t ty e i z ht hi hz ⟨g,0,none⟩ n cap xs qd holds a m c news hl pd ae ae (growslice_fits ae Nh);exact⟨_,_,hr,fresh cap hblk.drop⟩
section
variable {P:Program} {ops:Array Oper} {Q:Exit->Act->World->Prop} {rest:List Oper} {a:Act} {w w':World} {d:Option Tmp} {ty:TypeId} {pos:String} {after:Array Edge} {args:Array Operand} {argTypes:Array TypeId} {v:Value}
theorem O0{o:Oper}(hw:Region.wanted o (yielded ops a.tmps)=true)(hr:(execOp a.eval o).run P w=.ok (.value v) w')(h:∀K:Act->World->Prop,(∀a w,wpList P ops Q rest a w->K a w)->K (a.put o.dst v) w'):wpList P ops Q (o::rest) a w:=by
 refine wpList_step fun K hK=>?_
 rw[if_pos hw,Oper.wp,hr];exact h K hK
end
end WB
namespace WB
open Go Go.RowKit
def iu (a b:ak):Int:=Lib.compareBytes a.data.toList b.data.toList
theorem flat_get{α β:Type}(f:α->List β)(sz:Nat)(hf:∀x,(f x).length=sz)(d:α):∀(l:List α) (i k:Nat),i<l.length->k<sz->(l.flatMap f)[i *sz+k]? =(f (l.getD i d))[k]?
 |[],i,k,h,_=>by simp at h
 |x::l,0,k,_,hk=>by
  simp only[aO,Nat.zero_mul,Nat.zero_add,List.getD_cons_zero];rw[List.getElem?_append_left (by rw[hf];exact hk)]
 |x::l,i+1,k,h,hk=>by
  simp only[aO,List.getD_cons_succ];rw[bM (by rw[hf,Nat.succ_mul];omega),hf,show(i+1)*sz+k-sz=i *sz+k by rw[Nat.succ_mul];omega];exact flat_get f sz hf d l i k IF hk
theorem kx{α β:Type}(f:α->List β)(sz:Nat)(hf:∀x,(f x).length=sz):∀(l:List α),(l.flatMap f).length=l.length *sz
 |[]=>by simp
 |x::l=>by simp only[aO,aQ,List.length_cons,hf,kx f sz hf l,Nat.succ_mul];omega
structure Nm where
 name:ak
 iQ:ak
 b9:Int
instance:Inhabited Nm:=⟨⟨⟨#[]⟩,⟨#[]⟩,0⟩⟩
def Nm.cells (x:Nm):List Value:=[.string x.name,.string x.iQ,.int .i64 x.b9]
def bY (l:List Nm):List Value:=l.flatMap Nm.cells
def dU (l:List Nm) (i:Nat):Nm:=l.getD i default
theorem uC(l:List Nm):(bY l).length=l.length *3:=kx _ 3 (fun _=>rfl) l
theorem lJ{w0 w:World}{L:List HP}{E:TypeId}{g cap n:Nat}{l:List Nm}(h:St w0 (ie E 3 (.slice (some ⟨g,0,none⟩) n cap) n (bY l)::L) w){i:Nat}(hi:i<l.length):
 w.cell? ⟨g,i *3,none⟩=some (.string (dU l i).name)/\w.cell? ⟨g,i *3+1,none⟩=some (.string (dU l i).iQ)/\w.cell? ⟨g,i *3+2,none⟩=some (.int .i64 (dU l i).b9):=by
 have hl:=h.r8;rw[uC]at hl;have key:∀k,k<3->w.cell? ⟨g,i *3+k,none⟩=(dU l i).cells[k]? :=fun k hk=>by
  rw[h.o8.cellAt _ ae];exact flat_get _ 3 (fun _=>rfl) default l i k hi hk
 exact⟨key 0 ae,key 1 ae,key 2 ae⟩
theorem Below.cells{w w':World}(h:Below w.heap.size w w'){p:Addr}{v:Value}(hc:w.cell? p=some v):w'.cell? p=some v:=(Ext.bB h).cell hc
structure Hm (l:List Nm) (s:ak) (k:Nat):Prop where
 le:k<=l.length
 lo:∀p,p<k->iu (dU l p).name s<0
 hi:∀p,k<=p->p<l.length->0<=iu (dU l p).name s
def B3 (l:List Nm) (s:ak):Prop:= ∀p q,p<=q->q<l.length->iu (dU l q).name s<0->iu (dU l p).name s<0
def eW (l:List Nm) (s:ak) (k:Nat):Bool:=decide (k<l.length)&&(iu (dU l k).name s==0)
theorem fA{a b:Bool}(h:a=b):Ending.returned (.bool a)=.returned (.bool b):=by rw[h]
def pw:ak:=⟨#[97,98,99,100,101,102,103,104,105,106,107,108,109,110,111,112,113,114,115,116,117,118,119,120,121,122,48,49,50,51,52,53,54,55,56,57]⟩
def isLet (c:UInt8):Bool:=(97<=c&&c<=122)||(48<=c&&c<=57)
def gT (s:ak):Bool:=s.data.toList.all isLet
def dh (s:ak) (u6:Nat):Bool:=decide (1<=s.size)&&(decide (s.size<=u6)&&gT s)
theorem Bq(c:UInt8):pw.data.toList.contains c=isLet c:=by
 have h:∀n:Fin 256,pw.data.toList.contains (UInt8.ofNat n.val)=isLet (UInt8.ofNat n.val):=by decide+kernel
 have :=h ⟨c.toNat,c.toNat_lt⟩;simpa using this
theorem dropWhile_nil{α:Type}{p:α->Bool}:∀{l:List α},l.dropWhile p=[]↔l.all p=true
 |[]=>by simp
 |a::l=>by
  by_cases h:p a=true
  ·simp only[List.dropWhile_cons,h,if_true,List.all_cons,Bool.true_and];exact dropWhile_nil
  ·simp[h]
theorem IU(s:ak):Lib.trimS s.data.toList pw.data.toList=[]↔gT s=true:=by
 have hp:(fun c=>pw.data.toList.contains c)=isLet:=funext Bq;have fZ:∀l:List UInt8,(l.dropWhile isLet).all isLet=true↔l.all isLet=true:=fun l=>by
  induction l with
  |nil=>simp
  |cons a l ih=>
   by_cases h:isLet a=true
   ·simp[h,<-ih]
   ·simp[h]
 unfold Lib.trimS Lib.trimLeftS Lib.trimRightS gT;rw[hp,dropWhile_nil,List.all_reverse,fZ,List.all_reverse]
def cS (s:ak):Bool:=dh s 8
def jN (s:ak):Bool:=dh s 12
def ik (s:ak):Bool:=s.toList.isEmpty
def bW (x:Nm):Bool:=cS x.name&&(decide (-1<=x.b9)&&(decide (x.b9<=3)&&(cS x.iQ||(ik x.iQ&&x.b9== -1))))
theorem fc{P:Program}(w:World)(dT sT ty elem:TypeId)(i:TypeInfo)(g o VH ae8:Nat)(a:Addr)(oJ yT:Nat)(cur:Array Value)(t:TypeId)(cs:List Value)(hu:P.underlying dT=some (.slice elem))(hi:P.info? elem=some i)(hg:w.heap[g]? =some (.cells cur t (0,0)))(hn:cs.length=Nat.min oJ VH *i.size)(UD:cU w a cs)(nj:o+cs.length<=cur.size)(h1:∀v∈cs,v.oneCell'=true):
 (Builtin.copy_ #[dT,sT] ty #[.slice (some ⟨g,o,none⟩) VH ae8,.slice (some a) oJ yT]).run P w=
  .ok (goInt (Nat.min oJ VH:Nat)) (w.setRow g (cur.toList.take o++cs++cur.toList.drop (o+cs.length)).toArray):=by
 have hl:=run_loadCells_list (P:=P) (w:=w) a cs UD;have kO:=run_storeCells_at P g o t cs 0 cur w hg (by simpa using nj) h1;simp only[Nat.add_zero]at kO;simp[Builtin.copy_,run_underlying hu,Builtin.lenOf,Builtin.firstCells,Go.sizeOf,typeInfo,hi,<-hn,hl,kO]
theorem mS{P:Program}(w:World)(t tn ty e:TypeId)(i:TypeInfo)(z:Value)(k kn:IntKind)(ht:P.underlying t=some (.slice e))(YM:P.underlying tn=some (.int kn))(hi:P.info? e=some i)(hz:i.zero=some z)(b:Addr)(oJ yT:Nat)(PI:List Value)(F_:PI.length=oJ *i.size)(holds:cU w b PI)(n:Nat)(h0:0<n)(hs:0<i.size)(hg:yT<oJ+n)(ZN:((oJ+n:Nat):Int)<=9223372036854775807)(nj:Builtin.nextslicecap (oJ+n) yT *i.bytes<=281474976710656)(h48:n *i.bytes<=281474976710656):
 (Builtin.append_ #[t,tn] ty #[.slice (some b) oJ yT,.int k n]).run P w=
  .ok (.slice (some ⟨w.heap.size,0,none⟩) (oJ+n) (grownCap w (oJ+n) yT e))
   (w.drew.alloc (.cells (PI.toArray++Builtin.zeroCells z.cells n++Builtin.zeroCells z.cells (grownCap w (oJ+n) yT e-(oJ+n))) e)):=by
 have hn:n≠0:=by omega
 have zY:¬(oJ+n<=yT):=by omega
 have hw:IntKind.i64.wrap (n:Int)=n:=by rw[IntKind.wrap_i64];omega
 have aeI:¬(9223372036854775807<((oJ:Int)+(n:Int))):=by omega
 have aeK:¬(281474976710656<Builtin.nextslicecap (oJ+n) yT *i.bytes):=by omega
 have aeJ:¬(281474976710656<(n:Int)*(i.bytes:Int)):=by
  rw[<-Int.natCast_mul];omega
 have adV:¬((n:Int)<0):=by omega
 have E3:¬(n *i.size=0):=Nat.mul_ne_zero hn ae;have hfo:=run_firstCells_some (P:=P) w.drew i.size oJ b oJ yT PI F_ (by simpa[cU]using holds);simp[Builtin.append_,run_underlying ht,run_underlying YM,Go.sizeOf,typeInfo,zeroValue,hi,hz,asInt,asIntOf,hw,zY,adV,E3,aeI,aeK,aeJ,Question.forced,hfo,newRow,grownCap]
namespace St
variable {w0 w:World} {L:List HP} {b b':Nat} {c c':Array Value} {T T':TypeId}
theorem frozen(h:St w0 (bD b (.cells c T (0,0))::L) w)(o:Nat):w.frozen? ⟨b,o,none⟩=false:=by
 simp[World.frozen?,h.look.2]
theorem shape(h:St w0 (bD b (.cells c T (0,0))::L) w):w.shape? b=some (T,c.size):=by
 simp[World.shape?,h.look.2]
theorem eT{fz:Nat×Nat}(h:St w0 (bD b (.cells c T fz)::L) w){off:Nat}{cs:List Value}(hc:∀(j:Nat) (v:Value),cs[j]? =some v->c[off+j]? =some v):cU w ⟨b,off,none⟩ cs:=fun j v hj=>by
 rw[Addr.add_lit,World.cell?,h.look.2];exact hc j v hj
theorem fL{A B:HP}(h:St w0 (A::B::L) w):St w0 (B::A::L) w:=h.pick (.tail .head)
end St
theorem uA{P:Program}{w0 w:World}{L:List HP}{b b':Nat}{c c':Array Value}{T T':TypeId}(t tR e:TypeId)(i:TypeInfo)(ht:P.underlying t=some (.slice e))(hi:P.info? e=some i)(h:St w0 (bD b (.cells c T (0,0))::bD b' (.cells c' T' (0,0))::L) w)(o n cap o' n' ou:Nat)(hc':c'.size≠0):
 (Extern.SlicesOverlaps.overlaps #[t,t] #[tR] #[.slice (some ⟨b,o,none⟩) n cap,.slice (some ⟨b',o',none⟩) n' ou]).run P w=.ok (.bool false) w:=
 Lib.run_overlaps_apart w t tR e ht i.size (fun w=>by simp[Go.sizeOf,typeInfo,hi]) ⟨b,o,none⟩ ⟨b',o',none⟩ n cap n' ou h.ne T T' c.size c'.size h.shape h.drop.shape hc' (h.frozen o) (h.frozen _)
section
variable {P:Program} {ops:Array Oper} {Q:Exit->Act->World->Prop} {a a':Act} {w w':World} {o:Oper} {v:Value}
theorem lQ(d s:Operand)(t t':TypeId)(ho:o.op=.call ⟨.builtin .copy,#[d,s],#[t,t']⟩)(x u:Value)(hd:a.eval d=x)(hs:a.eval s=u)(hr:(Builtin.copy_ #[t,t'] o.type #[x,u]).run P w=.ok v w'):(execOp a.eval o).run P w=.ok (.value v) w':=by
 unfold execOp;simp only[ho,resolve,invoke,builtin,Sem.run_bind,Sem.run_pure,Result.andThen_ok,List.map_toArray,aT,List.map_nil,hd,hs,hr]
theorem jA(d s:Operand)(t t':TypeId)(ho:o.op=.call ⟨.builtin .append,#[d,s],#[t,t']⟩)(x u:Value)(hd:a.eval d=x)(hs:a.eval s=u)(hr:(Builtin.append_ #[t,t'] o.type #[x,u]).run P w=.ok v w'):(execOp a.eval o).run P w=.ok (.value v) w':=by
 unfold execOp;simp only[ho,resolve,invoke,builtin,Sem.run_bind,Sem.run_pure,Result.andThen_ok,List.map_toArray,aT,List.map_nil,hd,hs,hr]
theorem rO{rest:List Oper}(hg:o.guard=none)(d s:Operand)(t t':TypeId)(ho:o.op=.call ⟨.builtin .copy,#[d,s],#[t,t']⟩)(x u:Value)(hd:a.eval d=x)(hs:a.eval s=u)(hr:(Builtin.copy_ #[t,t'] o.type #[x,u]).run P w=.ok v w')(h:∀K:Act->World->Prop,(∀a w,wpList P ops Q rest a w->K a w)->K (a.put o.dst v) w'):wpList P ops Q (o::rest) a w:=
 O0 (by simp[Region.wanted,hg]) (lQ d s t t' ho x u hd hs hr) h
variable {rest:List (Kd×Oper)}
theorem kR(hw:Region.wanted o (yielded ops a.tmps)=true)(hr:(execOp a.eval o).run P w=.ok (.value v) w')(hp:a.put o.dst v=a')(h:ib P ops Q rest a' w'):ib P ops Q ((.write,o)::rest) a w:=by
 rw[dK hw,Oper.wp,hr];show ib P ops Q rest (a.put o.dst v) w';rw[hp];exact h
theorem qp(hw:Region.wanted o (yielded ops a.tmps)=true)(hr:(execOp a.eval o).run P w=.ok .skip w')(hp:a.put o.dst undef=a')(h:ib P ops Q rest a' w'):ib P ops Q ((.write,o)::rest) a w:=by
 rw[dK hw,Oper.wp,hr];show ib P ops Q rest (a.put o.dst undef) w';rw[hp];exact h
theorem Cm(hw:Region.wanted o (yielded ops a.tmps)=true)(hr:(execOp a.eval o).run P w=.ok (.value v) w')(he:Ext w w')(hp:a.put o.dst v=a')(h:ib P ops Q rest a' w'):ib P ops Q ((.cx,o)::rest) a w:=by
 rw[fX hw,Oper.wp,hr];refine⟨he,?_⟩;rw[hp];exact h
end
theorem j0{P:Program}{w0 w:World}{L:List HP}{b off:Nat}{c:Array Value}{T E:TypeId}{v:Value}(h:St w0 (bD b (.cells c E (0,0))::L) w)(hn:(Go.sizeOf T).run P w=.ok v.cells.size w)(nj:off+v.cells.size<=c.size)(h1:∀u∈v.cells.toList,u.oneCell'=true):
 (storeVar T ⟨b,off,none⟩ v).run P w=.ok () (w.setRow b (c.toList.take off++v.cells.toList++c.toList.drop (off+v.cells.toList.length)).toArray):=by
 have kO:=run_storeCells_at P b off E v.cells.toList 0 c w h.look.2 (by simpa using nj) h1;simp only[Nat.add_zero]at kO;simp[storeVar,hn,kO]
theorem mR{α:Type}(cur ins:List α)(k m n c:Nat)(hk:k<=n)(hm:ins.length=m)(hn:n+m<=c)(hc:cur.length=c):
 let c1:=cur.take (k+m)++((cur.take n).drop k)++cur.drop (n+m)
 (c1.take k++ins++c1.drop (k+m)).take (n+m)=(cur.take n).take k++ins++(cur.take n).drop k:=by
 intro c1;have h1:c1.take k=cur.take k:=by
  simp only[c1,aK];rw[List.take_append_of_le_length fV,List.take_take,Nat.min_eq_left ae]
 have h2:c1.drop (k+m)=(cur.take n).drop k++cur.drop (n+m):=by
  simp only[c1,aK];rw[List.drop_append_of_le_length fV,List.drop_of_length_le fV,List.nil_append]
 rw[h1,h2,List.take_take,Nat.min_eq_left hk];rw[<-aK,List.take_append_of_le_length fV];exact List.take_of_length_le fV
theorem uM{α:Type}(A Z vs D:List α)(k m d:Nat)(hA:A.length=k)(hv:vs.length=m)(hD:D.length=d):
 let C0:=A++Z;let C1:=C0.take k++vs++C0.drop (k+m)
 (C1.take (k+m)++D++C1.drop (k+m+d)).take (k+m+d)=A++vs++D:=by
 intro C0 C1;have h0:C0.take k=A:=by simp only[C0];rw[<-hA];exact List.take_left
 have h1:C1.take (k+m)=A++vs:=by
  simp only[C1,h0];rw[show k+m=(A++vs).length by simp[hA,hv]];exact List.take_left
 rw[h1,show k+m+d=(A++vs++D).length by simp[hA,hv,hD];omega];exact List.take_left
end WB
namespace WB
open Go Go.RowKit
namespace St
variable {w0 w:World} {L R:List HP} {b off:Nat} {c:Array Value} {T:TypeId} {fz:Nat×Nat} {v:Value}
theorem cell(h:St w0 (bD b (.cells c T fz)::L) w)(hc:c[off]? =some v):w.cell? ⟨b,off,none⟩=some v:=by
 rw[World.cell?,h.look.2];exact hc
theorem NP(h:St w0 L w)(p:bC L (bD b (.cells c T fz)) R)(hc:c[off]? =some v):w.cell? ⟨b,off,none⟩=some v:=(h.pick p).cell hc
end St
theorem Cn{P:Program}{ops:Array Oper}{Q:Exit->Act->World->Prop}{rest:List (Kd×Oper)}{o:Oper}{a a':Act}{w w':World}{v:Value}(hw:Region.wanted o (yielded ops a.tmps)=true)(hr:(execOp a.eval o).run P w=.ok (.value v) w')(he:Ext w w')(hp:a.put o.dst v=a')(h:ib P ops Q rest a' w'):ib P ops Q ((.cx,o)::rest) a w:=Cm hw hr he hp h
theorem Ext.alloc(w:World)(o:Obj):Ext w (w.alloc o):=⟨by simp,fun k hk=>Below.heap_alloc _ _ _ hk⟩
theorem yR{P:Program}{ops:Array Oper}{Q:Exit->Act->World->Prop}{rest:List (Kd×Oper)}{o:Oper}{a:Act}{w w':World}{f:FuncId}{args:Array Value}{R:Ending->World->Prop}(hw:Region.wanted o (yielded ops a.tmps)=true)(hr:(execOp a.eval o).run P w=.ok (.enter f args) w')(hc:Calls P f args w' R)(h:∀e rF,R e rF->∃v,e=.returned v/\ib P ops Q rest (a.put o.dst v) rF):ib P ops Q ((.write,o)::rest) a w:=by
 rw[dK hw,Oper.wp,hr];refine hc.mono fun e rF hR=>?_
 obtain⟨v,rfl,hv⟩:=h e rF hR;exact hv
theorem xX{P:Program}{a:Act}{w w':World}{d:Option Tmp}{T ty:TypeId}{x y:Operand}{pos:String}{after:Array Edge}{g:Option (Nat×Bool)}{ad:Addr}{v:Value}(ha:a.eval x=.pointer (some ad))(hv:a.eval y=v)(hr:(storeVar T ad v).run P w=.ok () w'):(execOp a.eval ⟨d,.store T x y,ty,pos,after,g⟩).run P w=.ok .skip w':=by
 simp[execOp,ha,hv,Instr.storeAt,Instr.sureAddr,hr]
theorem wQ{c:Array Value}{off:Nat}{v:Value}(h:c[off]? =some v):c.setIfInBounds off v=c:=by
 apply Array.ext
 ·simp
 ·intro i h1 h2;rw[Array.getElem_setIfInBounds];split
  ·rename_i e;subst e;rw[Array.getElem?_eq_getElem h2]at h;exact(Option.some.inj h).symm
  ·rfl
theorem Fs{c:Array Value}{off:Nat}{v:Value}(h:off<c.size):(c.toList.take off++[v]++c.toList.drop (off+1)).toArray=c.setIfInBounds off v:=by
 apply Array.ext';simp[List.set_eq_take_append_cons_drop,h]
theorem Cv{α:Type}(cur ins:List α)(k m n:Nat)(hi:ins.length=m)(h:k+m<=n)(hn:n<=cur.length):
 (cur.take k++ins++cur.drop (k+m)).take n=(cur.take n).take k++ins++(cur.take n).drop (k+m):=by
 have h1:(cur.take k++ins).length=k+m:=by simp[hi];omega
 rw[List.take_append,h1,List.take_of_length_le ae,List.take_take,Nat.min_eq_left ae,List.drop_take]
def bF (l:List Nm) (s:ak):Nat:=(l.takeWhile fun x=>decide (iu x.name s<0)).length
theorem gV{α:Type}(p:α->Bool):∀l:List α,(l.takeWhile p).length<=l.length
 |[]=>aC _
 |a::l=>by
  by_cases h:p a=true
  ·simp only[List.takeWhile_cons,h,if_true,List.length_cons];have :=gV p l;omega
  ·simp[h]
theorem jZ:∀{l:List Nm} {s:ak} {k:Nat},Hm l s k->k=bF l s
 |[],s,k,h=>by have :=h.le;simp at this;subst this;rfl
 |x::l,s,k,h=>by
  unfold bF;by_cases hx:iu x.name s<0
  ·simp only[List.takeWhile_cons,hx,decide_true,if_true,List.length_cons];cases k with
   |zero=>exact absurd hx (Int.not_lt.2 (h.hi 0 (aC _) aj))
   |succ k=>
    have :Hm l s k:=⟨by have :=h.le;simp at this;omega,fun p hp=>h.lo (p+1) ae,fun p hp hl=>h.hi (p+1) ae fV⟩;rw[jZ this];rfl
  ·simp only[List.takeWhile_cons,hx,decide_false];cases k with
   |zero=>rfl
   |succ k=>exact absurd (h.lo 0 ae) hx
def cu (l:List Nm) (x:Nm):Int:=
 if bW x=false then 1 else if eW l x.name (bF l x.name)=true then 0 else if 20<=l.length then 12 else 0
def d_ (l:List Nm) (x:Nm):List Nm:=
 if bW x=false then l else if eW l x.name (bF l x.name)=true then l.set (bF l x.name) x
 else if 20<=l.length then l else l.take (bF l x.name)++x::l.drop (bF l x.name)
def cz (T:TypeId) (k:Int):Value:=if k=0 then .nilIface else .iface T (.int .i64 k)
theorem lr{α β:Type}(f:α->List β)(sz:Nat)(hf:∀x,(f x).length=sz):∀(l:List α) (k:Nat),k<=l.length->(l.flatMap f).take (k *sz)=(l.take k).flatMap f
 |l,0,_=>by simp
 |[],k+1,h=>by simp at h
 |x::l,k+1,h=>by
  simp only[aO,List.take_succ_cons];rw[List.take_append,hf,show(k+1)*sz-sz=k *sz by rw[Nat.succ_mul];omega,lr f sz hf l k IF,List.take_of_length_le (by rw[hf,Nat.succ_mul];omega)]
theorem lu{α β:Type}(f:α->List β)(sz:Nat)(hf:∀x,(f x).length=sz):∀(l:List α) (k:Nat),k<=l.length->(l.flatMap f).drop (k *sz)=(l.drop k).flatMap f
 |l,0,_=>by simp
 |[],k+1,h=>by simp at h
 |x::l,k+1,h=>by
  simp only[aO,List.drop_succ_cons];rw[List.drop_append,hf,show(k+1)*sz-sz=k *sz by rw[Nat.succ_mul];omega,lu f sz hf l k IF,List.drop_of_length_le (by rw[hf,Nat.succ_mul];omega),List.nil_append]
theorem xo(l:List Nm)(x:Nm)(k:Nat)(hk:k<=l.length):(bY l).take (k *3)++x.cells++(bY l).drop (k *3)=bY (l.take k++x::l.drop k):=by
 unfold bY;rw[lr _ 3 (fun _=>rfl) l k hk,lu _ 3 (fun _=>rfl) l k hk];simp
theorem uB(l:List Nm):∀u∈bY l,u.oneCell'=true:=fun u hu=>by
 obtain⟨x,_,hx⟩:=List.mem_flatMap.1 hu;simp[Nm.cells]at hx;rcases hx with rfl|rfl|rfl<;>rfl
theorem Nm.cells_one(x:Nm):∀u∈x.cells,u.oneCell'=true:=fun u hu=>by
 simp[Nm.cells]at hu;rcases hu with rfl|rfl|rfl<;>rfl
theorem C5(l:List Nm)(x:Nm)(k:Nat)(hk:k<l.length):(bY l).take (k *3)++x.cells++(bY l).drop (k *3+3)=bY (l.set k x):=by
 unfold bY;rw[lr _ 3 (fun _=>rfl) l k ae,show k *3+3=(k+1)*3 by omega,lu _ 3 (fun _=>rfl) l (k+1) ae,List.set_eq_take_append_cons_drop];simp[hk]
theorem IX(l:List Nm)(x:Nm):(d_ l x).length<=max l.length 20:=by
 unfold d_;split
 ·omega
 ·split
  ·simp;omega
  ·split
   ·omega
   ·have :bF l x.name<=l.length:=gV _ _;simp;omega
end WB
namespace WB
open Go Go.RowKit
def look (l:List Nm) (s:ak):Option Nm:=if eW l s (bF l s)=true then some (dU l (bF l s))else none
def dO (l:List Nm) (s:ak):Bool:=match look l s with|some x=>ik x.iQ|none=>false
def fe (l:List Nm):Nat->ak->ak×Int×Int
 |0,_=>(⟨#[]⟩,0,11)
 |n+1,s=>match look l s with
  |none=>(⟨#[]⟩,0,7)
  |some x=>if ik x.iQ=true then(s,-1,0)else if 0<=x.b9 then(x.iQ,x.b9,0)else fe l n x.iQ
theorem zK{l:List Nm}{s:ak}(h:eW l s (bF l s)=false):look l s=none:=by simp[look,h]
theorem zJ{l:List Nm}{s:ak}(h:eW l s (bF l s)=true):look l s=some (dU l (bF l s)):=by simp[look,h]
theorem tH{l:List Nm}{s:ak}{k:Nat}(h:eW l s k=true):k<l.length:=by
 unfold eW at h;rw[aW]at h;simpa using h.1
theorem Ar:∀a:List UInt8,Lib.compareBytes a a=0
 |[]=>rfl
 |x::a=>by
  have :¬x<x:=by rw[UInt8.lt_iff_toNat_lt];omega
  simp only[Lib.compareBytes,this,if_false];exact Ar a
theorem Iz:∀{a b:List UInt8},Lib.compareBytes a b=0->a=b
 |[],[],_=>rfl
 |[],_::_,h=>by simp[Lib.compareBytes]at h
 |_::_,[],h=>by simp[Lib.compareBytes]at h
 |x::a,y::b,h=>by
  unfold Lib.compareBytes at h;split at h
  ·simp at h
  ·split at h
   ·simp at h
   ·rename_i h1 h2;have :x=y:=UInt8.toNat_inj.1 (by rw[UInt8.lt_iff_toNat_lt]at h1 h2;omega);rw[this,Iz h]
theorem As:∀(a b:List UInt8),Lib.compareBytes a b= -Lib.compareBytes b a
 |[],[]=>rfl
 |[],_::_=>rfl
 |_::_,[]=>rfl
 |x::a,y::b=>by
  unfold Lib.compareBytes;by_cases h1:x<y
  ·have h2:¬y<x:=by rw[UInt8.lt_iff_toNat_lt]at *;omega
   simp[h1,h2]
  ·by_cases h2:y<x
   ·simp[h1,h2]
   ·simp only[h1,h2,if_false];exact As a b
theorem yf:∀{a b c:List UInt8},Lib.compareBytes a b<0->Lib.compareBytes b c<0->Lib.compareBytes a c<0
 |[],_,[],h1,h2=>by cases ‹List UInt8› <;>simp[Lib.compareBytes]at h1 h2
 |[],_,_::_,_,_=>by simp[Lib.compareBytes]
 |_::_,[],_,h1,_=>by simp[Lib.compareBytes]at h1
 |_::_,_::_,[],_,h2=>by simp[Lib.compareBytes]at h2
 |x::a,y::b,z::c,h1,h2=>by
  unfold Lib.compareBytes at h1 h2 ⊢;simp only[UInt8.lt_iff_toNat_lt]at h1 h2 ⊢;by_cases e1:x.toNat<y.toNat
  ·by_cases e2:y.toNat<z.toNat
   ·have :x.toNat<z.toNat:=by omega
    simp[this]
   ·by_cases e3:z.toNat<y.toNat
    ·simp[e2,e3]at h2
    ·have :x.toNat<z.toNat:=by omega
     simp[this]
  ·by_cases e1':y.toNat<x.toNat
   ·simp[e1,e1']at h1
   ·simp only[e1,e1',if_false]at h1;by_cases e2:y.toNat<z.toNat
    ·have :x.toNat<z.toNat:=by omega
     simp[this]
    ·by_cases e3:z.toNat<y.toNat
     ·simp[e2,e3]at h2
     ·simp only[e2,e3,if_false]at h2;have n1:¬x.toNat<z.toNat:=by omega
      have n2:¬z.toNat<x.toNat:=by omega
      simp only[n1,n2,if_false];exact yf h1 h2
theorem lz(a:ak):iu a a=0:=Ar _
theorem sC{a b:ak}(h:iu a b=0):a=b:=by
 have :=Iz h;cases a;cases b;rename_i x y;cases x;cases y;simp at this;rw[this]
theorem tZ(a b:ak):iu a b= -iu b a:=As _ _
theorem rq{a b c:ak}(h1:iu a b<0)(h2:iu b c<0):iu a c<0:=yf h1 h2
def du (l:List Nm):Prop:=l.Pairwise fun a b=>iu a.name b.name<0
theorem du.mono{l:List Nm}(h:du l)(s:ak):B3 l s:=fun p q OL hq hs=>by
 rcases Nat.lt_or_eq_of_le OL with dI|rfl
 ·have :=List.pairwise_iff_getElem.1 h p q ae hq dI;rw[show dU l p=l[p]' ae by simp[dU,aq,show p<l.length by omega]];rw[show dU l q=l[q]by simp[dU,aq,hq]]at hs;exact rq this hs
 ·exact hs
theorem Fp:du []:=List.Pairwise.nil
def lk (l:List Nm) (s:ak):Option Nm:=l.find? fun x=>decide (x.name=s)
def oN (x:Nm):List Nm->List Nm
 |[]=>[x]
 |y::l=>if iu y.name x.name<0 then y::oN x l else if iu y.name x.name=0 then x::l else x::y::l
theorem eu(x:Nm)(l:List Nm)(s:ak):lk (x::l) s=if x.name=s then some x else lk l s:=by
 unfold lk;rw[List.find?_cons];by_cases h:x.name=s<;>simp[h]
theorem xv{l:List Nm}{s:ak}(h:∀y∈l,iu s y.name<0):lk l s=none:=by
 unfold lk;rw[List.find?_eq_none];intro y hy he;have :=h y hy;simp at he;rw[he,lz]at this;omega
theorem jd:∀{l:List Nm} (_:du l) (s:ak),look l s=lk l s
 |[],_,s=>rfl
 |x::l,h,s=>by
  obtain⟨h1,h2⟩:=List.pairwise_cons.1 h;rw[eu];by_cases hx:iu x.name s<0
  ·have hs:bF (x::l) s=bF l s+1:=by simp[bF,List.takeWhile_cons,hx]
   have kF:x.name≠s:=fun e=>by rw[e,lz]at hx;omega
   rw[if_neg kF,<-jd h2 s];unfold look;rw[hs];have :eW (x::l) s (bF l s+1)=eW l s (bF l s):=by simp[eW,dU]
   rw[this];rfl
  ·have hs:bF (x::l) s=0:=by simp[bF,List.takeWhile_cons,hx]
   unfold look;rw[hs];by_cases he:x.name=s
   ·simp[eW,dU,he,lz]
   ·have h0:iu x.name s≠0:=fun e=>he (sC e)
    have :eW (x::l) s 0=false:=by simp[eW,dU,h0]
    rw[this,if_neg he];have dI:iu s x.name<0:=by rw[tZ];omega
    rw[xv fun y hy=>rq dI (h1 y hy)];rfl
theorem Dg{x y:Nm}:∀{l:List Nm},y∈oN x l->y=x\/y∈l
 |[],h=>by simp[oN]at h;exact Or.inl h
 |z::l,h=>by
  unfold oN at h;split at h
  ·rcases aJ.1 h with h|h
   ·exact Or.inr (by simp[h])
   ·rcases Dg h with h|h
    ·exact Or.inl h
    ·exact Or.inr (by simp[h])
  ·split at h
   ·rcases aJ.1 h with h|h
    ·exact Or.inl h
    ·exact Or.inr (by simp[h])
   ·rcases aJ.1 h with h|h
    ·exact Or.inl h
    ·exact Or.inr h
theorem l8{x:Nm}:∀{l:List Nm},du l->du (oN x l)
 |[],_=>List.pairwise_singleton _ _
 |z::l,h=>by
  obtain⟨h1,h2⟩:=List.pairwise_cons.1 h;unfold oN;split
  ·rename_i hz;refine List.pairwise_cons.2 ⟨fun y hy=>?_,l8 h2⟩;rcases Dg hy with rfl|hy
   ·exact hz
   ·exact h1 y hy
  ·split
   ·rename_i he;have he:=sC he;exact List.pairwise_cons.2 ⟨fun y hy=>he▸h1 y hy,h2⟩
   ·rename_i h3 h4;have dI:iu x.name z.name<0:=by rw[tZ];omega
    refine List.pairwise_cons.2 ⟨fun y hy=>?_,h⟩;rcases aJ.1 hy with rfl|hy
    ·exact dI
    ·exact rq dI (h1 y hy)
theorem AZ{x:Nm}(s:ak):∀{l:List Nm},lk (oN x l) s=if x.name=s then some x else lk l s
 |[]=>by rw[oN,eu]
 |z::l=>by
  unfold oN;split
  ·rename_i hz;rw[eu,AZ s,eu];by_cases h1:z.name=s
   ·have :x.name≠s:=fun e=>by rw[h1,e,lz]at hz;omega
    simp[h1,this]
   ·simp[h1]
  ·split
   ·rename_i he;have he:=sC he;rw[eu,eu];by_cases h1:x.name=s
    ·simp[h1]
    ·simp[h1,he]
   ·rw[eu]
theorem CM(x:Nm):∀(l:List Nm),(if eW l x.name (bF l x.name)=true then l.set (bF l x.name) x else l.take (bF l x.name)++x::l.drop (bF l x.name))=oN x l
 |[]=>by simp[eW,bF,oN]
 |z::l=>by
  unfold oN;by_cases hz:iu z.name x.name<0
  ·have hs:bF (z::l) x.name=bF l x.name+1:=by simp[bF,List.takeWhile_cons,hz]
   have hh:eW (z::l) x.name (bF l x.name+1)=eW l x.name (bF l x.name):=by simp[eW,dU]
   rw[if_pos hz,hs,hh,<-CM x l];split<;>simp
  ·have hs:bF (z::l) x.name=0:=by simp[bF,List.takeWhile_cons,hz]
   rw[if_neg hz,hs];by_cases he:iu z.name x.name=0
   ·simp[eW,dU,he]
   ·simp[eW,dU,he]
theorem pQ{l:List Nm}{s:ak}{x:Nm}(h:lk l s=some x):x∈l/\x.name=s:=⟨List.mem_of_find?_eq_some h,by simpa using List.find?_some h⟩
theorem wP:∀{l l':List Nm},du l->du l'->(∀s,lk l s=lk l' s)->l=l'
 |[],[],_,_,_=>rfl
 |[],y::l',_,_,h=>by have :=h y.name;rw[eu]at this;simp[lk]at this
 |x::l,[],_,_,h=>by have :=h x.name;rw[eu]at this;simp[lk]at this
 |x::l,y::l',h1,h2,h=>by
  obtain⟨a1,a2⟩:=List.pairwise_cons.1 h1;obtain⟨b1,b2⟩:=List.pairwise_cons.1 h2;have e1:=h x.name;have e2:=h y.name;rw[eu,eu,if_pos rfl]at e1;rw[eu,eu,if_pos rfl]at e2;have hn:y.name=x.name:=by
   rcases Decidable.em (y.name=x.name)with e|e
   ·exact e
   ·rw[if_neg e]at e1;rw[if_neg (fun h=>e h.symm)]at e2;have c1:=b1 _ (pQ e1.symm).1;have c2:=a1 _ (pQ e2).1;rw[tZ]at c1;omega
  rw[if_pos hn]at e1;simp at e1;subst e1;rw[wP a2 b2 fun s=>?_];have e3:=h s;rw[eu,eu]at e3;by_cases hs:x.name=s
  ·subst hs;rw[xv a1,xv b1]
  ·simpa[hs]using e3
def PJ (l:List Nm) (s:ak):Option ak:=match look l s with
 |some x=>if ik x.iQ=true then none else if 0<=x.b9 then none else some x.iQ
 |none=>none
def dy (l:List Nm) (s:ak):Nat->Option ak
 |0=>some s
 |i+1=>(dy l s i).bind (PJ l)
theorem CI{l:List Nm}:∀(n:Nat) (s:ak),(fe l n s).2.2=0\/(fe l n s).2.2=7\/(fe l n s).2.2=11
 |0,s=>by simp[fe]
 |n+1,s=>by
  rw[fe];split
  ·simp
  ·split
   ·simp
   ·split
    ·simp
    ·exact CI n _
theorem kT{l:List Nm}(h:du l):(l.map Nm.name).Nodup:=by
 rw[List.nodup_iff_pairwise_ne,List.pairwise_map];exact h.imp fun {a b} wi e=>by rw[e,lz]at wi;omega
open Go Go.RowKit Go.ChangeMaps Go.MapKept
def Vs (es:List MapEntry) (m:List (ak×Value)):Prop:=es.map (fun e=>(e.key,e.val))=m.map (fun x=>(Value.string x.1,x.2))
def omap (b:Nat) (m:List (ak×Value)):HP:=ex fun es:Array MapEntry=>ex fun gY:Nat=>sep (CP (Vs es.toList m)) (bD b (.map es gY))
def aeQ (m:List (ak×Value)) (s:ak):Option Value:=match m with
 |[]=>none
 |x::r=>if x.1=s then some x.2 else aeQ r s
def ac6 (m:List (ak×Value)) (s:ak) (v:Value):List (ak×Value):=match m with
 |[]=>[(s,v)]
 |x::r=>if x.1=s then(x.1,v)::r else x::ac6 r s v
def mC (m:List (ak×Value)) (s:ak):Option Nat:=match m with
 |[]=>none
 |x::r=>if x.1=s then some 0 else(mC r s).map (· +1)
variable {w0 w:World} {L:List HP} {P:Program} {b:Nat} {m:List (ak×Value)}
end WB
namespace WB
open Go Go.RowKit
variable {w0 w:World} {L:List HP} {P:Program}
end WB
namespace WB
open Go Go.RowKit
abbrev Env:=List (Nat×Value)
def cF:Env->Nat->Option Value
 |[],_=>none
 |(s,v)::r,t=>match Nat.beq s t with|true=>some v|false=>cF r t
def ev (G:Env):Operand->Option Value
 | .tmp t=>cF G t
 | .const v=>some v
 | .global g=>some (.pointer (some ⟨g,0,none⟩))
 | .func f=>some (.func (.func f) #[] #[])
structure ct (n:Nat) (D:List Deferred) (G:Env) (a:Act):Prop where
 size:a.tmps.size=n
 defers:a.defers=D
 get:∀t v,cF G t=some v->a.tmps[t]? =some v
theorem rj(s:Nat)(v:Value)(r:Env)(t:Nat):cF ((s,v)::r) t=if s=t then some v else cF r t:=by
 show(match Nat.beq s t with|true=>some v|false=>cF r t)=_
 cases h:Nat.beq s t with
 |true=>rw[if_pos (Nat.eq_of_beq_eq_true h)]
 |false=>rw[if_neg (fun e=>by rw[e,Nat.beq_refl]at h;cases h)]
section
variable {n:Nat} {D:List Deferred} {G G':Env} {a:Act} {x:Operand} {v:Value}
theorem ct.eval(h:ct n D G a)(hx:ev G x=some v):a.eval x=v:=by
 cases x with
 |tmp t=>
  have :=h.get t v hx;simp[Act.eval,Array.getD_eq_getD_getElem?,this]
 |const u=>simp only[ev,ay]at hx;exact hx
 |global g=>simp only[ev,ay]at hx;exact hx
 |func f=>simp only[ev,ay]at hx;exact hx
theorem ct.put(h:ct n D G a)(t:Nat)(v:Value)(ht:t<n):ct n D ((t,v)::G) (a.put (some t) v):=by
 refine⟨by simp[Act.put,h.size],h.defers,fun s u hs=>?_⟩;rw[rj]at hs;by_cases e:t=s
 ·subst e;rw[if_pos rfl]at hs;have :t<a.tmps.size:=by rw[h.size];exact ht
  simp[Act.put,this];simpa using hs
 ·rw[if_neg e]at hs;simp[Act.put,e];exact h.get s u hs
def BZ (G:Env):Env->Prop
 |[]=>True
 |(t,v)::r=>cF G t=some v/\BZ G r
theorem BZ.get:∀{G':Env},BZ G G'->∀t v,cF G' t=some v->cF G t=some v
 |[],_,t,v,h=>by simp[cF]at h
 |(s,u)::r,⟨h1,h2⟩,t,v,h=>by
  rw[rj]at h;by_cases e:s=t
  ·subst e;rw[if_pos rfl]at h;rw[h1];exact h
  ·rw[if_neg e]at h;exact BZ.get h2 t v h
theorem ct.sub(h:ct n D G a)(hs:BZ G G'):ct n D G' a:=⟨h.size,h.defers,fun t v ht=>h.get t v (hs.get t v ht)⟩
end
def jW:Nat->List Value->Env
 |_,[]=>[]
 |i,v::r=>(i,v)::jW (i+1) r
theorem yo:∀(l:List Value) (i t:Nat) (v:Value),cF (jW i l) t=some v->i<=t/\l[t-i]? =some v
 |[],i,t,v,h=>by simp[jW,cF]at h
 |u::l,i,t,v,h=>by
  rw[jW,rj]at h;by_cases e:i=t
  ·subst e;rw[if_pos rfl]at h;exact⟨aC _,by simpa using h⟩
  ·rw[if_neg e]at h;obtain⟨h1,h2⟩:=yo l (i+1) t v h;refine⟨by omega,?_⟩;rw[show t-i=(t-(i+1))+1 by omega];simpa using h2
theorem ct.enter{args:Array Value}{n:Nat}(h:args.size<=n):ct n [] (jW 0 args.toList) {tmps:=args++Array.replicate (n-args.size) undef,defers:=[]}:=by
 refine⟨by simp;omega,rfl,fun t v ht=>?_⟩;have :=(yo _ _ _ _ ht).2;rw[Nat.sub_zero]at this;have dI:t<args.size:=by
  have :=(au.1 this).1;simpa using this
 simp only[Array.getElem?_append,dI,if_true];simpa using this
def Fh (d:Bool) (P:Program) (ops:Array Oper) (Q:Exit->Act->World->Prop) (l:List (Kd×Oper)) (a:Act) (w:World):Prop:=
 match d with|true=>ib P ops Q l a w|false=>wpList P ops Q (l.map (·.2)) a w
def Ub (d:Bool) (Q:Exit->Act->World->Prop):Exit->Act->World->Prop:=match d with|true=>pq Q|false=>Q
section
variable {d:Bool} {P:Program} {ops:Array Oper} {Q:Exit->Act->World->Prop} {rest:List (Kd×Oper)} {k:Kd} {o:Oper} {a:Act} {w:World} {v:Value}
theorem Co(hw:Region.wanted o (yielded ops a.tmps)=false)(h:Fh d P ops Q rest (a.put o.dst undef) w):Fh d P ops Q ((k,o)::rest) a w:=by
 cases d with
 |true=>show ib _ _ _ _ _ _;rw[o0 hw];exact h
 |false=>exact wpList_skip hw h
theorem lh(hw:Region.wanted o (yielded ops a.tmps)=true){l:List Oper}(h:o.wp P a w (wpList P ops Q l) Q):wpList P ops Q (o::l) a w:=by
 unfold wpList;rw[if_pos hw];exact .inl h
theorem O7(hw:Region.wanted o (yielded ops a.tmps)=true)(hv:∀w',(execOp a.eval o).run P w'=.ok (.value v) w')(h:Fh d P ops Q rest (a.put o.dst v) w):Fh d P ops Q ((k,o)::rest) a w:=by
 cases d with
 |true=>
  show ib _ _ _ _ _ _
  by_cases hl:k.m_=true
  ·rw[dL hl hw];exact⟨v,fun w' _=>.inl (hv w'),h⟩
  ·cases k with
   |cx=>rw[fX hw];unfold Oper.wp;rw[hv];exact⟨Ext.refl w,h⟩
   |write=>rw[dK hw];unfold Oper.wp;rw[hv];exact h
   |_=>exact absurd rfl hl
 |false=>exact lh hw (by unfold Oper.wp;rw[hv];exact h)
theorem Lm(hk:(!d||k != .pure)=true)(hw:Region.wanted o (yielded ops a.tmps)=true)(hv:∀w',Ext w w'->(execOp a.eval o).run P w'=.ok (.value v) w')(h:Fh d P ops Q rest (a.put o.dst v) w):
 Fh d P ops Q ((k,o)::rest) a w:=by
 cases d with
 |true=>
  show ib _ _ _ _ _ _
  cases k with
  |pure=>simp at hk
  |read=>rw[dL rfl hw];exact⟨v,fun w' e=>.inl (hv w' e),h⟩
  |same=>rw[dL rfl hw];exact⟨v,fun w' (e:w'=w)=>.inl (by subst e;exact hv _ (Ext.refl _)),h⟩
  |cx=>rw[fX hw];unfold Oper.wp;rw[hv _ (Ext.refl w)];exact⟨Ext.refl w,h⟩
  |write=>rw[dK hw];unfold Oper.wp;rw[hv _ (Ext.refl w)];exact h
 |false=>exact lh hw (by unfold Oper.wp;rw[hv _ (Ext.refl w)];exact h)
theorem Cp(hk:(!d||(k== .cx||k== .write))=true)(hw:Region.wanted o (yielded ops a.tmps)=true)(h:o.wp P a w (fun a' w'=>Ext w w'/\Fh d P ops Q rest a' w') (fun _ _ _=>False)):Fh d P ops Q ((k,o)::rest) a w:=by
 cases d with
 |true=>
  show ib _ _ _ _ _ _
  cases k with
  |pure=>simp at hk
  |read=>simp at hk
  |same=>simp at hk
  |cx=>rw[fX hw];exact sU (fun _ _ x=>x) h
  |write=>rw[dK hw];exact sU (fun a w hh=>hh.2) h
 |false=>exact lh hw (sU (fun a w hh=>hh.2) h)
theorem jO(hk:(!d||k== .write)=true)(hw:Region.wanted o (yielded ops a.tmps)=true)(h:o.wp P a w (fun a' w'=>Fh d P ops Q rest a' w') (Ub d Q)):Fh d P ops Q ((k,o)::rest) a w:=by
 cases d with
 |true=>
  show ib _ _ _ _ _ _
  cases k with
  |write=>rw[dK hw];exact h
  |_=>simp at hk
 |false=>exact lh hw h
end
section
variable (P:Program)
def KO (ops:Array Oper) (d:Bool) (Q:Exit->Act->World->Prop) (n:Nat) (D:List Deferred) (w0:World) (G:Env) (L:List HP) (l:List (Kd×Oper)):Prop:=
 ∀a w,ct n D G a->St w0 L w->Fh d P ops Q l a w
def K (c:Code) (Q:Exit->Act->World->Prop) (n:Nat) (D:List Deferred) (w0:World) (G:Env) (L:List HP):Prop:=
 ∀a w,ct n D G a->St w0 L w->c.wp P Q a w
end
def KQ (Q:Exit->Act->World->Prop) (e:Exit) (n:Nat) (D:List Deferred) (w0:World) (G:Env) (L:List HP):Prop:=
 ∀a w,ct n D G a->St w0 L w->Q e a w
section
variable {P:Program} {ops:Array Oper} {d:Bool} {Q:Exit->Act->World->Prop} {n:Nat} {D:List Deferred} {w0:World} {G G':Env} {L L':List HP} {l:List (Kd×Oper)} {c x y:Code} {e:Exit}
def wr:List Oper->List (Kd×Oper)
 |[]=>[]
 |o::l=>(.write,o)::wr l
theorem Fa:∀l:List Oper,(wr l).map (·.2)=l
 |[]=>rfl
 |o::l=>by simp[wr,Fa l]
theorem K.FA{id:Nat}{l:List Oper}(h:KO P l.toArray false Q n D w0 G L (wr l)):K P (.region id l.toArray false) Q n D w0 G L:=fun a w ha hw=>by
 have :=h a w ha hw;simp only[Fh,Fa]at this;exact wp_region_lit this
theorem K.draw{id:Nat}(ks:List Kd)(ord:List Nat)(pg:P.follows .mixedOrders=true)(ku:W6 ops ks ord=true)(h:KO P ops true Q n D w0 G L (ord.map (item ops ks))):K P (.region id ops true) Q n D w0 G L:=fun a _ ha hw=>
 eA ks ord pg ku (h a _ ha hw.drew)
theorem KO.nil(h:KQ Q .normal n D w0 G L):KO P ops d Q n D w0 G L []:=fun a w ha hw=>by
 cases d with
 |true=>exact h a w ha hw
 |false=>exact h a w ha hw
theorem K.seq(h:K P x (Exit.then (y.wp P Q) Q) n D w0 G L):K P (.seq x y) Q n D w0 G L:=fun a w ha hw=>wp_seq (h a w ha hw)
theorem K.block{id:Nat}(h:K P x (Exit.inBlock id Q) n D w0 G L):K P (.block id x) Q n D w0 G L:=fun a w ha hw=>wp_block (h a w ha hw)
theorem K.ret(h:KQ Q .ret n D w0 G L):K P .ret Q n D w0 G L:=fun a w ha hw=>wp_ret (h a w ha hw)
theorem K.skip(h:KQ Q .normal n D w0 G L):K P .skip Q n D w0 G L:=fun a w ha hw=>wp_skip (h a w ha hw)
theorem K.exit{id:Nat}(h:KQ Q (.exit id) n D w0 G L):K P (.exit id) Q n D w0 G L:=fun a w ha hw=>wp_exit (h a w ha hw)
theorem K.cond{cd:Operand}{b:Bool}(hc:ev G cd=some (.bool b))(ht:b=true->K P x Q n D w0 G L)(hf:b=false->K P y Q n D w0 G L):K P (.cond cd x y) Q n D w0 G L:=fun a w ha hw=>
 wp_cond_split (ha.eval hc) (fun e=>ht e a w ha hw) (fun e=>hf e a w ha hw)
theorem K.bI{cd:Operand}{p:Prop}[Decidable p](hc:ev G cd=some (.bool (decide p)))(ht:p->K P x Q n D w0 G L)(hf:¬p->K P y Q n D w0 G L):K P (.cond cd x y) Q n D w0 G L:=
 K.cond hc (fun e=>ht (of_decide_eq_true e)) (fun e=>hf (of_decide_eq_false e))
theorem K.cA{cd:Operand}{b:Bool}(hc:ev G cd=some (.bool b))(hb:b=true)(h:K P x Q n D w0 G L):K P (.cond cd x y) Q n D w0 G L:=
 K.cond hc (fun _=>h) (fun e=>by rw[hb]at e;cases e)
theorem K.cP{cd:Operand}{b:Bool}(hc:ev G cd=some (.bool b))(hb:b=false)(h:K P y Q n D w0 G L):K P (.cond cd x y) Q n D w0 G L:=
 K.cond hc (fun e=>by rw[hb]at e;cases e) (fun _=>h)
theorem KQ.next(h:K P y Q n D w0 G L):KQ (Exit.then (y.wp P Q) Q) .normal n D w0 G L:=h
theorem KQ.iZ{N:Act->World->Prop}{i:Nat}(h:KQ Q (.exit i) n D w0 G L):KQ (Exit.then N Q) (.exit i) n D w0 G L:=h
theorem KQ.mQ{N:Act->World->Prop}(h:KQ Q .ret n D w0 G L):KQ (Exit.then N Q) .ret n D w0 G L:=h
theorem KQ.wJ{N:Act->World->Prop}{ch:List PanicEntry}(h:KQ Q (.panic ch) n D w0 G L):KQ (Exit.then N Q) (.panic ch) n D w0 G L:=h
theorem KQ.wo{i:Nat}(h:KQ Q .ret n D w0 G L):KQ (Exit.inBlock i Q) .ret n D w0 G L:=h
theorem KQ.gS{i:Nat}(h:KQ Q .normal n D w0 G L):KQ (Exit.inBlock i Q) .normal n D w0 G L:=h
theorem KQ.kD{i:Nat}(h:KQ Q .normal n D w0 G L):KQ (Exit.inBlock i Q) (.exit i) n D w0 G L:=fun a w ha hw=>by
 show if i=i then Q .normal a w else Q (.exit i) a w
 rw[if_pos rfl];exact h a w ha hw
theorem KQ.Ec{i j:Nat}(kF:Nat.beq j i=false)(h:KQ Q (.exit j) n D w0 G L):KQ (Exit.inBlock i Q) (.exit j) n D w0 G L:=fun a w ha hw=>by
 show if j=i then Q .normal a w else Q (.exit j) a w
 rw[if_neg (fun e=>by rw[e,Nat.beq_refl]at kF;cases kF)];exact h a w ha hw
theorem K.conv(hs:∀w,St w0 L w->St w0 L' w)(h:K P c Q n D w0 G L'):K P c Q n D w0 G L:=fun a w ha hw=>h a w ha (hs w hw)
theorem KO.conv(hs:∀w,St w0 L w->St w0 L' w)(h:KO P ops d Q n D w0 G L' l):KO P ops d Q n D w0 G L l:=fun a w ha hw=>h a w ha (hs w hw)
theorem KQ.conv(hs:∀w,St w0 L w->St w0 L' w)(h:KQ Q e n D w0 G L'):KQ Q e n D w0 G L:=fun a w ha hw=>h a w ha (hs w hw)
theorem K.fact{p:Prop}(hs:∀w,St w0 L w->p)(h:p->K P c Q n D w0 G L):K P c Q n D w0 G L:=fun a w ha hw=>h (hs w hw) a w ha hw
theorem KO.fact{p:Prop}(hs:∀w,St w0 L w->p)(h:p->KO P ops d Q n D w0 G L l):KO P ops d Q n D w0 G L l:=fun a w ha hw=>h (hs w hw) a w ha hw
theorem K.cg{α:Sort _}{F:α->List HP}(hs:∀w,St w0 L w->∃x,St w0 (F x) w)(h:∀x,K P c Q n D w0 G (F x)):K P c Q n D w0 G L:=fun a w ha hw=>by
 obtain⟨x,hx⟩:=hs w hw;exact h x a w ha hx
def OE {α:Type} (n:Nat) (D:List Deferred) (w0:World) (E:α->Env) (H:α->List HP) (φ:α->Prop) (m:α->Nat) (x:α) (a:Act) (w:World):Prop:=
 ∃y,φ y/\m y<m x/\ct n D (E y) a/\St w0 (H y) w
theorem K.loop{α:Type}(E:α->Env)(H:α->List HP)(φ:α->Prop)(m:α->Nat)(x0:α)(h0:φ x0)(hG:BZ G (E x0))(hL:∀w,St w0 L w->St w0 (H x0) w)(round:∀x,φ x->K P c (Exit.then (OE n D w0 E H φ m x) Q) n D w0 (E x) (H x)):K P (.loop c) Q n D w0 G L:=fun a w ha hw=>by
 have key:∀(N:Nat) (x:α) (a:Act) (w:World),m x<N->φ x->ct n D (E x) a->St w0 (H x) w->Code.rounds P c Q N a w:=by
  intro N
  induction N with
  |zero=>intro x a w h;omega
  |succ N ih=>
   intro x a w dI hx ha hw;rw[rounds_succ];refine Go.wp_mono (round x hx a w ha hw) fun e a w hq=>?_
   cases e with
   |normal=>
    obtain⟨y,hy,UU,rJ,hw'⟩:=hq;exact ih y a w ae hy rJ hw'
   |_=>exact hq
 exact wp_loop_rounds (m x0+1) (key _ x0 a w (Nat.lt_succ_self _) h0 (ha.sub hG) (hL w hw))
theorem KQ.round{α:Type}{E:α->Env}{H:α->List HP}{φ:α->Prop}{m:α->Nat}{x:α}(y:α)(hy:φ y)(hm:m y<m x)(hG:BZ G (E y))(hL:∀w,St w0 L w->St w0 (H y) w):
 KQ (Exit.then (OE n D w0 E H φ m x) Q) .normal n D w0 G L:=fun _ w ha hw=>⟨y,hy,hm,ha.sub hG,hL w hw⟩
end
def KC (P:Program) (f:FuncId) (args:Array Value) (w0:World) (L:List HP) (R:Value->List HP->Prop):Prop:=
 ∀w,St w0 L w->Calls P f args w fun e w'=> ∃v L',e=.returned v/\R v L'/\St w0 L' w'
def KE (P:Program) (f:FuncId) (args:Array Value) (w0:World) (L:List HP) (R:Value->List HP->Prop):Prop:=
 ∀w,St w0 L w->Calls P f args w fun e w'=> ∃v L',e=.returned v/\R v L'/\St w0 L' w'/\Below w.heap.size w w'
def KP (P:Program) (f:FuncId) (args:Array Value) (w0:World) (L:List HP) (R:Ending->List HP->Prop):Prop:=
 ∀w,St w0 L w->Calls P f args w fun e w'=> ∃L',R e L'/\St w0 L' w'
def R5 (w0:World) (R:Value->List HP->Prop):Ending->World->Prop:=fun e w'=> ∃v L',e=.returned v/\R v L'/\St w0 L' w'
section
variable {P:Program} {f:FuncId} {args:Array Value} {w0:World} {L:List HP} {R R':Value->List HP->Prop}
theorem KC.mono(h:KC P f args w0 L R)(hr:∀v L',R v L'->R' v L'):KC P f args w0 L R':=fun w hw=>(h w hw).mono fun _ _ ⟨v,L',a,b,c⟩=>⟨v,L',a,hr _ _ b,c⟩
theorem KE.mono(h:KE P f args w0 L R)(hr:∀v L',R v L'->R' v L'):KE P f args w0 L R':=fun w hw=>(h w hw).mono fun _ _ ⟨v,L',a,b,c⟩=>⟨v,L',a,hr _ _ b,c⟩
theorem KC.mk{fn:Func}{c:Code}{n:Nat}(hf:P.funcs[f]? =some fn)(hb:fn.body=some c)(hn:fn.ntmps=n)(cj:args.size<=n)(h:K P c (bodyPost P fn (R5 w0 R)) n [] w0 (jW 0 args.toList) L):KC P f args w0 L R:=fun w hw=>by
 subst hn;exact calls_of_wp hf hb (h _ w (ct.enter cj) hw)
theorem KE.mk{fn:Func}{c:Code}{n:Nat}(hf:P.funcs[f]? =some fn)(hb:fn.body=some c)(hn:fn.ntmps=n)(cj:args.size<=n)(h:∀w,St w0 L w->K P c (bodyPost P fn fun e w'=> ∃v L',e=.returned v/\R v L'/\St w0 L' w'/\Below w.heap.size w w') n [] w (jW 0 args.toList) []):KE P f args w0 L R:=fun w hw=>by
 subst hn;exact calls_of_wp hf hb (h w hw _ w (ct.enter cj) (St.init w))
theorem KP.mk{RE:Ending->List HP->Prop}{fn:Func}{c:Code}{n:Nat}(hf:P.funcs[f]? =some fn)(hb:fn.body=some c)(hn:fn.ntmps=n)(cj:args.size<=n)(h:K P c (bodyPost P fn fun e w'=> ∃L',RE e L'/\St w0 L' w') n [] w0 (jW 0 args.toList) L):KP P f args w0 L RE:=fun w hw=>by
 subst hn;exact calls_of_wp hf hb (h _ w (ct.enter cj) hw)
end
section
variable {P:Program} {fn:Func} {R:Ending->World->Prop} {n:Nat} {w0:World} {G:Env} {L:List HP} {v v1 v2 v3:Value} {t t1 t2 t3:Nat}
theorem Yi(hr:fn.results=#[.tmp t])(hv:cF G t=some v)(a:Act)(w:World)(ha:ct n [] G a):(results fn a.tmps).run P w=.ok v w:=by
 rw[results_tmp hr];simp[Array.getD_eq_getD_getElem?,ha.get _ _ hv]
theorem ac3(hr:fn.results=#[.tmp t1,.tmp t2])(h1:cF G t1=some v1)(h2:cF G t2=some v2)(a:Act)(w:World)(ha:ct n [] G a):(results fn a.tmps).run P w=.ok (.tuple #[v1,v2]) w:=by
 rw[results_tmp2 hr];simp[Array.getD_eq_getD_getElem?,ha.get _ _ h1,ha.get _ _ h2]
theorem ac2(hr:fn.results=#[.tmp t1,.tmp t2,.tmp t3])(h1:cF G t1=some v1)(h2:cF G t2=some v2)(h3:cF G t3=some v3)(a:Act)(w:World)(ha:ct n [] G a):
 (results fn a.tmps).run P w=.ok (.tuple #[v1,v2,v3]) w:=by
 rw[results_tmp3 hr];simp[Array.getD_eq_getD_getElem?,ha.get _ _ h1,ha.get _ _ h2,ha.get _ _ h3]
theorem KQ.fin(hr:∀a w,ct n [] G a->St w0 L w->(results fn a.tmps).run P w=.ok v w)(h:∀w,St w0 L w->R (.returned v) w):KQ (bodyPost P fn R) .ret n [] w0 G L:=fun a w ha hw=>⟨ha.defers,v,hr a w ha hw,h w hw⟩
theorem KQ.dj(hr:∀a w,ct n [] G a->St w0 L w->(results fn a.tmps).run P w=.ok v w)(h:∀w,St w0 L w->R (.returned v) w):KQ (bodyPost P fn R) .normal n [] w0 G L:=fun a w ha hw=>⟨ha.defers,v,hr a w ha hw,h w hw⟩
theorem KQ.a_(hr:fn.results=#[.tmp t])(hv:cF G t=some v)(h:∀w,St w0 L w->R (.returned v) w):KQ (bodyPost P fn R) .ret n [] w0 G L:=
 KQ.fin (fun a w ha _=>Yi hr hv a w ha) h
theorem KQ.ef(hr:fn.results=#[.tmp t1,.tmp t2])(h1:cF G t1=some v1)(h2:cF G t2=some v2)(h:∀w,St w0 L w->R (.returned (.tuple #[v1,v2])) w):KQ (bodyPost P fn R) .ret n [] w0 G L:=
 KQ.fin (fun a w ha _=>ac3 hr h1 h2 a w ha) h
theorem KQ.CG(hr:fn.results=#[.tmp t1,.tmp t2,.tmp t3])(h1:cF G t1=some v1)(h2:cF G t2=some v2)(h3:cF G t3=some v3)(h:∀w,St w0 L w->R (.returned (.tuple #[v1,v2,v3])) w):KQ (bodyPost P fn R) .ret n [] w0 G L:=
 KQ.fin (fun a w ha _=>ac2 hr h1 h2 h3 a w ha) h
theorem KQ.T7(hr:fn.results=#[])(h:∀w,St w0 L w->R (.returned (.tuple #[])) w):KQ (bodyPost P fn R) .ret n [] w0 G L:=
 KQ.fin (fun a w _ _=>results_none hr a.tmps P w) h
theorem KQ.tU(hr:fn.results=#[])(h:∀w,St w0 L w->R (.returned (.tuple #[])) w):KQ (bodyPost P fn R) .normal n [] w0 G L:=
 KQ.dj (fun a w _ _=>results_none hr a.tmps P w) h
end
section
variable {P:Program} {ops:Array Oper} {d:Bool} {Q:Exit->Act->World->Prop} {n:Nat} {D:List Deferred} {w0:World} {G:Env} {L R:List HP} {l:List (Kd×Oper)} {k:Kd}
 {t:Nat} {op:Op} {ty T T' E:TypeId} {pos:String} {af:Array Edge} {x y z:Operand} {v u:Value} {b b':Bool} {i j off:Nat} {a c:Int} {ad:Addr} {g:Option (Nat×Bool)} {dst:Option Nat}
theorem KO.JY(h:∀a,ct n D G a->Region.wanted ⟨dst,op,ty,pos,af,g⟩ (yielded ops a.tmps)=true)(hk:KO P ops d Q n D w0 G L ((k,⟨dst,op,ty,pos,af,none⟩)::l)):
 KO P ops d Q n D w0 G L ((k,⟨dst,op,ty,pos,af,g⟩)::l):=fun a w ha hw=>by
 have h1:=h a ha;have h2:=hk a w ha hw;have h0:Region.wanted ⟨dst,op,ty,pos,af,none⟩ (yielded ops a.tmps)=true:=rfl;cases d with
 |true=>
  change ib _ _ _ _ _ _ at h2
  show ib _ _ _ _ _ _
  by_cases hl:k.m_=true
  ·rw[dL hl h0]at h2;rw[dL hl h1];exact h2
  ·cases k with
   |cx=>rw[fX h0]at h2;rw[fX h1];exact h2
   |write=>rw[dK h0]at h2;rw[dK h1];exact h2
   |_=>exact absurd rfl hl
 |false=>
  simp only[Fh,aT,wpList,h0,h1,if_true]at h2 ⊢;exact h2
theorem rR{a:Act}(ha:ct n D G a)(hj:(ops[j]?).bind (·.dst)=some t)(hb:cF G t=some (.bool b)):Region.wanted ⟨dst,op,ty,pos,af,some (j,b')⟩ (yielded ops a.tmps)=(b==b'):=by
 simp only[Region.wanted,yielded,hj,Option.bind_some,ha.get _ _ hb];cases b<;>cases b'<;>rfl
theorem KO.on(hj:(ops[j]?).bind (·.dst)=some t)(hb:cF G t=some (.bool b))(he:b=b')(hk:KO P ops d Q n D w0 G L ((k,⟨dst,op,ty,pos,af,none⟩)::l)):
 KO P ops d Q n D w0 G L ((k,⟨dst,op,ty,pos,af,some (j,b')⟩)::l):=KO.JY (fun _ ha=>by rw[rR ha hj hb,he];simp) hk
theorem fQ{a:Act}(ha:ct n D G a)(v:Value)(ht:Nat.blt t n=true):ct n D ((t,v)::G) (a.put (some t) v):=ha.put t v (by simpa[Nat.blt_eq]using ht)
theorem KO.no{s:Nat}(hj:(ops[j]?).bind (·.dst)=some s)(hb:cF G s=some (.bool b))(he:b= !b')(ht:Nat.blt t n=true)(hk:KO P ops d Q n D w0 ((t,undef)::G) L l):
 KO P ops d Q n D w0 G L ((k,⟨some t,op,ty,pos,af,some (j,b')⟩)::l):=fun a w ha hw=>
 Co (by rw[rR ha hj hb,he];cases b'<;>rfl) (hk _ w (fQ ha undef ht) hw)
theorem AH{a:Act}(ha:ct n D G a)(hj:(ops[j]?).bind (·.dst)=some t)(hb:cF G t=some undef):Region.wanted ⟨dst,op,ty,pos,af,some (j,b')⟩ (yielded ops a.tmps)=false:=by
 simp only[Region.wanted,yielded,hj,Option.bind_some,ha.get _ _ hb];cases b'<;>rfl
theorem KO.no2{s:Nat}(hj:(ops[j]?).bind (·.dst)=some s)(hb:cF G s=some undef)(ht:Nat.blt t n=true)(hk:KO P ops d Q n D w0 ((t,undef)::G) L l):
 KO P ops d Q n D w0 G L ((k,⟨some t,op,ty,pos,af,some (j,b')⟩)::l):=fun a w ha hw=>
 Co (AH ha hj hb) (hk _ w (fQ ha undef ht) hw)
theorem KO.val(hv:∀a w,ct n D G a->(execOp a.eval ⟨some t,op,ty,pos,af,none⟩).run P w=.ok (.value v) w)(ht:Nat.blt t n=true)(h:KO P ops d Q n D w0 ((t,v)::G) L l):
 KO P ops d Q n D w0 G L ((k,⟨some t,op,ty,pos,af,none⟩)::l):=fun a w ha hw=>O7 rfl (fun w'=>hv a w' ha) (h _ w (fQ ha v ht) hw)
theorem KO.rd(hk:(!d||k != .pure)=true)(hv:∀a w w',ct n D G a->St w0 L w->Ext w w'->(execOp a.eval ⟨some t,op,ty,pos,af,none⟩).run P w'=.ok (.value v) w')(ht:Nat.blt t n=true)(h:KO P ops d Q n D w0 ((t,v)::G) L l):
 KO P ops d Q n D w0 G L ((k,⟨some t,op,ty,pos,af,none⟩)::l):=fun a w ha hw=>Lm hk rfl (fun w' e=>hv a w w' ha hw e) (h _ w (fQ ha v ht) hw)
def evF (G:Env) (x:Operand):Value:=(ev G x).getD undef
theorem KO.mv(hx:ev G x=some v)(ht:Nat.blt t n=true)(h:KO P ops d Q n D w0 ((t,v)::G) L l):KO P ops d Q n D w0 G L ((k,⟨some t,.move x,ty,pos,af,none⟩)::l):=
 KO.val (fun a w ha=>by simp[execOp,ha.eval hx]) ht h
theorem KO.as(hx:ev G x=some v)(ht:Nat.blt t n=true)(h:KO P ops d Q n D w0 ((t,v)::G) L l):KO P ops d Q n D w0 G L ((k,⟨some t,.assign x,ty,pos,af,none⟩)::l):=
 KO.val (fun a w ha=>by simp[execOp,ha.eval hx]) ht h
theorem KO.pick(hx:ev G x=some (.bool b))(hv:(if b then ev G y else ev G z)=some v)(ht:Nat.blt t n=true)(h:KO P ops d Q n D w0 ((t,v)::G) L l):KO P ops d Q n D w0 G L ((k,⟨some t,.pick x y z,ty,pos,af,none⟩)::l):=
 KO.val (fun a w ha=>by
  cases b with
  |true=>simp only[if_true]at hv;simp[execOp,ha.eval hx,ha.eval hv,asBool]
  |false=>simp only[Bool.false_eq_true,if_false]at hv;simp[execOp,ha.eval hx,ha.eval hv,asBool]) ht h
theorem KO.nc(hx:ev G x=some (.pointer (some ad)))(ht:Nat.blt t n=true)(h:KO P ops d Q n D w0 ((t,.pointer (some ad))::G) L l):KO P ops d Q n D w0 G L ((k,⟨some t,.nilCheck x,ty,pos,af,none⟩)::l):=
 KO.val (fun a w ha=>by simp[execOp,ha.eval hx]) ht h
theorem KO.aeW{vs:Array Value}(hx:ev G x=some (.tuple vs))(hv:vs[i]? =some v)(ht:Nat.blt t n=true)(h:KO P ops d Q n D w0 ((t,v)::G) L l):KO P ops d Q n D w0 G L ((k,⟨some t,.extract x i,ty,pos,af,none⟩)::l):=
 KO.val (fun a w ha=>by simp[execOp,ha.eval hx,Instr.extract,hv]) ht h
theorem KO.Nx{vs:List Value}(hx:ev G x=some (.tuple vs.toArray))(hv:vs[i]? =some v)(ht:Nat.blt t n=true)(h:KO P ops d Q n D w0 ((t,v)::G) L l):KO P ops d Q n D w0 G L ((k,⟨some t,.extract x i,ty,pos,af,none⟩)::l):=
 KO.aeW hx (by simpa using hv) ht h
theorem KO.mki(hx:ev G x=some v)(hc:P.concrete T=true)(ht:Nat.blt t n=true)(h:KO P ops d Q n D w0 ((t,.iface T v)::G) L l):KO P ops d Q n D w0 G L ((k,⟨some t,.makeInterface T x,ty,pos,af,none⟩)::l):=
 KO.val (fun a w ha=>by simp[execOp,ha.eval hx,run_makeInterface _ _ _ hc]) ht h
theorem KO.mkf{f:Fn}{xs ys:Array Operand}{us vs:Array Value}(h1:xs.toList.map (ev G)=us.toList.map some)(h2:ys.toList.map (ev G)=vs.toList.map some)(ht:Nat.blt t n=true)(h:KO P ops d Q n D w0 ((t,.func f us vs)::G) L l):
 KO P ops d Q n D w0 G L ((k,⟨some t,.makeFunc f xs ys,ty,pos,af,none⟩)::l):=
 KO.val (fun a w ha=>by
  have key:∀(xs:List Operand) (us:List Value),xs.map (ev G)=us.map some->xs.map a.eval=us:=by
   intro xs
   induction xs with
   |nil=>intro us h;cases us with|nil=>rfl|cons _ _=>simp at h
   |cons x xs ih=>intro us h;cases us with
    |nil=>simp at h
    |cons u us=>simp only[aT,List.cons.injEq]at h ⊢;exact⟨ha.eval h.1,ih us h.2⟩
  have e1:xs.map a.eval=us:=by apply Array.ext';simpa using key _ _ h1
  have e2:ys.map a.eval=vs:=by apply Array.ext';simpa using key _ _ h2
  simp[execOp,Instr.makeFunc,e1,e2]) ht h
theorem KO.fld{fs:Array Field}{f:Nat}{fd:Field}{sz:Nat}(hx:ev G x=some (.pointer (some ad)))(hu:∀w,(underlying T).run P w=.ok (.struct fs) w)(hf:fs[f]? =some fd)(hs:∀w,(Go.sizeOf fd.type).run P w=.ok (sz+1) w)(ht:Nat.blt t n=true)(h:KO P ops d Q n D w0 ((t,.pointer (some (ad.add fd.offset)))::G) L l):KO P ops d Q n D w0 G L ((k,⟨some t,.fieldAddr T x f,ty,pos,af,none⟩)::l):=
 KO.val (fun a w ha=>by simp[execOp,ha.eval hx,Instr.fieldAt,hu w,hf,Instr.sureAddr,fieldPlace,hs w]) ht h
theorem KO.idx{g:Nat}{o len cap sz:Nat}{kk:IntKind}(hx:ev G x=some (.slice (some ⟨g,o,none⟩) len cap))(hy:ev G y=some (.int kk a))(hu:∀w,(underlying T).run P w=.ok (.slice E) w)(hs:∀w,(Go.sizeOf E).run P w=.ok sz w)(ha:a=(i:Int))(hb:i<len)(ht:Nat.blt t n=true)(h:KO P ops d Q n D w0 ((t,.pointer (some ⟨g,o+i *sz,none⟩))::G) L l):KO P ops d Q n D w0 G L ((k,⟨some t,.indexAddr T x y,ty,pos,af,none⟩)::l):=
 KO.val (fun a' w rJ=>by
  subst ha;have :(0:Int)<=(i:Int)/\(i:Int)<(len:Int):=⟨by omega,by omega⟩
  simp[execOp,rJ.eval hx,rJ.eval hy,Instr.indexAt,hu w,asIntOf,hs w,hb,Addr.add_lit]) ht h
theorem KO.mC{len sz:Nat}{kk:IntKind}(hx:ev G x=some (.pointer (some ad)))(hy:ev G y=some (.int kk a))(hu:∀w,(underlying T).run P w=.ok (.array len E) w)(hs:∀w,(Go.sizeOf E).run P w=.ok sz w)(ha:a=(i:Int))(hb:i<len)(ht:Nat.blt t n=true)(h:KO P ops d Q n D w0 ((t,.pointer (some (ad.add (i *sz))))::G) L l):KO P ops d Q n D w0 G L ((k,⟨some t,.indexAddr T x y,ty,pos,af,none⟩)::l):=
 KO.val (fun a' w rJ=>by
  subst ha
  simp[execOp,rJ.eval hx,rJ.eval hy,Instr.indexAt,hu w,asIntOf,hs w,hb,Instr.sureAddr]) ht h
theorem KO.ld{b:Nat}{cs:List Value}{fz:Nat×Nat}(hk:(!d||k != .pure)=true)(hx:ev G x=some (.pointer (some ⟨b,off,none⟩)))(hT:∀w,(isAgg T).run P w=.ok false w)(hp:bC L (bD b (.cells cs.toArray E fz)) R)(hc:cs[off]? =some v)(ht:Nat.blt t n=true)(h:KO P ops d Q n D w0 ((t,v)::G) L l):KO P ops d Q n D w0 G L ((k,⟨some t,.load T x,ty,pos,af,none⟩)::l):=
 KO.rd hk (fun a w w' ha hw e=>by
  have iD:w.cell? ⟨b,off,none⟩=some v:=by rw[World.cell?,(hw.lK hp).2];simpa using hc
  simp[execOp,ha.eval hx,Instr.loadAt,Instr.sureAddr,fb (hT w') (e.cell iD)]) ht h
theorem KO.pb(hk:(!d||k != .pure)=true)(hx:ev G x=some (.pointer (some ad)))(hT:∀w,(isAgg T).run P w=.ok false w)(hc:w0.cell? ad=some v)(ht:Nat.blt t n=true)(h:KO P ops d Q n D w0 ((t,v)::G) L l):KO P ops d Q n D w0 G L ((k,⟨some t,.load T x,ty,pos,af,none⟩)::l):=
 KO.rd hk (fun a w w' ha hw e=>by
  simp[execOp,ha.eval hx,Instr.loadAt,Instr.sureAddr,fb (hT w') (e.cell ((Ext.bB hw.below).cell hc))]) ht h
theorem KO.W7(hk:(!d||k != .pure)=true)(hx:ev G x=some (.pointer (some ad)))(hT:∀w,(isAgg T).run P w=.ok false w)(hc:∀w,St w0 L w->w.cell? ad=some v)(ht:Nat.blt t n=true)(h:KO P ops d Q n D w0 ((t,v)::G) L l):KO P ops d Q n D w0 G L ((k,⟨some t,.load T x,ty,pos,af,none⟩)::l):=
 KO.rd hk (fun a w w' ha hw e=>by
  simp[execOp,ha.eval hx,Instr.loadAt,Instr.sureAddr,fb (hT w') (e.cell (hc w hw))]) ht h
theorem KO.Uq{cs:Array Value}{sz:Nat}(hk:(!d||k != .pure)=true)(hx:ev G x=some (.pointer (some ad)))(hT:∀w,(isAgg T).run P w=.ok true w)(hn:∀w,(Go.sizeOf T).run P w=.ok sz w)(cj:cs.size=sz)(hc:∀w,St w0 L w->cU w ad cs.toList)(ht:Nat.blt t n=true)(h:KO P ops d Q n D w0 ((t,.agg cs)::G) L l):KO P ops d Q n D w0 G L ((k,⟨some t,.load T x,ty,pos,af,none⟩)::l):=
 KO.rd hk (fun a w w' ha hw e=>by
  have :=nV (P:=P) (hT w') (by rw[hn w',<-cj];rfl) ((hc w hw).ext e)
  simp[execOp,ha.eval hx,Instr.loadAt,Instr.sureAddr,this]) ht h
theorem KO.Ur{b:Nat}{cs:List Value}{us:List Value}{fz:Nat×Nat}{sz:Nat}(hk:(!d||k != .pure)=true)(hx:ev G x=some (.pointer (some ⟨b,off,none⟩)))(hT:∀w,(isAgg T).run P w=.ok true w)(hn:∀w,(Go.sizeOf T).run P w=.ok sz w)(hp:bC L (bD b (.cells cs.toArray E fz)) R)(hu:(cs.drop off).take sz=us)(cj:us.length=sz)(ht:Nat.blt t n=true)(h:KO P ops d Q n D w0 ((t,.agg us.toArray)::G) L l):KO P ops d Q n D w0 G L ((k,⟨some t,.load T x,ty,pos,af,none⟩)::l):=
 KO.Uq hk hx hT hn (by simpa using cj) (fun w hw j c hj=>by
  have SO:=(hw.lK hp).2;rw[show(us.toArray).toList=us from rfl,<-hu,List.getElem?_take]at hj;split at hj
  ·rw[List.getElem?_drop]at hj;rw[Addr.add_lit,World.cell?,SO];simpa using hj
  ·simp at hj) ht h
theorem KO.pS(hk:(!d||(k== .cx||k== .write))=true){F:Nat->Value}{N:Nat->List HP}(hr:∀a w,ct n D G a->St w0 L w->∃bb w',(execOp a.eval ⟨some t,op,ty,pos,af,none⟩).run P w=.ok (.value (F bb)) w'/\Ext w w'/\St w0 (N bb) w')(ht:Nat.blt t n=true)(h:∀bb,KO P ops d Q n D w0 ((t,F bb)::G) (N bb) l):KO P ops d Q n D w0 G L ((k,⟨some t,op,ty,pos,af,none⟩)::l):=fun a w ha hw=>by
 obtain⟨bb,w',hr,he,hs⟩:=hr a w ha hw;refine Cp hk rfl ?_;unfold Oper.wp;rw[hr];exact⟨he,h bb _ w' (fQ ha _ ht) hs⟩
theorem KO.box(hk:(!d||(k== .cx||k== .write))=true){cs:List Value}(hx:ev G x=some v)(hc:v.cells=cs.toArray)(ht:Nat.blt t n=true)(h:∀bb,KO P ops d Q n D w0 ((t,.pointer (some ⟨bb,0,none⟩))::G) (bD bb (.cells cs.toArray E (0,0))::L) l):KO P ops d Q n D w0 G L ((k,⟨some t,.box E x,ty,pos,af,none⟩)::l):=
 KO.pS hk (F:=fun bb=>.pointer (some ⟨bb,0,none⟩)) (N:=fun bb=>bD bb (.cells cs.toArray E (0,0))::L) (fun a w ha hw=>⟨w.heap.size,w.alloc (.cells cs.toArray E),by simp[execOp,ha.eval hx,Instr.box,newVar,newRow,hc],Ext.alloc w _,hw.alloc _⟩) ht h
theorem KO.alloc(hk:(!d||(k== .cx||k== .write))=true){cs:List Value}(hz:∀w,(zeroValue E).run P w=.ok v w)(hc:v.cells=cs.toArray)(ht:Nat.blt t n=true)(h:∀bb,KO P ops d Q n D w0 ((t,.pointer (some ⟨bb,0,none⟩))::G) (bD bb (.cells cs.toArray E (0,0))::L) l):KO P ops d Q n D w0 G L ((k,⟨some t,.alloc E,ty,pos,af,none⟩)::l):=
 KO.pS hk (F:=fun bb=>.pointer (some ⟨bb,0,none⟩)) (N:=fun bb=>bD bb (.cells cs.toArray E (0,0))::L) (fun a w ha hw=>⟨w.heap.size,w.alloc (.cells cs.toArray E),by simp[execOp,Instr.alloc,newVar,newRow,hz w,hc],Ext.alloc w _,hw.alloc _⟩) ht h
theorem KO.Cg(hk:(!d||k== .write)=true){N:List HP}(hr:∀a w,ct n D G a->St w0 L w->∃w',(execOp a.eval ⟨none,op,ty,pos,af,none⟩).run P w=.ok .skip w'/\St w0 N w')(h:KO P ops d Q n D w0 G N l):KO P ops d Q n D w0 G L ((k,⟨none,op,ty,pos,af,none⟩)::l):=fun a w ha hw=>by
 obtain⟨w',hr,hs⟩:=hr a w ha hw;refine jO hk rfl ?_;unfold Oper.wp;rw[hr];exact h _ w' ha hs
theorem KO.st{b:Nat}{cs vp us:List Value}(hk:(!d||k== .write)=true)(hx:ev G x=some (.pointer (some ⟨b,off,none⟩)))(hy:ev G y=some v)(hv:v.cells=us.toArray)(hn:∀w,(Go.sizeOf T).run P w=.ok us.length w)(h1:∀u∈us,u.oneCell'=true)(hp:bC L (bD b (.cells cs.toArray E (0,0))) R)(nj:off+us.length<=cs.length)(hc:cs.take off++us++cs.drop (off+us.length)=vp)(h:KO P ops d Q n D w0 G (bD b (.cells vp.toArray E (0,0))::R) l):
 KO P ops d Q n D w0 G L ((k,⟨none,.store T x y,ty,pos,af,none⟩)::l):=
 KO.Cg hk (N:=bD b (.cells vp.toArray E (0,0))::R) (fun a w ha hw=>by
  have hb:=hw.pick hp;have kO:=j0 (P:=P) (T:=T) (off:=off) (v:=v) hb (by simpa[hv]using hn w) (by simpa[hv]using nj) (by simpa[hv]using h1);refine⟨_,?_,hb.setRow (c':=vp.toArray)⟩;simp only[hv,hc]at kO
  simp[execOp,ha.eval hx,ha.eval hy,Instr.storeAt,Instr.sureAddr,kO]) h
end
theorem Cf{r:Int}(h1: -9223372036854775808<=r)(h2:r<=9223372036854775807):IntKind.i64.wrap r=r:=by
 unfold IntKind.wrap;simp only[IntKind.bits,IntKind.signed,Bool.true_and];simp only[show(2^64:Int)=18446744073709551616 from rfl,show(2^(64-1):Int)=9223372036854775808 from rfl];by_cases h:r%18446744073709551616>=9223372036854775808
 ·rw[if_pos IF];omega
 ·rw[if_neg IF];omega
theorem R8{r:Int}(h1:0<=r)(h2:r<=18446744073709551615):IntKind.u64.wrap r=r:=by
 unfold IntKind.wrap;simp only[IntKind.bits,IntKind.signed,Bool.false_and];simp only[show(2^64:Int)=18446744073709551616 from rfl];rw[if_neg aj];omega
section
variable {P:Program} {ops:Array Oper} {d:Bool} {Q:Exit->Act->World->Prop} {n:Nat} {D:List Deferred} {w0:World} {G:Env} {L R:List HP} {l:List (Kd×Oper)} {k:Kd}
 {t:Nat} {op:Op} {ty T T' E:TypeId} {pos:String} {af:Array Edge} {x y z:Operand} {v u:Value} {b b' p q:Bool} {i j off:Nat} {a c r:Int} {ad:Addr} {kk:IntKind}
theorem KO.add(hx:ev G x=some (.int .i64 a))(hy:ev G y=some (.int .i64 c))(hr:a+c=r)(h1: -9223372036854775808<=r/\r<=9223372036854775807)(ht:Nat.blt t n=true)(h:KO P ops d Q n D w0 ((t,.int .i64 r)::G) L l):KO P ops d Q n D w0 G L ((k,⟨some t,.binOp .add T x y T',ty,pos,af,none⟩)::l):=
 KO.val (fun a w ha=>by simp[execOp,ha.eval hx,ha.eval hy,eqGuard_at_int,binOp_add,Op.intArith,hr,Cf h1.1 h1.2]) ht h
theorem KO.sub(hx:ev G x=some (.int .i64 a))(hy:ev G y=some (.int .i64 c))(hr:a-c=r)(h1: -9223372036854775808<=r/\r<=9223372036854775807)(ht:Nat.blt t n=true)(h:KO P ops d Q n D w0 ((t,.int .i64 r)::G) L l):KO P ops d Q n D w0 G L ((k,⟨some t,.binOp .sub T x y T',ty,pos,af,none⟩)::l):=
 KO.val (fun a w ha=>by simp[execOp,ha.eval hx,ha.eval hy,eqGuard_at_int,binOp_sub,Op.intArith,hr,Cf h1.1 h1.2]) ht h
theorem KO.mul(hx:ev G x=some (.int .i64 a))(hy:ev G y=some (.int .i64 c))(hr:a *c=r)(h1: -9223372036854775808<=r/\r<=9223372036854775807)(ht:Nat.blt t n=true)(h:KO P ops d Q n D w0 ((t,.int .i64 r)::G) L l):KO P ops d Q n D w0 G L ((k,⟨some t,.binOp .mul T x y T',ty,pos,af,none⟩)::l):=
 KO.val (fun a w ha=>by simp[execOp,ha.eval hx,ha.eval hy,eqGuard_at_int,binOp_mul,Op.intArith,hr,Cf h1.1 h1.2]) ht h
theorem KO.lss(hx:ev G x=some (.int kk a))(hy:ev G y=some (.int kk c))(ht:Nat.blt t n=true)(h:KO P ops d Q n D w0 ((t,.bool (decide (a<c)))::G) L l):
 KO P ops d Q n D w0 G L ((k,⟨some t,.binOp .lss T x y T',ty,pos,af,none⟩)::l):=
 KO.val (fun a w ha=>by simp[execOp,ha.eval hx,ha.eval hy,eqGuard_at_int,binOp_lss]) ht h
theorem KO.leq(hx:ev G x=some (.int kk a))(hy:ev G y=some (.int kk c))(ht:Nat.blt t n=true)(h:KO P ops d Q n D w0 ((t,.bool (decide (a<=c)))::G) L l):
 KO P ops d Q n D w0 G L ((k,⟨some t,.binOp .leq T x y T',ty,pos,af,none⟩)::l):=
 KO.val (fun a w ha=>by simp[execOp,ha.eval hx,ha.eval hy,eqGuard_at_int,binOp_leq]) ht h
theorem KO.gtr(hx:ev G x=some (.int kk a))(hy:ev G y=some (.int kk c))(ht:Nat.blt t n=true)(h:KO P ops d Q n D w0 ((t,.bool (decide (c<a)))::G) L l):
 KO P ops d Q n D w0 G L ((k,⟨some t,.binOp .gtr T x y T',ty,pos,af,none⟩)::l):=
 KO.val (fun a w ha=>by simp[execOp,ha.eval hx,ha.eval hy,eqGuard_at_int,binOp_gtr]) ht h
theorem KO.geq(hx:ev G x=some (.int kk a))(hy:ev G y=some (.int kk c))(ht:Nat.blt t n=true)(h:KO P ops d Q n D w0 ((t,.bool (decide (c<=a)))::G) L l):
 KO P ops d Q n D w0 G L ((k,⟨some t,.binOp .geq T x y T',ty,pos,af,none⟩)::l):=
 KO.val (fun a w ha=>by simp[execOp,ha.eval hx,ha.eval hy,eqGuard_at_int,binOp_geq]) ht h
theorem KO.eqI(hx:ev G x=some (.int kk a))(hy:ev G y=some (.int kk c))(ht:Nat.blt t n=true)(h:KO P ops d Q n D w0 ((t,.bool (decide (a=c)))::G) L l):
 KO P ops d Q n D w0 G L ((k,⟨some t,.binOp .eql T x y T',ty,pos,af,none⟩)::l):=
 KO.val (fun a' w ha=>by simp[execOp,ha.eval hx,ha.eval hy,eqGuard_at_int,binOp_eql,show(a==c)=decide (a=c)from rfl]) ht h
theorem KO.neI(hx:ev G x=some (.int kk a))(hy:ev G y=some (.int kk c))(ht:Nat.blt t n=true)(h:KO P ops d Q n D w0 ((t,.bool (decide (a≠c)))::G) L l):
 KO P ops d Q n D w0 G L ((k,⟨some t,.binOp .neq T x y T',ty,pos,af,none⟩)::l):=
 KO.val (fun a' w ha=>by
  have e:(a !=c)=decide (a≠c):=by by_cases h:a=c<;>simp[h]
  simp only[execOp,ha.eval hx,ha.eval hy,eqGuard_at_int,binOp_neq,e,Sem.run_bind,Sem.run_pure,Result.andThen_ok]) ht h
theorem KO.not(hx:ev G x=some (.bool b))(ht:Nat.blt t n=true)(h:KO P ops d Q n D w0 ((t,.bool (!b))::G) L l):KO P ops d Q n D w0 G L ((k,⟨some t,.unOp .not T x,ty,pos,af,none⟩)::l):=
 KO.val (fun a' w ha=>by simp[execOp,ha.eval hx,unary_not]) ht h
theorem KO.neB(hx:ev G x=some (.bool p))(hy:ev G y=some (.bool q))(hT:P.underlying T=some .bool)(ht:Nat.blt t n=true)(h:KO P ops d Q n D w0 ((t,.bool (!(p==q)))::G) L l):
 KO P ops d Q n D w0 G L ((k,⟨some t,.binOp .neq T x y T',ty,pos,af,none⟩)::l):=
 KO.val (fun a' w ha=>by simp[execOp,ha.eval hx,ha.eval hy,eqGuard_at_bool,run_neq_bool w T p q hT]) ht h
variable {s s':ak}
theorem toList_eq_iff(s s':ak):(s.toList==s'.toList)=decide (s=s'):=by
 by_cases h:s=s'
 ·simp[h]
 ·have :s.toList≠s'.toList:=fun e=>h (by
   rw[ByteArray.toList_eq,ByteArray.toList_eq]at e
   exact ByteArray.ext (Array.ext' e))
  simp[h,this]
theorem KO.eqS(hx:ev G x=some (.string s))(hy:ev G y=some (.string s'))(ht:Nat.blt t n=true)(h:KO P ops d Q n D w0 ((t,.bool (decide (s=s')))::G) L l):
 KO P ops d Q n D w0 G L ((k,⟨some t,.binOp .eql T x y T',ty,pos,af,none⟩)::l):=
 KO.val (fun a' w ha=>by simp only[execOp,ha.eval hx,ha.eval hy,eqGuard_at_string,binOp_string_eql,toList_eq_iff,Sem.run_bind,Sem.run_pure,Result.andThen_ok]) ht h
theorem KO.neS(hx:ev G x=some (.string s))(hy:ev G y=some (.string s'))(ht:Nat.blt t n=true)(h:KO P ops d Q n D w0 ((t,.bool (!decide (s=s')))::G) L l):
 KO P ops d Q n D w0 G L ((k,⟨some t,.binOp .neq T x y T',ty,pos,af,none⟩)::l):=
 KO.val (fun a' w ha=>by simp only[execOp,ha.eval hx,ha.eval hy,eqGuard_at_string,binOp_string_neq,toList_eq_iff,Sem.run_bind,Sem.run_pure,Result.andThen_ok]) ht h
theorem KO.cat(hx:ev G x=some (.string s))(hy:ev G y=some (.string s'))(hs:s.size+s'.size<=9223372036854775807)(ht:Nat.blt t n=true)(h:KO P ops d Q n D w0 ((t,.string (s++s'))::G) L l):
 KO P ops d Q n D w0 G L ((k,⟨some t,.binOp .add T x y T',ty,pos,af,none⟩)::l):=
 KO.val (fun a' w ha=>by simp[execOp,ha.eval hx,ha.eval hy,eqGuard_at_string,binOp_string_add,run_string_add_sum w s s' hs]) ht h
theorem KO.Yv(hx:ev G x=some (.string s))(hT:P.underlying T=some .string)(ht:Nat.blt t n=true)(h:KO P ops d Q n D w0 ((t,.int .i64 (s.size:Nat))::G) L l):
 KO P ops d Q n D w0 G L ((k,⟨some t,.call ⟨.builtin .len,#[x],#[T]⟩,ty,pos,af,none⟩)::l):=
 KO.val (fun a' w ha=>by simp[execOp,resolve,invoke,builtin,ha.eval hx,run_len_string _ _ _ _ hT,goInt]) ht h
theorem KO.len{bs:Option Addr}{len cap:Nat}(hx:ev G x=some (.slice bs len cap))(hT:P.underlying T=some (.slice E))(ht:Nat.blt t n=true)(h:KO P ops d Q n D w0 ((t,.int .i64 (len:Nat))::G) L l):
 KO P ops d Q n D w0 G L ((k,⟨some t,.call ⟨.builtin .len,#[x],#[T]⟩,ty,pos,af,none⟩)::l):=
 KO.val (fun a' w ha=>by simp[execOp,resolve,invoke,builtin,ha.eval hx,run_len_slice w T ty bs len cap (by rw[hT];simp[Program.elem,hT]),goInt]) ht h
theorem KO.eN{g:Nat}{len cap sz:Nat}(hx:ev G x=some (.slice (some ⟨g,0,none⟩) len cap))(hy:ev G y=some (.int kk a))(hu:∀w,(underlying T).run P w=.ok (.slice E) w)(hs:∀w,(Go.sizeOf E).run P w=.ok sz w)(ha:a=(i:Int))(hb:i<len)(ht:Nat.blt t n=true)(h:KO P ops d Q n D w0 ((t,.pointer (some ⟨g,i *sz,none⟩))::G) L l):KO P ops d Q n D w0 G L ((k,⟨some t,.indexAddr T x y,ty,pos,af,none⟩)::l):=
 KO.idx hx hy hu hs ha hb ht (by rw[Nat.zero_add];exact h)
theorem KO.fo{fs:Array Field}{f b o sz off:Nat}{fd:Field}(hx:ev G x=some (.pointer (some ⟨b,o,none⟩)))(hu:∀w,(underlying T).run P w=.ok (.struct fs) w)(hf:fs[f]? =some fd)(ho:fd.offset=off)(hs:∀w,(Go.sizeOf fd.type).run P w=.ok (sz+1) w)(ht:Nat.blt t n=true)(h:KO P ops d Q n D w0 ((t,.pointer (some ⟨b,o+off,none⟩))::G) L l):KO P ops d Q n D w0 G L ((k,⟨some t,.fieldAddr T x f,ty,pos,af,none⟩)::l):=
 KO.fld hx hu hf hs ht (by rw[Addr.add_lit,ho];exact h)
theorem KO.ij{fs:Array Field}{f b sz off:Nat}{fd:Field}(hx:ev G x=some (.pointer (some ⟨b,0,none⟩)))(hu:∀w,(underlying T).run P w=.ok (.struct fs) w)(hf:fs[f]? =some fd)(ho:fd.offset=off)(hs:∀w,(Go.sizeOf fd.type).run P w=.ok (sz+1) w)(ht:Nat.blt t n=true)(h:KO P ops d Q n D w0 ((t,.pointer (some ⟨b,off,none⟩))::G) L l):KO P ops d Q n D w0 G L ((k,⟨some t,.fieldAddr T x f,ty,pos,af,none⟩)::l):=
 KO.fo hx hu hf ho hs ht (by rw[Nat.zero_add];exact h)
theorem Kg{a:Act}(ha:ct n D G a){xs:Array Operand}{vs:List Value}(h:xs.toList.map (ev G)=vs.map some):xs.map a.eval=vs.toArray:=by
 have key:∀(xs:List Operand) (us:List Value),xs.map (ev G)=us.map some->xs.map a.eval=us:=by
  intro xs
  induction xs with
  |nil=>intro us h;cases us with|nil=>rfl|cons _ _=>simp at h
  |cons x xs ih=>intro us h;cases us with
   |nil=>simp at h
   |cons u us=>simp only[aT,List.cons.injEq]at h ⊢;exact⟨ha.eval h.1,ih us h.2⟩
 apply Array.ext';simpa using key _ _ h
theorem nW{a:Act}(ha:ct n D G a){f:FuncId}{xs:Array Operand}{ts:Array TypeId}{vs:List Value}{fi cp:Array Value}{dst:Option Nat}(hf:ev G x=some (.func (.func f) fi cp))(oc:xs.toList.map (ev G)=vs.map some){ar:Array Value}(Gi:fi++vs.toArray++cp=ar)(dx:∀args w,(callFunc f args).run P w=.ok (.enter f args) w)(w:World):(execOp a.eval ⟨dst,.call ⟨.value x,xs,ts⟩,ty,pos,af,none⟩).run P w=.ok (.enter f ar) w:=by
 have e:=Kg ha oc;simp only[execOp,resolve,ha.eval hf,Deferred.ofValue,e,invoke,Sem.run_bind,Sem.run_pure,Result.andThen_ok,dx,Gi]
theorem KO.call{f:FuncId}{xs:Array Operand}{ts:Array TypeId}{vs:List Value}{fi cp ar:Array Value}{Rr:Value->List HP->Prop}(hk:(!d||k== .write)=true)(hf:ev G x=some (.func (.func f) fi cp))(oc:xs.toList.map (ev G)=vs.map some)(Gi:fi++vs.toArray++cp=ar)(dx:∀args w,(callFunc f args).run P w=.ok (.enter f args) w)(ht:Nat.blt t n=true)(hc:KC P f ar w0 L Rr)(h:∀v L',Rr v L'->KO P ops d Q n D w0 ((t,v)::G) L' l):
 KO P ops d Q n D w0 G L ((k,⟨some t,.call ⟨.value x,xs,ts⟩,ty,pos,af,none⟩)::l):=fun a w ha hw=>by
 refine jO hk rfl ?_;unfold Oper.wp;rw[nW ha hf oc Gi dx];refine(hc w hw).mono ?_;rintro e w' ⟨v,L',rfl,hr,hs⟩;exact h v L' hr _ w' (fQ ha v ht) hs
theorem KO.aaz{f:FuncId}{xs:Array Operand}{ts:Array TypeId}{vs:List Value}{fi cp ar:Array Value}{Rr:Value->List HP->Prop}(hk:(!d||(k== .cx||k== .write))=true)(hf:ev G x=some (.func (.func f) fi cp))(oc:xs.toList.map (ev G)=vs.map some)(Gi:fi++vs.toArray++cp=ar)(dx:∀args w,(callFunc f args).run P w=.ok (.enter f args) w)(ht:Nat.blt t n=true)(hc:KE P f ar w0 L Rr)(h:∀v L',Rr v L'->KO P ops d Q n D w0 ((t,v)::G) L' l):
 KO P ops d Q n D w0 G L ((k,⟨some t,.call ⟨.value x,xs,ts⟩,ty,pos,af,none⟩)::l):=fun a w ha hw=>by
 refine Cp hk rfl ?_;unfold Oper.wp;rw[nW ha hf oc Gi dx];refine(hc w hw).mono ?_;rintro e w' ⟨v,L',rfl,hr,hs,hb⟩;exact⟨Ext.bB hb,h v L' hr _ w' (fQ ha v ht) hs⟩
end
section
variable {P:Program} {f:FuncId} {args:Array Value} {w0:World} {L:List HP}
theorem KE.bB{v:Value}(h:∀w,St w0 L w->Calls P f args w fun e w'=>e=.returned v/\Below w.heap.size w w'):KE P f args w0 L (fun u L'=>u=v/\L'=L):=fun w hw=>
 (h w hw).mono fun _ _ ⟨he,hb⟩=>⟨v,L,he,⟨rfl,rfl⟩,hw.aA hb,hb⟩
end
def D3 (G:Env):List Operand->Option (List Value)
 |[]=>some []
 |x::r=>match ev G x,D3 G r with|some v,some vs=>some (v::vs)|_,_=>none
theorem la{G:Env}:∀{xs:List Operand} {vs:List Value},D3 G xs=some vs->xs.map (ev G)=vs.map some
 |[],vs,h=>by simp only[D3,ay]at h;subst h;rfl
 |x::xs,vs,h=>by
  unfold D3 at h;cases h1:ev G x with
  |none=>rw[h1]at h;simp at h
  |some v=>
   cases h2:D3 G xs with
   |none=>rw[h1,h2]at h;simp at h
   |some us=>
    rw[h1,h2]at h;simp only[ay]at h;subst h;simp[h1,la h2]
def nZ:Nat->List Value->List Value->List Value
 |0,us,cs=>us++cs.drop us.length
 |i+1,us,c::cs=>c::nZ i us cs
 |_+1,_,[]=>[]
theorem vW:∀(i:Nat) (us cs:List Value),i+us.length<=cs.length->cs.take i++us++cs.drop (i+us.length)=nZ i us cs
 |0,us,cs,_=>by simp[nZ]
 |i+1,us,c::cs,h=>by
  have :=vW i us cs (by simp at h;omega);simp only[nZ,List.take_succ_cons,bn,show i+1+us.length=(i+us.length)+1 by omega,List.drop_succ_cons,<-this]
 |i+1,us,[],h=>by simp at h
def ae3:Value->List Value:=fun v=>v.cells.toList
section
variable {P:Program} {ops:Array Oper} {d:Bool} {Q:Exit->Act->World->Prop} {n:Nat} {D:List Deferred} {w0:World} {G:Env} {L R:List HP} {l:List (Kd×Oper)} {k:Kd}
 {t:Nat} {op:Op} {ty T T' E:TypeId} {pos:String} {af:Array Edge} {x y z:Operand} {v u:Value} {b b' p q:Bool} {i j off:Nat} {a c r:Int} {ad:Addr} {kk:IntKind}
theorem KO.Pd{b:Nat}{cs vp us:List Value}(hk:(!d||k== .write)=true)(hx:ev G x=some (.pointer (some ⟨b,off,none⟩)))(hy:ev G y=some v)(hv:v.cells=us.toArray)(hn:∀w,(Go.sizeOf T).run P w=.ok us.length w)(h1:us.all Value.oneCell'=true)(hp:bC L (bD b (.cells cs.toArray E (0,0))) R)(nj:Nat.ble (off+us.length) cs.length=true)(hc:nZ off us cs=vp)(h:KO P ops d Q n D w0 G (bD b (.cells vp.toArray E (0,0))::R) l):
 KO P ops d Q n D w0 G L ((k,⟨none,.store T x y,ty,pos,af,none⟩)::l):=
 have hf:off+us.length<=cs.length:=by simpa[Nat.ble_eq]using nj
 KO.st hk hx hy hv hn (fun u hu=>aG.1 h1 u hu) hp hf ((vW _ _ _ hf).trans hc) h
theorem KO.r7(hx:ev G x=some (.bool b))(hb:b=true)(hv:ev G y=some v)(ht:Nat.blt t n=true)(h:KO P ops d Q n D w0 ((t,v)::G) L l):KO P ops d Q n D w0 G L ((k,⟨some t,.pick x y z,ty,pos,af,none⟩)::l):=
 KO.pick hx (by rw[hb];exact hv) ht h
theorem KO.o7(hx:ev G x=some (.bool b))(hb:b=false)(hv:ev G z=some v)(ht:Nat.blt t n=true)(h:KO P ops d Q n D w0 ((t,v)::G) L l):KO P ops d Q n D w0 G L ((k,⟨some t,.pick x y z,ty,pos,af,none⟩)::l):=
 KO.pick hx (by rw[hb];exact hv) ht h
theorem KO.mkc{f:Fn}{xs ys:Array Operand}{us vs:List Value}(h1:D3 G xs.toList=some us)(h2:D3 G ys.toList=some vs)(ht:Nat.blt t n=true)(h:KO P ops d Q n D w0 ((t,.func f us.toArray vs.toArray)::G) L l):
 KO P ops d Q n D w0 G L ((k,⟨some t,.makeFunc f xs ys,ty,pos,af,none⟩)::l):=KO.mkf (us:=us.toArray) (vs:=vs.toArray) (by simpa using la h1) (by simpa using la h2) ht h
theorem KO.cl{f:FuncId}{xs:Array Operand}{ts:Array TypeId}{vs:List Value}{fi cp:List Value}{Rr:Value->List HP->Prop}(hk:(!d||k== .write)=true)(hf:ev G x=some (.func (.func f) fi.toArray cp.toArray))(oc:D3 G xs.toList=some vs)(dx:∀args w,(callFunc f args).run P w=.ok (.enter f args) w)(ht:Nat.blt t n=true)(hc:KC P f (fi++(vs++cp)).toArray w0 L Rr)(h:∀v L',Rr v L'->KO P ops d Q n D w0 ((t,v)::G) L' l):
 KO P ops d Q n D w0 G L ((k,⟨some t,.call ⟨.value x,xs,ts⟩,ty,pos,af,none⟩)::l):=KO.call hk hf (la oc) aj dx ht hc h
theorem KO.ce{f:FuncId}{xs:Array Operand}{ts:Array TypeId}{vs:List Value}{fi cp:List Value}{Rr:Value->List HP->Prop}(hk:(!d||(k== .cx||k== .write))=true)(hf:ev G x=some (.func (.func f) fi.toArray cp.toArray))(oc:D3 G xs.toList=some vs)(dx:∀args w,(callFunc f args).run P w=.ok (.enter f args) w)(ht:Nat.blt t n=true)(hc:KE P f (fi++(vs++cp)).toArray w0 L Rr)(h:∀v L',Rr v L'->KO P ops d Q n D w0 ((t,v)::G) L' l):
 KO P ops d Q n D w0 G L ((k,⟨some t,.call ⟨.value x,xs,ts⟩,ty,pos,af,none⟩)::l):=KO.aaz hk hf (la oc) aj dx ht hc h
theorem KO.i2u(hx:ev G x=some (.int .i64 a))(hs:(P.underlying T).isSome=true)(hd:P.underlying T'=some (.int .u64))(h0:0<=a/\a<=18446744073709551615)(ht:Nat.blt t n=true)(h:KO P ops d Q n D w0 ((t,.int .u64 a)::G) L l):
 KO P ops d Q n D w0 G L ((k,⟨some t,.convert T T' x,ty,pos,af,none⟩)::l):=
 KO.val (fun a' w ha=>by
  have :=run_convert_int (P:=P) w T T' .i64 a hs Y26;simp[Program.intKind,hd,R8 h0.1 h0.2]at this
  simp[execOp,ha.eval hx,this]) ht h
theorem KO.u2i(hx:ev G x=some (.int .u64 a))(hs:(P.underlying T).isSome=true)(hd:P.underlying T'=some (.int .i64))(h0:0<=a/\a<=9223372036854775807)(ht:Nat.blt t n=true)(h:KO P ops d Q n D w0 ((t,.int .i64 a)::G) L l):
 KO P ops d Q n D w0 G L ((k,⟨some t,.convert T T' x,ty,pos,af,none⟩)::l):=
 KO.val (fun a' w ha=>by
  have :=run_convert_int (P:=P) w T T' .u64 a hs Y26;simp[Program.intKind,hd,Cf (by omega : -9223372036854775808<=a) h0.2]at this
  simp[execOp,ha.eval hx,this]) ht h
theorem KO.acK{yk:IntKind}(hx:ev G x=some (.int .u64 a))(hy:ev G y=some (.int yk 1))(hr:a/2=r)(ht:Nat.blt t n=true)(h:KO P ops d Q n D w0 ((t,.int .u64 r)::G) L l):
 KO P ops d Q n D w0 G L ((k,⟨some t,.binOp .shr T x y T',ty,pos,af,none⟩)::l):=
 KO.val (fun a' w ha=>by simp[execOp,ha.eval hx,ha.eval hy,eqGuard_at_int,binOp_shr,shift_shr_u64,<-hr]) ht h
theorem KO.max2{ts:Array TypeId}(hx:ev G x=some (.int .i64 a))(hy:ev G y=some (.int .i64 c))(hr:max a c=r)(ht:Nat.blt t n=true)(h:KO P ops d Q n D w0 ((t,.int .i64 r)::G) L l):
 KO P ops d Q n D w0 G L ((k,⟨some t,.call ⟨.builtin .max,#[x,y],ts⟩,ty,pos,af,none⟩)::l):=
 KO.val (fun a' w ha=>by
  subst hr;simp[execOp,resolve,invoke,builtin,ha.eval hx,ha.eval hy,Builtin.max_,Builtin.max2]
  rw[Int.max_def];split<;>split<;>first|rfl|omega) ht h
def SL {α:Type} (E:TypeId) (sz:Nat) (cf:α->List Value) (v:Value) (xs:List α):HP:=ie E sz v xs.length (xs.flatMap cf)
variable {α:Type} {cf:α->List Value} {sz:Nat} {xs:List α} {e e':α}
theorem lW{w:World}{g len cap:Nat}(cj:∀e,(cf e).length=sz)(hw:St w0 (SL E sz cf (.slice (some ⟨g,0,none⟩) len cap) xs::R) w)(he:xs[i]? =some e):∀j,j<sz->w.cell? ⟨g,i *sz+j,none⟩=(cf e)[j]? :=fun j hj=>by
 have hi:=(au.1 he).1;have hlen:len=xs.length:=by
  rcases hw.cr with⟨h,_⟩|⟨_,_,_,h,_⟩
  ·simp at h
  ·simp at h;exact h.2.1
 have dI:i *sz+j<xs.length *sz:=by
  have :(i+1)*sz<=xs.length *sz:=Nat.mul_le_mul_right _ hi;rw[Nat.succ_mul]at this;omega
 subst hlen;rw[hw.o8.cellAt _ dI,flat_get cf sz cj e xs i j hi hj];simp[aq,he]
theorem KO.ldE{g len cap:Nat}(hk:(!d||k != .pure)=true)(hx:ev G x=some (.pointer (some ⟨g,i *sz+j,none⟩)))(hT:∀w,(isAgg T).run P w=.ok false w)(hp:bC L (SL E sz cf (.slice (some ⟨g,0,none⟩) len cap) xs) R)(cj:∀e,(cf e).length=sz)(he:xs[i]? =some e)(hj:Nat.blt j sz=true)(hv:(cf e)[j]? =some v)(ht:Nat.blt t n=true)(h:KO P ops d Q n D w0 ((t,v)::G) L l):KO P ops d Q n D w0 G L ((k,⟨some t,.load T x,ty,pos,af,none⟩)::l):=
 KO.W7 hk hx hT (fun w hw=>by rw[lW cj (hw.pick hp) he j (by simpa[Nat.blt_eq]using hj),hv]) ht h
theorem KO.yU{g len cap:Nat}(hk:(!d||k != .pure)=true)(hx:ev G x=some (.pointer (some ⟨g,i *sz,none⟩)))(hT:∀w,(isAgg T).run P w=.ok true w)(hn:∀w,(Go.sizeOf T).run P w=.ok sz w)(hp:bC L (SL E sz cf (.slice (some ⟨g,0,none⟩) len cap) xs) R)(cj:∀e,(cf e).length=sz)(he:xs[i]? =some e)(ht:Nat.blt t n=true)(h:KO P ops d Q n D w0 ((t,.agg (cf e).toArray)::G) L l):KO P ops d Q n D w0 G L ((k,⟨some t,.load T x,ty,pos,af,none⟩)::l):=
 KO.Uq hk hx hT hn (by simpa using cj e) (fun w hw j c hj=>by
  have Gc:j<sz:=by rw[<-cj e];exact(au.1 hj).1
  rw[Addr.add_lit,lW cj (hw.pick hp) he j Gc];exact hj) ht h
theorem KO.Yx{g len cap m:Nat}{us:List Value}(hk:(!d||k != .pure)=true)(hx:ev G x=some (.pointer (some ⟨g,i *sz+j,none⟩)))(hT:∀w,(isAgg T).run P w=.ok true w)(hn:∀w,(Go.sizeOf T).run P w=.ok m w)(hp:bC L (SL E sz cf (.slice (some ⟨g,0,none⟩) len cap) xs) R)(cj:∀e,(cf e).length=sz)(he:xs[i]? =some e)(hu:((cf e).drop j).take m=us)(hm:us.length=m)(ht:Nat.blt t n=true)(h:KO P ops d Q n D w0 ((t,.agg us.toArray)::G) L l):KO P ops d Q n D w0 G L ((k,⟨some t,.load T x,ty,pos,af,none⟩)::l):=
 KO.Uq hk hx hT hn (by simpa using hm) (fun w hw q c hj=>by
  rw[show(us.toArray).toList=us from rfl,<-hu,List.getElem?_take]at hj;split at hj
  ·rw[List.getElem?_drop]at hj;have Gc:j+q<sz:=by rw[<-cj e];exact(au.1 hj).1
   rw[Addr.add_lit,Nat.add_assoc,lW cj (hw.pick hp) he (j+q) Gc];exact hj
  ·simp at hj) ht h
end
section
variable {w0 w:World} {L:List HP} {E:TypeId} {α:Type} {cf:α->List Value} {sz:Nat} {xs:List α} {v:Value}
theorem yE(h:St w0 (SL E sz cf v xs::L) w):(v=.slice none 0 0/\xs=[])\/∃g cap,v=.slice (some ⟨g,0,none⟩) xs.length cap:=by
 rcases h.cr with⟨h1,h2,_⟩|⟨g,cap,_,h1,_⟩
 ·exact .inl ⟨h1,List.eq_nil_of_length_eq_zero h2⟩
 ·exact .inr ⟨g,cap,h1⟩
theorem p_(h:St w0 (SL E sz cf v xs::L) w){i:Nat}(hi:i<xs.length):∃g cap,v=.slice (some ⟨g,0,none⟩) xs.length cap:=by
 rcases yE h with⟨_,h1⟩|h1
 ·rw[h1]at hi;simp at hi
 ·exact h1
theorem aN(h:St w0 (SL E sz cf v xs::L) w):∃a cap,v=.slice a xs.length cap/\(0<xs.length->∃g,a=some ⟨g,0,none⟩):=by
 rcases yE h with⟨h0,h1⟩|⟨g,cap,h1⟩
 ·exact⟨none,0,by rw[h0,h1];rfl,fun h=>by rw[h1]at h;simp at h⟩
 ·exact⟨_,cap,h1,fun _=>⟨g,rfl⟩⟩
end
section
variable {P:Program} {ops:Array Oper} {d:Bool} {Q:Exit->Act->World->Prop} {n:Nat} {D:List Deferred} {w0:World} {G:Env} {L R:List HP} {l:List (Kd×Oper)} {k:Kd}
 {t:Nat} {ty T E:TypeId} {pos:String} {af:Array Edge} {x:Operand} {v:Value} {i j:Nat} {α:Type} {cf:α->List Value} {sz:Nat} {xs:List α} {e:α}
theorem KO.xA{b:Nat}{cs:List Value}{fz:Nat×Nat}(hk:(!d||k != .pure)=true)(hx:ev G x=some (.pointer (some ⟨b,0,none⟩)))(hT:∀w,(isAgg T).run P w=.ok true w)(hn:∀w,(Go.sizeOf T).run P w=.ok sz w)(hp:bC L (bD b (.cells cs.toArray E fz)) R)(cj:cs.length=sz)(ht:Nat.blt t n=true)(h:KO P ops d Q n D w0 ((t,.agg cs.toArray)::G) L l):KO P ops d Q n D w0 G L ((k,⟨some t,.load T x,ty,pos,af,none⟩)::l):=
 KO.Ur hk hx hT hn hp (us:=cs) (by rw[List.drop_zero,List.take_of_length_le ae]) cj ht h
theorem KO.fJ{g len cap:Nat}(hk:(!d||k != .pure)=true)(hx:ev G x=some (.pointer (some ⟨g,i *sz,none⟩)))(hT:∀w,(isAgg T).run P w=.ok false w)(hp:bC L (SL E sz cf (.slice (some ⟨g,0,none⟩) len cap) xs) R)(cj:∀e,(cf e).length=sz)(he:xs[i]? =some e)(hj:Nat.blt 0 sz=true)(hv:(cf e)[0]? =some v)(ht:Nat.blt t n=true)(h:KO P ops d Q n D w0 ((t,v)::G) L l):KO P ops d Q n D w0 G L ((k,⟨some t,.load T x,ty,pos,af,none⟩)::l):=
 KO.ldE (j:=0) hk (by rw[Nat.add_zero];exact hx) hT hp cj he hj hv ht h
end
section
variable {P:Program} {ops:Array Oper} {d:Bool} {Q:Exit->Act->World->Prop} {n:Nat} {D:List Deferred} {w0 wX:World} {G:Env} {L LX R:List HP} {l:List (Kd×Oper)} {k:Kd}
 {t:Nat} {ty T E:TypeId} {pos:String} {af:Array Edge} {x:Operand} {v:Value} {i j off:Nat} {α:Type} {cf:α->List Value} {sz:Nat} {xs:List α} {e:α}
theorem KO.ldb(hw:St wX LX w0){b:Nat}{cs:List Value}{fz:Nat×Nat}(hk:(!d||k != .pure)=true)(hx:ev G x=some (.pointer (some ⟨b,off,none⟩)))(hT:∀w,(isAgg T).run P w=.ok false w)(hp:bC LX (bD b (.cells cs.toArray E fz)) R)(hc:cs[off]? =some v)(ht:Nat.blt t n=true)(h:KO P ops d Q n D w0 ((t,v)::G) L l):KO P ops d Q n D w0 G L ((k,⟨some t,.load T x,ty,pos,af,none⟩)::l):=
 KO.pb hk hx hT (by rw[World.cell?,(hw.lK hp).2];simpa using hc) ht h
theorem KO.Jp{cs:Array Value}(hk:(!d||k != .pure)=true){ad:Addr}(hx:ev G x=some (.pointer (some ad)))(hT:∀w,(isAgg T).run P w=.ok true w)(hn:∀w,(Go.sizeOf T).run P w=.ok sz w)(cj:cs.size=sz)(hc:cU w0 ad cs.toList)(ht:Nat.blt t n=true)(h:KO P ops d Q n D w0 ((t,.agg cs)::G) L l):KO P ops d Q n D w0 G L ((k,⟨some t,.load T x,ty,pos,af,none⟩)::l):=
 KO.Uq hk hx hT hn cj (fun _ hs=>hc.ext (Ext.bB hs.below)) ht h
theorem KO.adn(hw:St wX LX w0){g len cap:Nat}(hk:(!d||k != .pure)=true)(hx:ev G x=some (.pointer (some ⟨g,i *sz+j,none⟩)))(hT:∀w,(isAgg T).run P w=.ok false w)(hp:bC LX (SL E sz cf (.slice (some ⟨g,0,none⟩) len cap) xs) R)(cj:∀e,(cf e).length=sz)(he:xs[i]? =some e)(hj:Nat.blt j sz=true)(hv:(cf e)[j]? =some v)(ht:Nat.blt t n=true)(h:KO P ops d Q n D w0 ((t,v)::G) L l):KO P ops d Q n D w0 G L ((k,⟨some t,.load T x,ty,pos,af,none⟩)::l):=
 KO.pb hk hx hT (by rw[lW cj (hw.pick hp) he j (by simpa[Nat.blt_eq]using hj),hv]) ht h
theorem KO.Yy(hw:St wX LX w0){g len cap:Nat}(hk:(!d||k != .pure)=true)(hx:ev G x=some (.pointer (some ⟨g,i *sz,none⟩)))(hT:∀w,(isAgg T).run P w=.ok false w)(hp:bC LX (SL E sz cf (.slice (some ⟨g,0,none⟩) len cap) xs) R)(cj:∀e,(cf e).length=sz)(he:xs[i]? =some e)(hj:Nat.blt 0 sz=true)(hv:(cf e)[0]? =some v)(ht:Nat.blt t n=true)(h:KO P ops d Q n D w0 ((t,v)::G) L l):KO P ops d Q n D w0 G L ((k,⟨some t,.load T x,ty,pos,af,none⟩)::l):=
 KO.adn hw (j:=0) hk (by rw[Nat.add_zero];exact hx) hT hp cj he hj hv ht h
end
section
variable {P:Program} {f:FuncId} {args:Array Value} {w0 w:World} {L L':List HP} {v:Value}
theorem KE.jQ(h:KE P f args w0 L (fun u M=>u=v/\M=L))(hw:St w0 L w):KE P f args w L' (fun u M=>u=v/\M=L'):=fun w' hw'=>
 (h w' (hw.aA hw'.below)).mono fun _ _ ⟨u,_,he,⟨hu,_⟩,_,hb⟩=>⟨u,L',he,⟨hu,rfl⟩,hw'.aA hb,hb⟩
theorem KE.only(h:KE P f args w0 L (fun u M=>u=v/\M=L))(hs:∀w,St w0 L' w->St w0 L w):KE P f args w0 L' (fun u M=>u=v/\M=L'):=fun w' hw'=>
 (h w' (hs w' hw')).mono fun _ _ ⟨u,_,he,⟨hu,_⟩,_,hb⟩=>⟨u,L',he,⟨hu,rfl⟩,hw'.aA hb,hb⟩
end
def ot {α:Type} (p:α->Bool) (l:List α):Int:=match l.findIdx? p with|some k=>(k:Int)|none=> -1
theorem sw{α:Type}{p:α->Bool}{l:List α}{k:Nat}{e:α}(hk:l[k]? =some e)(hp:p e=true)(hn:∀j u,j<k->l[j]? =some u->p u=false):ot p l=k:=by
 have :l.findIdx? p=some k:=by
  rw[List.findIdx?_eq_some_iff_getElem];obtain⟨dI,he⟩:=au.1 hk
  exact⟨dI,by rw[he];exact hp,fun j hj=>by
   have :=hn j l[j] hj (ao _)
   simp[this]⟩
 rw[ot,this]
theorem pY{α:Type}{p:α->Bool}{l:List α}(hn:∀(j:Nat) (u:α),l[j]? =some u->p u=false):ot p l= -1:=by
 have :l.findIdx? p=none:=by
  rw[List.findIdx?_eq_none_iff];intro x hx;obtain⟨j,hj,rfl⟩:=List.getElem_of_mem hx;exact hn j _ (ao hj)
 rw[ot,this]
theorem mf{α:Type}{p:α->Bool}{l:List α}(h:0<=ot p l):∃(k:Nat) (e:α),ot p l=(k:Int)/\l[k]? =some e/\p e=true/\k<l.length/\l.findIdx? p=some k:=by
 unfold ot at h ⊢;cases hf:l.findIdx? p with
 |none=>rw[hf]at h;simp at h
 |some k=>
  obtain⟨dI,hp,_⟩:=List.findIdx?_eq_some_iff_getElem.1 hf;exact⟨k,l[k],rfl,ao dI,hp,dI,rfl⟩
theorem su{α:Type}{p:α->Bool}{l:List α}(h:ot p l<0):l.findIdx? p=none:=by
 unfold ot at h;cases hf:l.findIdx? p with
 |none=>rfl
 |some k=>rw[hf]at h;simp only at h;omega
theorem sx{α:Type}(p:α->Bool)(l:List α):decide (0<=ot p l)=l.any p:=by
 cases hf:l.findIdx? p with
 |none=>
  have h1:l.any p=false:=by
   rw[List.any_eq_false];intro x hx;have :=List.findIdx?_eq_none_iff.1 hf x hx;simp[this]
  simp[ot,hf,h1]
 |some k=>
  obtain⟨dI,hp,_⟩:=List.findIdx?_eq_some_iff_getElem.1 hf;have h1:l.any p=true:=List.any_eq_true.2 ⟨l[k],List.getElem_mem dI,hp⟩;simp[ot,hf,h1]
open Go
theorem KC.pre{P:Program}{f:FuncId}{args:Array Value}{w0:World}{L:List HP}{R:Value->List HP->Prop}{p:Prop}(hs:∀w,St w0 L w->p)(h:p->KC P f args w0 L R):KC P f args w0 L R:=fun w hw=>h (hs w hw) w hw
theorem KC.perm{P:Program}{f:FuncId}{args:Array Value}{w0:World}{L L':List HP}{R:Value->List HP->Prop}(hs:∀w,St w0 L w->St w0 L' w)(h:KC P f args w0 L' R):KC P f args w0 L R:=fun w hw=>h w (hs w hw)
theorem KE.perm{P:Program}{f:FuncId}{args:Array Value}{w0:World}{L L':List HP}{R:Value->List HP->Prop}(hs:∀w,St w0 L w->St w0 L' w)(h:KE P f args w0 L' R):KE P f args w0 L R:=fun w hw=>h w (hs w hw)
theorem jk{α:Type}{p:α->Bool}:∀{l:List α} {k:Nat},l.findIdx? p=some k->(l.take (k+1)).filter (fun e=> !p e)=l.take k
 |[],k,h=>by simp at h
 |a::l,k,h=>by
  rw[List.findIdx?_cons]at h;by_cases ha:p a=true
  ·rw[if_pos ha]at h;simp only[ay]at h;subst h;simp[ha]
  ·rw[if_neg ha]at h;cases hf:l.findIdx? p with
   |none=>rw[hf]at h;simp at h
   |some j=>
    rw[hf]at h;simp only[Option.map_some,ay]at h;subst h;simp[ha,jk hf]
theorem bA{α:Type}{l:List α}{k:Nat}{e:α}(h:l[k]? =some e):l.take (k+1)=l.take k++[e]:=by
 rw[List.take_add_one,h];rfl
def B2 {α:Type} (w:World) (sz:Nat) (cf:α->List Value) (v:Value) (xs:List α):Prop:=
 ∃a cap,v=.slice a xs.length cap/\(0<xs.length->∃g,a=some ⟨g,0,none⟩)/\∀g,a=some ⟨g,0,none⟩->∀(i:Nat) (e:α),xs[i]? =some e->cU w ⟨g,i *sz,none⟩ (cf e)
section
variable {w0 w w1:World} {L R LX RX:List HP} {E:TypeId} {α:Type} {cf:α->List Value} {sz:Nat} {xs:List α} {v:Value}
theorem B2.ext(h:B2 w sz cf v xs)(e:Ext w w1):B2 w1 sz cf v xs:=by
 obtain⟨a,cap,h1,h2,h3⟩:=h;exact⟨a,cap,h1,h2,fun g hg i x hx=>(h3 g hg i x hx).ext e⟩
theorem B2.of(cj:∀e,(cf e).length=sz)(hp:bC L (SL E sz cf v xs) R)(w:World)(hw:St w0 L w):B2 w sz cf v xs:=by
 have h:=hw.pick hp;obtain⟨a,cap,rfl,ha⟩:=aN h;refine⟨a,cap,rfl,ha,fun g hg i e he j c hj=>?_⟩;subst hg;have Gc:j<sz:=by rw[<-cj e];exact(au.1 hj).1
 rw[Addr.add_lit,lW cj h he j Gc];exact hj
theorem B2.base(h:B2 w0 sz cf v xs)(w:World)(hw:St w0 L w):B2 w sz cf v xs:=h.ext (Ext.bB hw.below)
end
structure Ms where
 id:Int
 pri:Int
 body:ak
 queue:ak
 b9:Int
instance:Inhabited Ms:=⟨⟨0,0,⟨#[]⟩,⟨#[]⟩,0⟩⟩
def dN (m:Ms):List Value:=[.int .i64 m.id,.int .i64 m.pri,.string m.body,.string m.queue,.int .i64 m.b9]
structure It where
 m:Ms
 line:Int
 put:Int
 j9:Int
instance:Inhabited It:=⟨⟨default,0,0,0⟩⟩
def lZ (x:It):List Value:=[.int .i64 x.m.id,.int .i64 x.m.pri,.string x.m.body,.string x.m.queue,.int .i64 x.m.b9,.int .i64 x.line,.int .i64 x.put,.int .i64 x.j9]
def Ea (p q x y:Int):Int:=if p≠q then q-p else x-y
def small (a:Int):Prop:= -1152921504606846976<=a/\a<=1152921504606846976
def lS (a b:It):Int:=Ea a.m.pri b.m.pri a.line b.line
structure Qu where
 l:List It
 next:Int
instance:Inhabited Qu:=⟨⟨[],0⟩⟩
def nS (e:It):Prop:=small e.m.pri/\small e.line
def OD (l:List It) (x:It):Prop:= ∀(p q:Nat) (a b:It),p<=q->l[p]? =some a->l[q]? =some b->lS b x<0->lS a x<0
structure Hl (l:List It) (x:It) (k:Nat):Prop where
 le:k<=l.length
 lo:∀(p:Nat) (a:It),p<k->l[p]? =some a->lS a x<0
 hi:∀(p:Nat) (a:It),k<=p->l[p]? =some a->0<=lS a x
def Nb (l:List It) (x:It) (k:Nat):Bool:=match l[k]? with|some a=>decide (lS a x=0)|none=>false
def sZ (l:List It) (x:It):Nat:=(l.takeWhile fun e=>decide (lS e x<0)).length
theorem zp:∀{l:List It} {x:It} {k:Nat},Hl l x k->k=sZ l x
 |[],x,k,h=>by have :=h.le;simp at this;subst this;rfl
 |a::l,x,k,h=>by
  unfold sZ;by_cases hx:lS a x<0
  ·simp only[List.takeWhile_cons,hx,decide_true,if_true,List.length_cons];cases k with
   |zero=>exact absurd hx (Int.not_lt.2 (h.hi 0 a (aC _) aj))
   |succ k=>
    have :Hl l x k:=⟨by have :=h.le;simp at this;omega,fun p b hp hb=>h.lo (p+1) b ae (by simpa using hb),fun p b hp hb=>h.hi (p+1) b ae (by simpa using hb)⟩;rw[zp this];rfl
  ·simp only[List.takeWhile_cons,hx,decide_false];cases k with
   |zero=>rfl
   |succ k=>exact absurd (h.lo 0 a ae aj) hx
theorem zo(l:List It)(x:It):sZ l x<=l.length:=(List.takeWhile_prefix _).length_le
def gI (q:Qu) (m:Ms) (u:Int):It:=⟨m,q.next,max u (-1),-1⟩
def dS (q:Qu) (m:Ms) (u:Int):Qu:=⟨q.l.take (sZ q.l (gI q m u))++gI q m u::q.l.drop (sZ q.l (gI q m u)),q.next+1⟩
structure WO (q:Qu):Prop where
 len:q.l.length<900000
 small:∀e∈q.l,nS e
 next:0<=q.next/\q.next<1000000
 mono:∀m u,OD q.l (gI q m u)
def fU (e:It):Bool:=decide (e.put<0)&&decide (e.j9<0)
def eK (q:Qu):List Ms:=(q.l.filter fU).map (·.m)
def cM (q:Qu):List Ms:=(q.l.filter fun e=>decide (e.put<0)).map (·.m)
def MP (id:Int) (e:It):Bool:=decide (e.m.id=id)
def CL (q:Qu) (id:Int):Bool:=q.l.any (MP id)
def bG (m:Ms):Bool:=decide (0<=m.id)&&(decide (m.id<=1099511627776)&&(decide (0<=m.pri)&&(decide (m.pri<=9)&&(jN m.body&&(cS m.queue&&(decide (0<=m.b9)&&decide (m.b9<4)))))))
theorem bP{m:Ms}(h:bG m=true):0<=m.id/\m.id<=1099511627776/\0<=m.pri/\m.pri<=9/\jN m.body=true/\cS m.queue=true/\0<=m.b9/\m.b9<4:=by
 unfold bG at h;simp only[aW,decide_eq_true_eq]at h;exact h
def jr (q:Qu) (m:Ms):Int:=if bG m=false then 1 else if CL q m.id=true then 9 else if 20<=q.l.length then 12 else 0
def nY (q:Qu) (m:Ms) (u:Int):Qu:=if jr q m=0 then dS q m u else q
def xd (q:Qu):Option Nat:=q.l.findIdx? fU
def nX (q:Qu) (id:Int):Option Nat:=q.l.findIdx? (MP id)
def FW (l:List It) (k:Nat):It:=l.getD k default
def mm:Ms:=⟨0,0,⟨#[]⟩,⟨#[]⟩,0⟩
def mW (q:Qu) (u:Int):Qu:=match xd q with|none=>q|some k=>if u<0 then⟨q.l.eraseIdx k,q.next⟩else⟨q.l.set k {FW q.l k with j9:=u},q.next⟩
def lG (q:Qu):Ms:=match xd q with|none=>mm|some k=>(FW q.l k).m
def lH (q:Qu):Int:=match xd q with|none=>8|some _=>0
def fm (q:Qu) (id:Int):Qu:=match nX q id with|none=>q|some k=>⟨q.l.eraseIdx k,q.next⟩
def qP (q:Qu) (id:Int):Ms:=match nX q id with|none=>mm|some k=>(FW q.l k).m
def lF (q:Qu) (id:Int):Int:=match nX q id with|none=>7|some _=>0
def oP (u:Int) (back:Bool) (x:It):Bool:=(decide (x.put=u)&&back)||(decide (x.j9=u)&& !back)
def oq (u:Int) (x:It):It:={x with put:=if x.put=u then -1 else x.put,j9:=if x.j9=u then -1 else x.j9}
def fp (q:Qu) (u:Int) (back:Bool):Qu:=if u<0 then q else⟨(q.l.filter fun e=> !oP u back e).map (oq u),q.next⟩
theorem ob{l:List It}{k:Nat}{e:It}(h:l[k]? =some e):FW l k=e:=by simp[FW,aq,h]
end WB
namespace Go.Proofs.YtjhogocabcdjbabGreatDoor
open Tryz
open Go Go.RowKit WB
theorem aas(w0:World)(L:List HP)(a b:Ms)(x y:Int)(h1:small a.pri)(h2:small b.pri)(h3:small x)(h4:small y):
 KE prog 245 #[.agg (dN a).toArray,.agg (dN b).toArray,.int .i64 x,.int .i64 y] w0 L (fun v L'=>v=.int .i64 (Ea a.pri b.pri x y)/\L'=L):=by
 unfold small at h1 h2 h3 h4;refine KE.mk (n:=22) func245 rfl ntmps245 aj ?_;intro w hw;refine Z2 ?_;refine KO.box rfl rfl aL rfl ?_;intro b4;refine KO.box rfl rfl aL rfl ?_;intro b5;refine qm ?_;refine XA ?_;refine E8 ?_;refine XA ?_;refine vG ?_;refine y9 ?_;refine Z5 ?_;refine K.bI rfl (fun h=>?_) (fun h=>?_)
 ·refine Z2 ?_;refine XA ?_;refine vG ?_;refine XA ?_;refine E8 ?_;refine Kk ?_;refine vx ?_;refine KQ.a_ rfl rfl (fun w' hs=>⟨_,_,rfl,⟨?_,rfl⟩,hw.aA hs.below,hs.below⟩);simp[Ea,h]
 ·refine Z6 ?_;refine iw ?_;refine Kk ?_;refine fK ?_;refine KQ.a_ rfl rfl (fun w' hs=>⟨_,_,rfl,⟨?_,rfl⟩,hw.aA hs.below,hs.below⟩);simp[Ea,h]
abbrev Ic (v:Value) (xs:List It):HP:=SL 243 8 lZ v xs
theorem Vo(w0:World)(L:List HP)(e:It):
 KE prog 150 #[.agg (lZ e).toArray] w0 L (fun v L'=>v=.bool (decide (e.put<0)&&decide (e.j9<0))/\L'=L):=by
 refine KE.mk (n:=11) func150 rfl ntmps150 aj ?_;intro w hw;refine Z2 ?_;refine KO.box rfl rfl aL rfl ?_;intro b1;refine jH ?_;by_cases h1:e.put<0
 ·refine XB ?_;refine Ey ?_;refine EO ?_;refine pF ?_;refine vz ?_;refine qJ ?_;refine fK ?_;refine KQ.a_ rfl rfl (fun w' hs=>⟨_,_,rfl,⟨?_,rfl⟩,hw.aA hs.below,hs.below⟩);simp[h1]
 ·refine XB ?_;refine Ob ?_;refine G6 ?_;refine fK ?_;refine KQ.a_ rfl rfl (fun w' hs=>⟨_,_,rfl,⟨?_,rfl⟩,hw.aA hs.below,hs.below⟩);simp[h1]
theorem Pa(w0:World)(L R:List HP)(e:It)(b:Nat)(id:Int)(E:TypeId)(hp:bC L (bD b (.cells [Value.int .i64 id].toArray E (0,0))) R):
 KE prog 252 #[.agg (lZ e).toArray,.pointer (some ⟨b,0,none⟩)] w0 L (fun v L'=>v=.bool (decide (e.m.id=id))/\L'=L):=by
 refine KE.mk (n:=9) func252 rfl ntmps252 aj ?_;intro w hw;have hw:=hw.pick hp;refine Z2 ?_;refine KO.box rfl rfl aL rfl ?_;intro b2;refine qm ?_;refine Ko ?_;refine Kl ?_;refine V7 ?_;refine fK ?_;refine KQ.a_ rfl rfl (fun w' hs=>⟨_,_,rfl,⟨rfl,rfl⟩,(hw.sY hp).aA hs.below,hs.below⟩)
theorem A4(w0:World)(L:List HP)(v:Value)(xs:List It)(f:FuncId)(cp:List Value)(pf:It->Bool)(hr:∀w,St w0 L w->B2 w 8 lZ v xs)(hlen:xs.length<1000000)(dx:∀args w,(callFunc f args).run prog w=.ok (.enter f args) w)(oG:∀e,e∈xs->KE prog f ([]++([Value.agg (lZ e).toArray]++cp)).toArray w0 L (fun v L'=>v=.bool (pf e)/\L'=L)):
 KE prog 149 #[v,.func (.func f) [].toArray cp.toArray] w0 L (fun v L'=>v=.int .i64 (ot pf xs)/\L'=L):=by
 refine KE.mk (n:=19) func149 rfl ntmps149 aj ?_;intro w hw;obtain⟨a,cap,rfl,ha,hc⟩:=hr w hw;refine iG ?_;refine yC ?_;refine lf ?_;refine K.loop (fun k:Nat=>[(0,.slice a xs.length cap),(1,.func (.func f) [].toArray cp.toArray),(7,.int .i64 (xs.length:Nat)),(8,.int .i64 (k:Nat))]) (fun _=>[]) (fun k=>k<=xs.length/\∀(j:Nat) (u:It),j<k->xs[j]? =some u->pf u=false) (fun k=>xs.length-k) 0 ⟨by omega,fun j u h=>by omega⟩ ⟨rfl,rfl,rfl,rfl,trivial⟩ (fun _ h=>h) ?_;rintro k ⟨hk,og⟩;refine gZ ?_;refine K.bI rfl (fun h=>?_) (fun h=>?_)
 ·have dI:k<xs.length:=by omega
  obtain⟨g,rfl⟩:=ha ae;obtain⟨e,he⟩:∃e,xs[k]? =some e:=⟨xs[k],ao dI⟩;refine G5 ?_;refine jh ?_;refine Ws ?_;refine KO.ce rfl rfl rfl dx rfl ((oG e (ax he)).jQ hw) ?_;rintro v L' ⟨rfl,rfl⟩;refine Z5 ?_;refine K.cond rfl (fun h1=>?_) (fun h1=>?_)
  ·refine gU ?_;refine nD ?_;refine KQ.a_ rfl rfl (fun w' hs=>⟨_,_,rfl,⟨?_,rfl⟩,hw.aA hs.below,hs.below⟩);rw[sw he h1 og]
  ·refine rA ?_;refine KQ.round (k+1) ⟨by omega,fun j u hj hu=>?_⟩ ae ⟨rfl,rfl,rfl,rfl,trivial⟩ (fun _ h=>h);by_cases E5:j=k
   ·subst E5;rw[he]at hu;simp only[ay]at hu;rw[<-hu];exact h1
   ·exact og j u ae hu
 ·refine wx ?_;refine Ex ?_;refine KQ.a_ rfl rfl (fun w' hs=>⟨_,_,rfl,⟨?_,rfl⟩,hw.aA hs.below,hs.below⟩);rw[pY fun j u hu=>og j u Y17 hu]
theorem VK(w0:World)(L:List HP)(v:Value)(xs:List It)(f:FuncId)(cp:List Value)(pf:It->Bool)(hr:∀w,St w0 L w->B2 w 8 lZ v xs)(hlen:xs.length<1000000)(dx:∀args w,(callFunc f args).run prog w=.ok (.enter f args) w)(oG:∀e,e∈xs->KE prog f ([]++([Value.agg (lZ e).toArray]++cp)).toArray w0 L (fun v L'=>v=.bool (pf e)/\L'=L)):
 KE prog 241 #[v,.func (.func f) [].toArray cp.toArray] w0 L (fun v L'=>v=.bool (xs.any pf)/\L'=L):=by
 refine KE.mk (n:=9) func241 rfl ntmps241 aj ?_;intro w hw;refine BI ?_;refine KO.ce rfl rfl rfl call149 rfl ((A4 w0 L v xs f cp pf hr hlen dx oG).jQ hw) ?_;rintro v L' ⟨rfl,rfl⟩;refine uh ?_;refine fK ?_;refine KQ.a_ rfl rfl (fun w' hs=>⟨_,_,rfl,⟨?_,rfl⟩,hw.aA hs.below,hs.below⟩);rw[sx]
theorem tz:(prog.info? 243).map (fun i=>(i.zero,i.size,i.bytes))=some (some (Value.agg #[.int .i64 0,.int .i64 0,.string ⟨#[]⟩,.string ⟨#[]⟩,.int .i64 0,.int .i64 0,.int .i64 0,.int .i64 0]),8,80):=by kernel_rfl
theorem FV(w w0:World)(L:List HP)(v:Value)(n:Nat)(xs vs:List Value)(bv:Nat)(h:St w0 (ie 243 8 v n xs::bD bv (.cells vs.toArray 243 (0,0))::L) w)(hv:vs.length=8)(h1:∀u∈vs,u.oneCell'=true)(hn:n<1000000):
 Calls prog 246 #[v,.int .i64 n,.slice (some ⟨bv,0,none⟩) 1 1] w fun e w'=> ∃v',e=.returned v'/\St w0 (ie 243 8 v' (n+1) (xs++vs)::L) w':=by
 obtain⟨i0,hi,uF,l0,u9⟩:=info_parts tz;have pd:cU w ⟨bv,0,none⟩ vs:=by
  have h2:=h.pick (.tail .head);exact h2.eT fun j u hj=>by simpa using hj
 obtain⟨v',w1,hr,kO⟩:=p8 (P:=prog) 120 120 243 i0 _ 8 80 underlying120 hi uF l0 u9 rfl h ⟨bv,0,none⟩ 1 1 vs (by rw[hv]) pd h1 Ou ae;have HR:=Lib.hid hr;have HS:=Lib.hid kO;have qC:v=.slice none 0 0/\n=0\/∃g cap,v=.slice (some ⟨g,0,none⟩) n cap/\n<=cap:=by
  rcases h.cr with⟨h1,h2,_⟩|⟨g,cap,_,h1,h2,_⟩
  ·exact .inl ⟨h1,h2⟩
  ·exact .inr ⟨g,cap,h1,h2⟩
 clear h hr kO pd hi uF l0 u9;rcases qC with⟨rfl,rfl⟩|⟨g,cap,rfl,tF⟩
 ·go_enter func246,ntmps246
  go_wp2_with (at_builtin;refine Lib.wpList_append_run _ rfl _ _ _ _ rfl _ _ rfl rfl _ _ HR.out ?_)
  go_ret
  exact⟨_,rfl,HS.out.fL.drop⟩
 ·have hE:((n:Int)==(n:Int))=true:=by simp
  by_cases Va:cap=n
  ·have U_:n=cap:=Va.symm;subst U_
   go_enter func246,ntmps246
   go_wp2_with (at_builtin;refine Lib.wpList_append_run _ rfl _ _ _ _ rfl _ _ rfl rfl _ _ HR.out ?_)
   go_ret
   exact⟨_,rfl,HS.out.fL.drop⟩
  ·go_enter func246,ntmps246
   go_wp2_with (at_builtin;refine Lib.wpList_append_run _ rfl _ _ _ _ rfl _ _ rfl rfl _ _ HR.out ?_)
   go_ret
   exact⟨_,rfl,HS.out.fL.drop⟩
theorem Dc(w w0:World)(L:List HP)(g n cap k:Nat)(xs vs:List Value)(bv:Nat)(h:St w0 (ie 243 8 (.slice (some ⟨g,0,none⟩) n cap) n xs::bD bv (.cells vs.toArray 243 (0,0))::L) w)(hv:vs.length=8)(h1:∀u∈vs,u.oneCell'=true)(FZ:∀u∈xs,u.oneCell'=true)(hn:n<1000000)(hk:k<n)(jM:n+1<=cap):
 Calls prog 246 #[.slice (some ⟨g,0,none⟩) n cap,.int .i64 k,.slice (some ⟨bv,0,none⟩) 1 1] w fun e w'=> ∃v',e=.returned v'/\St w0 (ie 243 8 v' (n+1) (xs.take (k *8)++vs++xs.drop (k *8))::L) w':=by
 obtain⟨i0,hi,uF,l0,u9⟩:=info_parts tz;rcases h.cr with⟨hc,_⟩|⟨g',ou,cur,hc,tF,sP,mL,eO,qd,hblk⟩
 ·simp at hc
 ·simp only[Value.slice.injEq,ay,Addr.mk.injEq,and_true,true_and]at hc;obtain⟨rfl,rfl⟩:=hc;have hov:∀o n c o' n' c',(callFunc 346 #[.slice (some ⟨bv,o,none⟩) n c,.slice (some ⟨g,o',none⟩) n' c']).run prog w=.ok (.value (.bool false)) w:=fun o n c o' n' c'=>by
   rw[run_callFunc_extern func346 bm bm bm (e:=Extern.SlicesOverlaps.overlaps #[120,120] #[4]) bm,
    uA 120 4 243 i0 underlying120 hi hblk.fL o n c o' n' c' (by rw[mL];omega)]
   rfl
  have HB:=Lib.hid hblk;have kF:((k:Int)==(n:Int))=false:=by simp;omega
  have Qv:cap<9223372036854775808:=by unfold maxLen at sP;omega
  have cj:(cur.toList.take (n *8)).length=n *8:=by simp;omega
  have oG:cur.toList.length=cap *8:=by simpa using mL
  have Ba:Nat.min (n+1-k) (n-k)=n-k:=Nat.min_eq_right ae;have Y_:∀u∈(cur.toList.take (n *8)).drop (k *8),u.oneCell'=true:=fun u hu=>FZ u (eO▸List.mem_of_mem_drop hu)
  have UX:((cur.toList.take (n *8)).drop (k *8)).length=Nat.min (n+1-k) (n-k)*i0.size:=by
   rw[bo,cj,l0,Ba,Nat.sub_mul]
  have tM:=fc (P:=prog) w.drew 120 120 3 243 i0 g ((k+1)*8) (n-k) (cap-(k+1)) ⟨g,k *8,none⟩ (n+1-k) (cap-k) cur 243 _ underlying120 hi hblk.drew.look.2 UX
   (hblk.drew.eT fun j u hj=>by
    rw[List.getElem?_drop,List.getElem?_take]at hj;split at hj
    ·simpa using hj
    ·simp at hj) (by rw[UX,l0,Ba,mL];omega) Y_
  have rH:=hblk.drew.setRow (c':=(cur.toList.take ((k+1)*8)++(cur.toList.take (n *8)).drop (k *8)++cur.toList.drop ((k+1)*8+((cur.toList.take (n *8)).drop (k *8)).length)).toArray);have DE:((cur.toList.take (n *8)).drop (k *8)).length=n *8-k *8:=by rw[bo,cj]
  generalize Bh:cur.toList.take ((k+1)*8)++(cur.toList.take (n *8)).drop (k *8)++cur.toList.drop ((k+1)*8+((cur.toList.take (n *8)).drop (k *8)).length)=C1 at tM rH;have rf:C1.length=cap *8:=by rw[<-Bh];simp only[aQ,bp,DE,bo,oG];omega
  have kG:=fc (P:=prog) (w.drew.setRow g C1.toArray) 120 120 3 243 i0 g (k *8) (n+1-k) (cap-k) ⟨bv,0,none⟩ 1 1 C1.toArray 243 vs underlying120 hi rH.look.2
   Y10 (rH.drop.eT fun j u hj=>by simpa using hj) (by rw[hv];simp[rf];omega) h1
  have vY:=rH.setRow (c':=(C1.take (k *8)++vs++C1.drop (k *8+vs.length)).toArray);have nh:Nat.min 1 (n+1-k)=1:=Nat.min_eq_left ae;rw[nh]at kG;rw[Ba]at tM;have iW:((C1.take (k *8)++vs++C1.drop (k *8+vs.length)).toArray).toList.take ((n+1)*8)=xs.take (k *8)++vs++xs.drop (k *8):=by
   have :=mR cur.toList vs (k *8) 8 (n *8) (cap *8) ae hv ae oG;simp only[eO]at this;rw[hv];have e:(k+1)*8=k *8+8:=by omega
   have e2:(n+1)*8=n *8+8:=by omega
   have e3:(k *8+8+(n *8-k *8))=n *8+8:=by omega
   rw[eO,e,show(xs.drop (k *8)).length=n *8-k *8 by rw[bo,qd],e3]at Bh;rw[<-Bh,e2];exact this
  have tD:=vY.ju (n:=n+1) (size:=8) (cap:=cap) jM sP (by simp[rf,hv];omega) iW;generalize C1.take (k *8)++vs++C1.drop (k *8+vs.length)=C2 at kG tD vY iW;have WW:=Lib.hid tM;have WV:=Lib.hid kG;have HO:=Lib.hid tD;clear h hblk sP hi uF l0 u9 mL eO qd FZ h1 hv tM kG tD rH vY iW Bh DE UX Y_ oG cj Ba nh rf
  go_enter func246,ntmps246
  go_wp2_with fail
  refine eA [.pure,.pure,.pure,.pure,.pure,.pure,.pure,.pure,.write] [0,1,2,3,4,5,6,7,8] bm bm ?_;simp only[aT,List.map_nil,item,List.getD_cons_zero,List.getD_cons_succ]
  repeat((with_reducible refine fy (v:=?_) (a':=?_) ?_ ?_ ?_ ?_);rotate_left 2;(rfl);((intro w';go_simp;(try(go_bits;(try go_simp);(try(go_bits;(try go_simp)))));(repeat(first|rewrite [if_pos ae]|rewrite [if_neg ae])))<;>rfl);(go_simp;rfl))
  refine kR (a':=?_) (v:=?_) (w':=?_) rfl ?_ ?_ ?_
  rotate_left 3
  ·rw[lQ _ _ _ _ rfl (.slice (some ⟨g,(k+1)*8,none⟩) (n-k) (cap-(k+1))) (.slice (some ⟨g,k *8,none⟩) (n+1-k) (cap-k)) rfl rfl WW.out]
  ·go_simp;rfl
  refine nP ?_
  go_wp2_with (refine rO rfl _ _ _ _ rfl (.slice (some ⟨g,k *8,none⟩) (n+1-k) (cap-k)) (.slice (some ⟨bv,0,none⟩) 1 1) rfl rfl WV.out ?_;intro K hK;go_simp)
  go_ret
  exact⟨_,rfl,HO.out.fL.drop⟩
theorem De(w w0:World)(L:List HP)(g n k:Nat)(cap:Nat)(xs vs:List Value)(bv:Nat)(h:St w0 (ie 243 8 (.slice (some ⟨g,0,none⟩) n cap) n xs::bD bv (.cells vs.toArray 243 (0,0))::L) w)(hv:vs.length=8)(h1:∀u∈vs,u.oneCell'=true)(FZ:∀u∈xs,u.oneCell'=true)(hn:n<1000000)(hk:k<n)(jM:cap<n+1):
 Calls prog 246 #[.slice (some ⟨g,0,none⟩) n cap,.int .i64 k,.slice (some ⟨bv,0,none⟩) 1 1] w fun e w'=> ∃v',e=.returned v'/\St w0 (ie 243 8 v' (n+1) (xs.take (k *8)++vs++xs.drop (k *8))::L) w':=by
 obtain⟨i0,hi,uF,l0,u9⟩:=info_parts tz;rcases h.cr with⟨hc,_⟩|⟨g',ou,cur,hc,tF,sP,mL,eO,qd,hblk⟩
 ·simp at hc
 ·simp only[Value.slice.injEq,ay,Addr.mk.injEq,and_true,true_and]at hc;obtain⟨rfl,rfl⟩:=hc;have Va:cap=n:=by omega
  have kF:((k:Int)==(n:Int))=false:=by simp;omega
  have oG:cur.toList.length=cap *8:=by simpa using mL
  have P9:(xs.take (k *8)).length=k *8:=by rw[bp,qd];omega
  have iD:∀(j:Nat) (u:Value),xs[j]? =some u->cur[j]? =some u:=fun j u hj=>by
   rw[<-eO,List.getElem?_take]at hj;split at hj
   ·simpa using hj
   ·simp at hj
  have hr:=mS (P:=prog) w 120 3 120 243 i0 _ .i64 .i64 underlying120 underlying3 hi uF ⟨g,0,none⟩ k cap (xs.take (k *8)) (by rw[P9,l0])
   (hblk.eT fun j u hj=>by
    rw[List.getElem?_take]at hj;split at hj
    ·rw[Nat.zero_add];exact iD j u hj
    ·simp at hj) (n+1-k) ae (by rw[l0];omega) ae ae (by rw[u9];exact growslice_fits ae ae) (by rw[u9];omega)
  have B7:=grownCap_ge w (k+(n+1-k)) cap 243;have hle:=grownCap_le_maxLen w (k+(n+1-k)) cap 243 Ou;have mJ:=hblk.drew.alloc (.cells ((xs.take (k *8)).toArray++Builtin.zeroCells (Value.agg #[.int .i64 0,.int .i64 0,.string ⟨#[]⟩,.string ⟨#[]⟩,.int .i64 0,.int .i64 0,.int .i64 0,.int .i64 0]).cells (n+1-k)++Builtin.zeroCells (Value.agg #[.int .i64 0,.int .i64 0,.string ⟨#[]⟩,.string ⟨#[]⟩,.int .i64 0,.int .i64 0,.int .i64 0,.int .i64 0]).cells (grownCap w (k+(n+1-k)) cap 243-(k+(n+1-k)))) 243);have Kx:∀q,(Builtin.zeroCells (Value.agg #[.int .i64 0,.int .i64 0,.string ⟨#[]⟩,.string ⟨#[]⟩,.int .i64 0,.int .i64 0,.int .i64 0,.int .i64 0]).cells q).size=q *8:=fun q=>by rw[size_zeroCells];rfl
  generalize hW:w.drew.alloc (.cells ((xs.take (k *8)).toArray++Builtin.zeroCells (Value.agg #[.int .i64 0,.int .i64 0,.string ⟨#[]⟩,.string ⟨#[]⟩,.int .i64 0,.int .i64 0,.int .i64 0,.int .i64 0]).cells (n+1-k)++Builtin.zeroCells (Value.agg #[.int .i64 0,.int .i64 0,.string ⟨#[]⟩,.string ⟨#[]⟩,.int .i64 0,.int .i64 0,.int .i64 0,.int .i64 0]).cells (grownCap w (k+(n+1-k)) cap 243-(k+(n+1-k)))) 243)=W at hr mJ;clear hW;generalize hcp:grownCap w (k+(n+1-k)) cap 243=cp at hr mJ B7 hle;clear hcp;have e1:k+(n+1-k)=n+1:=by omega
  rw[e1]at hr B7;generalize hB:w.heap.size=B at hr;have ZL:w.drew.heap.size=B:=hB;rw[ZL]at mJ;clear hB ZL;generalize hZ:Builtin.zeroCells (Value.agg #[.int .i64 0,.int .i64 0,.string ⟨#[]⟩,.string ⟨#[]⟩,.int .i64 0,.int .i64 0,.int .i64 0,.int .i64 0]).cells (n+1-k)++Builtin.zeroCells (Value.agg #[.int .i64 0,.int .i64 0,.string ⟨#[]⟩,.string ⟨#[]⟩,.int .i64 0,.int .i64 0,.int .i64 0,.int .i64 0]).cells (cp-(k+(n+1-k)))=Z at mJ;have ZC:Z.toList.length=(cp-k)*8:=by
   rw[<-hZ];simp only[Array.length_toList,Array.size_append,Kx];omega
  have JO:((xs.take (k *8)).toArray++Builtin.zeroCells (Value.agg #[.int .i64 0,.int .i64 0,.string ⟨#[]⟩,.string ⟨#[]⟩,.int .i64 0,.int .i64 0,.int .i64 0,.int .i64 0]).cells (n+1-k)++Builtin.zeroCells (Value.agg #[.int .i64 0,.int .i64 0,.string ⟨#[]⟩,.string ⟨#[]⟩,.int .i64 0,.int .i64 0,.int .i64 0,.int .i64 0]).cells (cp-(k+(n+1-k))))=(xs.take (k *8)++Z.toList).toArray:=by
   rw[<-hZ];apply Array.ext';simp
  rw[JO]at mJ;clear JO hZ Kx;have UH:=mJ;generalize JO:xs.take (k *8)++Z.toList=C0 at mJ;have Gq:C0.length=cp *8:=by rw[<-JO,aQ,P9,ZC];omega
  have xI:Nat.min 1 (n+1-k)=1:=Nat.min_eq_left ae;have z_:St w0 (bD bv (.cells vs.toArray 243 (0,0))::bD B (.cells C0.toArray 243 (0,0))::bD g (.cells cur 243 (0,0))::L) W:=mJ.pick (.tail (.tail .head));have tM:=fc (P:=prog) W 120 120 3 243 i0 B (k *8) (n+1-k) (cp-k) ⟨bv,0,none⟩ 1 1 C0.toArray 243 vs underlying120 hi mJ.look.2
   (by rw[hv,l0,xI,Nat.one_mul]) (z_.eT fun j u hj=>by simpa using hj) (by rw[hv];simp[Gq];omega) h1
  have rH:=mJ.setRow (c':=(C0.take (k *8)++vs++C0.drop (k *8+vs.length)).toArray);rw[xI]at tM;generalize Bh:C0.take (k *8)++vs++C0.drop (k *8+vs.length)=C1 at tM rH;have rf:C1.length=cp *8:=by rw[<-Bh];simp only[aQ,bp,bo,Gq,hv];omega
  generalize Qz:W.setRow B C1.toArray=W1 at tM rH;clear Qz;have me:(xs.drop (k *8)).length=(n-k)*8:=by rw[bo,qd];omega
  have nh:Nat.min (n-k) (n-k)=n-k:=Nat.min_self _;have xL:St w0 (bD g (.cells cur 243 (0,0))::bD B (.cells C1.toArray 243 (0,0))::bD bv (.cells vs.toArray 243 (0,0))::L) W1.drew:=(rH.pick (.tail .head)).drew;have kG:=fc (P:=prog) W1.drew 120 120 3 243 i0 B ((k+1)*8) (n-k) (cp-(k+1)) ⟨g,k *8,none⟩ (n-k) (cap-k) C1.toArray 243 (xs.drop (k *8)) underlying120 hi rH.drew.look.2
   (by rw[me,l0,nh]) (xL.eT fun j u hj=>by rw[List.getElem?_drop]at hj;exact iD _ u hj) (by rw[me];simp[rf];omega) (fun u hu=>FZ u (List.mem_of_mem_drop hu))
  have vY:=rH.drew.setRow (c':=(C1.take ((k+1)*8)++xs.drop (k *8)++C1.drop ((k+1)*8+(xs.drop (k *8)).length)).toArray);rw[nh]at kG;have iW:((C1.take ((k+1)*8)++xs.drop (k *8)++C1.drop ((k+1)*8+(xs.drop (k *8)).length)).toArray).toList.take ((n+1)*8)=xs.take (k *8)++vs++xs.drop (k *8):=by
   have :=uM (xs.take (k *8)) Z.toList vs (xs.drop (k *8)) (k *8) 8 ((n-k)*8) P9 hv me;simp only[JO]at this;rw[hv]at Bh;rw[Bh]at this;rw[me,show(k+1)*8=k *8+8 by omega,show(n+1)*8=k *8+8+(n-k)*8 by omega];exact this
  have xJ:(C1.take ((k+1)*8)++xs.drop (k *8)++C1.drop ((k+1)*8+(xs.drop (k *8)).length)).length=cp *8:=by
   simp only[aQ,bp,bo,rf,qd];omega
  generalize C1.take ((k+1)*8)++xs.drop (k *8)++C1.drop ((k+1)*8+(xs.drop (k *8)).length)=C2 at kG vY iW xJ;have tD:=vY.ju (n:=n+1) (size:=8) (cap:=cp) B7 hle (by simpa using xJ) iW;have e9:((n+1-k:Nat):Int)=(n:Int)+1-k:=by omega
  rw[e9]at hr;clear e9;have HR:=Lib.hid hr;have WW:=Lib.hid tM;have WV:=Lib.hid kG;have HO:=Lib.hid tD;have aei:cp<9223372036854775808:=by unfold maxLen at hle;omega
  clear h hblk sP hi uF l0 u9 mL eO qd FZ h1 hv tM kG tD mJ UH rH vY iW xJ JO Gq Bh rf hr xL z_ me P9 oG iD ZC xI nh hle e1 Va
  go_enter func246,ntmps246
  go_wp2_with (first|(at_builtin;refine Lib.wpList_append_run _ rfl _ _ _ _ rfl _ _ rfl rfl _ _ HR.out ?_)|(refine rO rfl _ _ _ _ rfl (.slice (some ⟨B,k *8,none⟩) (n+1-k) (cp-k)) (.slice (some ⟨bv,0,none⟩) 1 1) rfl rfl WW.out ?_;intro K hK;go_simp))
  refine eA [.pure,.pure,.pure,.pure,.pure,.pure,.pure,.pure,.write] [0,1,2,3,4,5,6,7,8] bm bm ?_;simp only[aT,List.map_nil,item,List.getD_cons_zero,List.getD_cons_succ]
  repeat((with_reducible refine fy (v:=?_) (a':=?_) ?_ ?_ ?_ ?_);rotate_left 2;(rfl);((intro w';go_simp;(try(go_bits;(try go_simp);(try(go_bits;(try go_simp)))));(repeat(first|rewrite [if_pos ae]|rewrite [if_neg ae])))<;>rfl);(go_simp;rfl))
  refine kR (a':=?_) (v:=?_) (w':=?_) rfl ?_ ?_ ?_
  rotate_left 3
  ·rw[lQ _ _ _ _ rfl (.slice (some ⟨B,(k+1)*8,none⟩) (n-k) (cp-(k+1))) (.slice (some ⟨g,k *8,none⟩) (n-k) (cap-k)) rfl rfl WV.out]
  ·go_simp;rfl
  refine nP ?_
  go_wp2_with fail
  go_ret
  exact⟨_,rfl,HO.out.pick (.tail .head) |>.drop.pick (.tail .head) |>.drop⟩
end Go.Proofs.YtjhogocabcdjbabGreatDoor
