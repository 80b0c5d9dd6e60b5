import Derived.WalkKit
import Derived.LoopN
import Derived.ChangeMaps5
import Derived.Laws.CopyOwn
import Derived.Lib.Hide
import Derived.Lib.Bytealg
import Derived.Lib.SlTrimSet
import Derived.Test.YtjhogocabcdjbabGreatDoorShelf
import Derived.Shelf.Strings.SlTrimAscii
import Derived.LaidEql
import Derived.Stop.Asserts
import Derived.RowKitTokens
import Derived.Lib.Overlaps
import Derived.Lib.AppendZeros
import Derived.Maps.OwnOps
import Derived.IntWalk
set_option linter.unusedSimpArgs false
set_option linter.unusedVariables false
set_option maxRecDepth 100000
set_option maxHeartbeats 8000000
theorem ao{α:Type}{l:List α}{i:Nat}(h:i<l.length):l[i]? =some l[i]:=List.getElem?_eq_getElem h
theorem aq{α:Type}{l:List α}{i:Nat}{d:α}:l.getD i d=(l[i]?).getD d:=List.getD_eq_getElem?_getD
theorem au{α:Type}{l:List α}{i:Nat}{a:α}:l[i]? =some a↔∃h:i<l.length,l[i]=a:=List.getElem?_eq_some_iff
theorem ax{α:Type}{l:List α}{i:Nat}{a:α}(h:l[i]? =some a):a∈l:=List.mem_of_getElem? h
theorem ay{α β:Type}{b:β}{f:α→β}{l:List α}:b∈l.map f↔∃a,a∈l∧f a=b:=List.mem_map
theorem az{α:Type}(a b:α):(some a=some b)=(a=b):=Option.some.injEq _ _
theorem aB{α:Type}{p:α→Bool}{l:List α}{x:α}:x∈l.filter p↔x∈l∧p x=true:=List.mem_filter
theorem aD{α:Type}{b:α}{l:List α}{a:α}:a∈b::l↔a=b∨a∈l:=List.mem_cons
theorem aE(n:Nat):(n:Int).toNat=n:=Int.toNat_natCast _
theorem aF(n:Nat):n≤n:=Nat.le_refl _
theorem aG{α β:Type}{f:α→β}{l:List α}{i:Nat}:(l.map f)[i]? =(l[i]?).map f:=List.getElem?_map
theorem aH{α:Type}{a:α}{s t:List α}:a∈s++t↔a∈s∨a∈t:=List.mem_append
theorem aI{α:Type}{p:α→Bool}{l:List α}:l.all p=true↔∀x,x∈l→p x=true:=List.all_eq_true
theorem aJ{α β:Type}{f:α→β}{a:α}{l:List α}:(a::l).map f=f a::l.map f:=List.map_cons
theorem aL{α:Type}(a b c:List α):a++b++c=a++(b++c):=List.append_assoc _ _ _
theorem aN{α β:Type}{f:α→β}{a b:List α}:(a++b).map f=a.map f++b.map f:=List.map_append
theorem aQ{a b:ByteArray}:(a++b).size=a.size+b.size:=ByteArray.size_append
theorem aR{α β:Type}{x:α}{l:List α}{f:α→List β}:(x::l).flatMap f=f x++l.flatMap f:=List.flatMap_cons
theorem aV(n:Nat):0≤n:=Nat.zero_le _
theorem aW{α β:Type}{l:List α}(f:α→β):(l.map f).length=l.length:=List.length_map _
theorem aX{α:Type}{a b:List α}:(a++b).length=a.length+b.length:=List.length_append
theorem aY{α:Type}{a b:List α}{i:Nat}(h:a.length≤i):(a++b)[i]? =b[i-a.length]?:=List.getElem?_append_right h
theorem aZ{m n:Nat}:m∈List.range n↔m<n:=List.mem_range
theorem a_(a b:Bool):((a&&b)=true)=(a=true∧b=true):=Bool.and_eq_true _ _
theorem bj{α:Type}{l:List α}{i:Nat}{a b:α}(h:a∈l.set i b):a∈l∨a=b:=List.mem_or_eq_of_mem_set h
theorem bm{α:Type}{p q:α→Bool}{l:List α}:(l.filter q).filter p=l.filter fun a=>p a&&q a:=List.filter_filter
theorem bo{α:Type}{p:α→Bool}{l:List α}:l.filter p=l↔∀a∈l,p a=true:=List.filter_eq_self
theorem bu{α:Type}{i:Nat}{l:List α}:(l.drop i).length=l.length-i:=List.length_drop
theorem bz{α:Type}{a:α}{s t:List α}:a::s++t=a::(s++t):=List.cons_append
theorem bA{α:Type}{i:Nat}{l:List α}:(l.take i).length=min i l.length:=List.length_take
theorem bH{α:Type}{l:List α}{i:Nat}(h:l.length≤i):l[i]? =none:=List.getElem?_eq_none h
theorem bJ{α:Type}{a:α}{l:List α}:(a::l).Nodup↔¬a∈l∧l.Nodup:=List.nodup_cons
theorem bT{α:Type}{x:α}{l:List α}{p:α→Bool}:(x::l).filter p=if p x=true then x::l.filter p else l.filter p:=List.filter_cons
theorem bU{α:Type}{p:α→Bool}(a b:List α):(a++b).filter p=a.filter p++b.filter p:=List.filter_append _ _
theorem cO{α β:Type}{a:α}{l:List α}{f:α→β}(h:a∈l):f a∈l.map f:=List.mem_map_of_mem h
theorem ae{p:Prop}(h:p:=by omega):p:=h
theorem ai{p:Prop}(h:p:=by decide):p:=h
theorem aj{p:Prop}(h:p:=by simp):p:=h
abbrev ak:=ByteArray
section
variable {p q:Prop}
structure ZH (q:Prop):Prop where
 t:q
theorem Y0(h:p:=by(try simp only[kR,List.drop_succ_cons,List.drop_zero,List.drop_nil,bz,List.nil_append,List.length_cons,List.length_nil,Nat.zero_add,Nat.reduceAdd]);(try exact rfl)):p:=h
theorem Y1(h:p:=by with_reducible repeat(first|exact iB.refl|refine iB.cons (by with_reducible repeat(first|exact bF.head|apply bF.tail)) ?_|apply iB.drop)):p:=h
theorem Y2(h:p:=by rintro v M ⟨c,h1,rfl⟩;exact⟨_,⟨c,h1,rfl⟩,fun w hw=>((hw.fA (A:=dy p.1 p.2 x.1) (B:=fv p.2 x.2) (.tail .head) (.tail .head)).join).f_⟩):p:=h
theorem Y3(h:p:=by with_reducible repeat(first|exact iB.refl|refine iB.cons (by with_reducible repeat(first|exact bF.head|apply bF.tail)) ?_)):p:=h
theorem Y4(h:p:=by with_reducible repeat(first|exact iB.nil|refine iB.cons (by with_reducible repeat(first|exact bF.head|apply bF.tail)) ?_)):p:=h
theorem Y5(h:p:=by repeat(first|exact iB.refl|refine iB.cons (by repeat(first|exact bF.head|apply bF.tail)) ?_|apply iB.drop)):p:=h
theorem Y6(h:p:=by simp only[decide_eq_true_eq,decide_eq_false_iff_not,Bool.not_eq_true,Bool.not_true,Bool.not_false,ne_eq];omega):p:=h
theorem Y7(h:p:=by repeat(first|exact iB.refl|refine iB.cons (by repeat(first|exact bF.head|apply bF.tail)) ?_)):p:=h
theorem Y8(h:p:=by(try simp only[List.drop_zero,List.drop_succ_cons,List.take_succ_cons,List.take_zero]);(try exact rfl)):p:=h
theorem Y9(h:p:=by rw[hv,mM,show Nat.min 1 (n+1-k)=1 from Nat.min_eq_left ae,Nat.one_mul]):p:=h
theorem Y10(h:p:=by intro x hx;simp at hx;rcases hx with rfl|rfl|rfl|rfl<;>omega):p:=h
theorem bn(h:p:=by with_reducible (repeat(first|exact bF.head|apply bF.tail))):p:=h
theorem Dl(h:p:=by with_reducible repeat(first|exact rW.refl|apply rW.drop)):p:=h
theorem Y13(h:p:=by rintro v M ⟨h1,rfl⟩;exact⟨_,⟨h1,rfl⟩,fun w hw=>hw.join⟩):p:=h
theorem Y14(h:p:=by intro w;simp[sizeOf3,sizeOf4,sizeOf49]):p:=h
theorem Y15(h:p:=by dsimp only[Wo.cy];rw[List.length_set];exact hV):p:=h
theorem Y16(h:p:=by have :=(au.1 hu).1;omega):p:=h
theorem O9(h:p:=by unfold ix;simp only[Addr.add_lit];(simp;done)):p:=h
theorem Y18(h:p:=by simp only[aQ,z6,z7];omega):p:=h
theorem Y19(h:p:=by intro w;simp[sizeOf3,sizeOf120]):p:=h
theorem Y20(h:p:=by intro w;simp[sizeOf3,sizeOf9]):p:=h
theorem bQ(h:p:=by with_reducible (repeat(exact bF.head))):p:=h
theorem Y22(h:p:=by simp only[aQ];omega):p:=h
theorem OA(h:p:=by with_reducible repeat(exact iB.refl)):p:=h
theorem Sb(h:p:=by simp only[Addr.add_lit];(simp;done)):p:=h
theorem Y25(h:p:=by rw[hd];simp[Program.intKind,hd]):p:=h
theorem Y26(h:p:=by rw[I2 (by exact h3)];omega):p:=h
theorem Y27(h:p:=by rw[List.length_range];omega):p:=h
theorem Y28(h:p:=by rw[bA];omega):p:=h
theorem lO(h:p:=by rw[aW];omega):p:=h
theorem Y30(h:p:=by as_aux_lemma=>kernel_rfl):p:=h
theorem nI(h:p:=by repeat(exact iB.refl)):p:=h
theorem zz(h:p:=by rw[Addr.add_lit];simp):p:=h
theorem Oz(h:p:=by rw[hB.aA];exact hu):p:=h
theorem Y34(h:p:=by rw[I2 h3];omega):p:=h
theorem O8(h:p:=by rw[qe hV];omega):p:=h
theorem R_(h:p:=by unfold maxLen;omega):p:=h
theorem Y37(h:p:=by exact sizeOf243):p:=h
theorem Y38(h:p:=by exact sizeOf120):p:=h
theorem Oy(h:p:=by exact sizeOf256):p:=h
theorem Y40(h:p:=by exact sizeOf160):p:=h
theorem Y41(h:p:=by exact sizeOf161):p:=h
theorem Jd(h:p:=by exact sizeOf44):p:=h
theorem Y43(h:p:=by exact sizeOf49):p:=h
theorem Y44(h:p:=by exact sizeOf31):p:=h
theorem Z_(h:p:=by exact sizeOf23):p:=h
theorem zM(h:p:=by exact sizeOf3):p:=h
theorem Xk(h:p:=by exact sizeOf9):p:=h
theorem gV(h:p:=by dsimp only;omega):p:=h
theorem Tj(h:p:=by simp[bM, *]):p:=h
theorem Ox(h:p:=by rw[<-jy];rfl):p:=h
theorem ZZ(h:p:=by simpa using hj):p:=h
theorem ZY(h:p:=by simpa using hl):p:=h
theorem Xj(h:p:=by simpa using h0):p:=h
theorem Xi(h:p:=by simpa using h2):p:=h
theorem Xh(h:p:=by simpa using h3):p:=h
theorem K6(h:p:=by simpa using h1):p:=h
theorem Y57(h:p:=by simp_all;done):p:=h
theorem Lt(h:p:=by rw[hl];simp):p:=h
theorem H4(h:p:=by simpa using h):p:=h
theorem Ow(h:p:=by(simp;omega)):p:=h
theorem Wf(h:p:=by rw[hk];simp):p:=h
theorem Xg(h:p:=by rw[hh,eX]):p:=h
theorem Y63(h:p:=by(simp;done)):p:=h
theorem fx(h:p:=by simp;omega):p:=h
theorem bC(h:p:=by kernel_rfl):p:=h
theorem tr(h:p:=by assumption):p:=h
theorem Wd(h:p:=by simp[rv]):p:=h
theorem Xf(h:p:=by simp[Pe]):p:=h
theorem Y69(h:p:=by simp;done):p:=h
theorem wF(h:p:=by simp[hx]):p:=h
theorem aP(h:p:=by exact rfl):p:=h
theorem Dj(h:p:=by simp[h1]):p:=h
theorem Z0(a:q)(h:ZH q->p:=by intro zq;refine KO.nil ?_;(repeat(first|(with_reducible refine K.seq ?_)|(with_reducible refine KQ.next ?_)));exact zq.1):p:=h ⟨a⟩
theorem Z1(a:q)(h:ZH q->p:=by intro zq;refine KO.mv rfl rfl ?_;exact zq.1):p:=h ⟨a⟩
theorem Z2(a:q)(h:ZH q->p:=by intro zq;refine KO.nil ?_;(repeat((with_reducible refine KQ.next ?_)));exact zq.1):p:=h ⟨a⟩
theorem Z3(a:q)(h:ZH q->p:=by intro zq;(repeat((with_reducible refine K.seq ?_)));refine K.K9 ?_;exact zq.1):p:=h ⟨a⟩
theorem Z4(a:q)(h:ZH q->p:=by intro zq;refine KO.nil ?_;(repeat(first|(with_reducible refine KQ.next ?_)|(with_reducible refine KQ.mR ?_)|(with_reducible refine K.ret ?_)));exact zq.1):p:=h ⟨a⟩
theorem Z5(a:q)(h:ZH q->p:=by intro zq;refine KO.nil ?_;(repeat(first|(with_reducible refine KQ.next ?_)|(with_reducible refine K.ret ?_)));exact zq.1):p:=h ⟨a⟩
theorem Z6(a:q)(h:ZH q->p:=by intro zq;(repeat(first|(with_reducible refine K.seq ?_)|(with_reducible refine KQ.next ?_)|(with_reducible refine K.skip ?_)));exact zq.1):p:=h ⟨a⟩
theorem Z7(a:q)(h:ZH q->p:=by intro zq;refine KO.as rfl rfl ?_;exact zq.1):p:=h ⟨a⟩
theorem Z8(a:q)(h:ZH q->p:=by intro zq;refine K.K9 ?_;refine Z1 ?_;exact zq.1):p:=h ⟨a⟩
theorem Z9(a:q)(h:ZH q->p:=by intro zq;(repeat(first|(with_reducible refine K.seq ?_)|(with_reducible refine KQ.next ?_)|(with_reducible refine KQ.iO ?_)|(with_reducible refine KQ.kp ?_)|(with_reducible refine K.exit ?_)));exact zq.1):p:=h ⟨a⟩
theorem K5(a:q)(h:ZH q->p:=by intro zq;(repeat(first|(with_reducible refine K.seq ?_)|(with_reducible refine KQ.next ?_)|(with_reducible refine K.skip ?_)|(with_reducible refine K.block ?_)));exact zq.1):p:=h ⟨a⟩
theorem Z11(a:q)(h:ZH q->p:=by intro zq;refine KO.nil ?_;(repeat(first|(with_reducible refine KQ.next ?_)|(with_reducible refine KQ.mR ?_)|(with_reducible refine KQ.w_ ?_)|(with_reducible refine K.ret ?_)));exact zq.1):p:=h ⟨a⟩
theorem Dh(a:q)(h:ZH q->p:=by intro zq;refine KO.no rfl rfl rfl rfl ?_;refine KO.no rfl rfl rfl rfl ?_;exact zq.1):p:=h ⟨a⟩
theorem Ti(a:q)(h:ZH q->p:=by intro zq;refine KO.nil ?_;(repeat(first|(with_reducible refine KQ.next ?_)|(with_reducible refine KQ.gQ ?_)));exact zq.1):p:=h ⟨a⟩
theorem Ov(a:q)(h:ZH q->p:=by intro zq;refine Z1 ?_;refine KO.on rfl rfl rfl ?_;exact zq.1):p:=h ⟨a⟩
theorem Lr(a:q)(h:ZH q->p:=by intro zq;refine KO.nil ?_;(repeat(first|(with_reducible refine KQ.next ?_)|(with_reducible refine K.block ?_)));exact zq.1):p:=h ⟨a⟩
theorem Z16(a:q)(h:ZH q->p:=by intro zq;refine KO.Nw rfl aP rfl ?_;refine KO.Nw rfl aP rfl ?_;exact zq.1):p:=h ⟨a⟩
theorem s7(a:q)(h:ZH q->p:=by intro zq;refine KO.ld rfl rfl isAgg3 bQ aP rfl ?_;exact zq.1):p:=h ⟨a⟩
theorem Tg(a:q)(h:ZH q->p:=by intro zq;refine KO.no rfl rfl Y6 rfl ?_;refine KO.no rfl rfl Y6 rfl ?_;exact zq.1):p:=h ⟨a⟩
theorem RY(a:q)(h:ZH q->p:=by intro zq;refine KO.nc rfl rfl ?_;refine KO.fw (off:=0) rfl runUnderlying164 rfl rfl sizeOf160 rfl ?_;exact zq.1):p:=h ⟨a⟩
theorem kF(a:q)(h:ZH q->p:=by intro zq;refine KO.on rfl rfl Y6 ?_;exact zq.1):p:=h ⟨a⟩
theorem kE(a:q)(h:ZH q->p:=by intro zq;refine Z7 ?_;refine Z0 ?_;exact zq.1):p:=h ⟨a⟩
theorem RR(a:q)(h:ZH q->p:=by intro zq;(repeat(first|(with_reducible refine KQ.next ?_)|(with_reducible refine KQ.gQ ?_)|(with_reducible refine K.skip ?_)));exact zq.1):p:=h ⟨a⟩
theorem xc(a:q)(h:ZH q->p:=by intro zq;refine KO.add rfl rfl rfl ae rfl ?_;exact zq.1):p:=h ⟨a⟩
theorem ZG(a:q)(h:ZH q->p:=by intro zq;refine KO.nc rfl rfl ?_;refine KO.fw (off:=1) rfl runUnderlying164 rfl rfl sizeOf161 rfl ?_;exact zq.1):p:=h ⟨a⟩
theorem O7(a:q)(h:ZH q->p:=by intro zq;refine KO.fw (off:=0) rfl runUnderlying44 rfl rfl sizeOf3 rfl ?_;exact zq.1):p:=h ⟨a⟩
theorem lq(a:q)(h:ZH q->p:=by intro zq;refine Z1 ?_;refine KO.nc rfl rfl ?_;exact zq.1):p:=h ⟨a⟩
theorem qv(a:q)(h:ZH q->p:=by intro zq;refine KO.mc rfl rfl rfl rfl ?_;exact zq.1):p:=h ⟨a⟩
theorem lL(a:q)(h:ZH q->p:=by intro zq;refine kE ?_;refine Z8 ?_;exact zq.1):p:=h ⟨a⟩
theorem VL(a:q)(h:ZH q->p:=by intro zq;refine KO.fw (off:=7) rfl runUnderlying133 rfl rfl sizeOf123 rfl ?_;refine KO.db (i:=7) rfl rfl isAgg123 bQ rfl rfl rfl ?_;exact zq.1):p:=h ⟨a⟩
theorem Z30(a:q)(h:ZH q->p:=by intro zq;refine KO.mki rfl bC rfl ?_;refine Z7 ?_;exact zq.1):p:=h ⟨a⟩
theorem wk(a:q)(h:ZH q->p:=by intro zq;refine KO.lss rfl rfl rfl ?_;exact zq.1):p:=h ⟨a⟩
theorem CL(a:q)(h:ZH q->p:=by intro zq;refine Z1 ?_;refine kF ?_;exact zq.1):p:=h ⟨a⟩
theorem iW(a:q)(h:ZH q->p:=by intro zq;refine Z7 ?_;refine Z5 ?_;exact zq.1):p:=h ⟨a⟩
theorem lK(a:q)(h:ZH q->p:=by intro zq;refine Z1 ?_;refine Z1 ?_;exact zq.1):p:=h ⟨a⟩
theorem N9(a:q)(h:ZH q->p:=by intro zq;refine KR.K9 bC (fun a w h=>by exact qO a w h) ?_;exact zq.1):p:=h ⟨a⟩
theorem Vy(a:q)(h:ZH q->p:=by intro zq;refine KO.fw (off:=0) rfl runUnderlying122 rfl rfl sizeOf120 rfl ?_;exact zq.1):p:=h ⟨a⟩
theorem Xe(a:q)(h:ZH q->p:=by intro zq;refine KO.nil ?_;(repeat(first|(with_reducible refine KR.seq ?_)|(with_reducible refine KQ.sx ?_)));exact zq.1):p:=h ⟨a⟩
theorem zL(a:q)(h:ZH q->p:=by intro zq;refine KO.ld rfl rfl isAgg3 bn aP rfl ?_;exact zq.1):p:=h ⟨a⟩
theorem N8(a:q)(h:ZH q->p:=by intro zq;refine KO.nil ?_;(repeat(first|(with_reducible refine K.seq ?_)|(with_reducible refine KQ.next ?_)|(with_reducible refine K.block ?_)));exact zq.1):p:=h ⟨a⟩
theorem Z40(a:q)(h:ZH q->p:=by intro zq;refine KO.nc rfl rfl ?_;refine KO.fw (off:=3) rfl runUnderlying133 rfl rfl sizeOf4 rfl ?_;exact zq.1):p:=h ⟨a⟩
theorem Z41(a:q)(h:ZH q->p:=by intro zq;refine KO.fw (off:=22) rfl runUnderlying133 rfl rfl sizeOf94 rfl ?_;refine KO.jP (i:=j) rfl rfl runUnderlying94 sizeOf23 rfl ae rfl ?_;exact zq.1):p:=h ⟨a⟩
theorem Tf(a:q)(h:ZH q->p:=by intro zq;refine Dh ?_;refine KO.no rfl rfl rfl rfl ?_;exact zq.1):p:=h ⟨a⟩
theorem qY(a:q)(h:ZH q->p:=by intro zq;refine KO.sq rfl Y6 rfl rfl ?_;exact zq.1):p:=h ⟨a⟩
theorem Ad(a:q)(h:ZH q->p:=by intro zq;refine KO.nil ?_;(repeat((with_reducible refine KQ.gQ ?_)));exact zq.1):p:=h ⟨a⟩
theorem wj(a:q)(h:ZH q->p:=by intro zq;refine KO.sq rfl rfl rfl rfl ?_;exact zq.1):p:=h ⟨a⟩
theorem Zw(a:q)(h:ZH q->p:=by intro zq;refine KO.wh (pl:=[(0,1),(1,1),(2,1),(3,1),(4,1)]) rfl zeroValue44 runUnderlying44 Y20 aP rfl ?_;exact zq.1):p:=h ⟨a⟩
theorem Fh(a:q)(h:ZH q->p:=by intro zq;refine Z1 ?_;refine Z16 ?_;exact zq.1):p:=h ⟨a⟩
theorem wi(a:q)(h:ZH q->p:=by intro zq;refine KO.mc rfl Y6 rfl rfl ?_;exact zq.1):p:=h ⟨a⟩
theorem kr(a:q)(h:ZH q->p:=by intro zq;refine KO.nc rfl rfl ?_;exact zq.1):p:=h ⟨a⟩
theorem Xd(a:q)(h:ZH q->p:=by intro zq;refine RY ?_;refine KO.db (i:=0) rfl rfl isAgg160 bn rfl rfl rfl ?_;exact zq.1):p:=h ⟨a⟩
theorem N7(a:q)(h:ZH q->p:=by intro zq;refine KO.fw (off:=0) rfl runUnderlying256 rfl rfl sizeOf3 rfl ?_;exact zq.1):p:=h ⟨a⟩
theorem Vx(a:q)(h:ZH q->p:=by intro zq;refine KO.fw (off:=1) rfl runUnderlying44 rfl rfl sizeOf3 rfl ?_;exact zq.1):p:=h ⟨a⟩
theorem oW(a:q)(h:ZH q->p:=by intro zq;(repeat((with_reducible refine K.seq ?_)));exact zq.1):p:=h ⟨a⟩
theorem Vw(a:q)(h:ZH q->p:=by intro zq;refine KO.fw (off:=12) rfl runUnderlying133 rfl rfl sizeOf131 rfl ?_;refine KO.jP (i:=u.toNat) rfl rfl runUnderlying131 sizeOf130 J9 ae rfl ?_;exact zq.1):p:=h ⟨a⟩
theorem Ac(a:q)(h:ZH q->p:=by intro zq;refine Z2 ?_;refine K.cL rfl rfl ?_;exact zq.1):p:=h ⟨a⟩
theorem Xc(a:q)(h:ZH q->p:=by intro zq;refine K.K9 ?_;refine KO.fw (off:=6) rfl runUnderlying243 rfl rfl sizeOf3 rfl ?_;exact zq.1):p:=h ⟨a⟩
theorem qu(a:q)(h:ZH q->p:=by intro zq;refine KO.on rfl rfl rfl ?_;exact zq.1):p:=h ⟨a⟩
theorem Xb(a:q)(h:ZH q->p:=by intro zq;refine KO.eF (i:=1) rfl rfl runUnderlying115 sizeOf9 rfl aj rfl ?_;refine KO.ia (i:=1) (sz:=1) (cf:=j7) (e:=wb) rfl rfl isAgg9 bQ (fun _=>rfl) rfl aP aP rfl ?_;exact zq.1):p:=h ⟨a⟩
theorem qX(a:q)(h:ZH q->p:=by intro zq;refine Z7 ?_;refine Z4 ?_;exact zq.1):p:=h ⟨a⟩
theorem Z60(a:q)(h:ZH q->p:=by intro zq;refine KO.fw (off:=30) rfl runUnderlying133 rfl rfl sizeOf95 rfl ?_;refine KO.jP (i:=j) rfl rfl runUnderlying95 sizeOf3 rfl ae rfl ?_;exact zq.1):p:=h ⟨a⟩
theorem Xa(a:q)(h:ZH q->p:=by intro zq;refine Z1 ?_;refine KO.nil ?_;exact zq.1):p:=h ⟨a⟩
theorem Vv(a:q)(h:ZH q->p:=by intro zq;(repeat(first|(with_reducible refine K.seq ?_)|(with_reducible refine KQ.next ?_)|(with_reducible refine KQ.gQ ?_)|(with_reducible refine K.skip ?_)));exact zq.1):p:=h ⟨a⟩
theorem Hj(a:q)(h:ZH q->p:=by intro zq;refine Z2 ?_;refine K.da rfl rfl ?_;exact zq.1):p:=h ⟨a⟩
theorem N6(a:q)(h:ZH q->p:=by intro zq;refine Fh ?_;refine Z7 ?_;exact zq.1):p:=h ⟨a⟩
theorem KU(a:q)(h:ZH q->p:=by intro zq;refine Ov ?_;refine Ov ?_;exact zq.1):p:=h ⟨a⟩
theorem Jc(a:q)(h:ZH q->p:=by intro zq;refine KO.oL rfl rfl rfl aP Jd aP bQ aP ?_;exact zq.1):p:=h ⟨a⟩
theorem Jb(a:q)(h:ZH q->p:=by intro zq;refine KO.eqI rfl rfl rfl ?_;exact zq.1):p:=h ⟨a⟩
theorem RC(a:q)(h:ZH q->p:=by intro zq;refine KO.wh (pl:=[(0,1),(1,1),(2,1),(3,1)]) rfl zeroValue256 runUnderlying256 Y14 aP rfl ?_;exact zq.1):p:=h ⟨a⟩
theorem oV(a:q)(h:ZH q->p:=by intro zq;refine KO.not rfl rfl ?_;exact zq.1):p:=h ⟨a⟩
theorem Zv(a:q)(h:ZH q->p:=by intro zq;refine KO.eF (i:=0) rfl rfl runUnderlying23 sizeOf3 rfl aj rfl ?_;refine KO.ia (i:=0) (sz:=1) (cf:=jO) (e:=(j:Int)) rfl rfl isAgg3 bn (fun _=>rfl) rfl aP aP rfl ?_;exact zq.1):p:=h ⟨a⟩
theorem iX(a:q)(h:ZH q->p:=by intro zq;refine Z8 ?_;refine Z1 ?_;exact zq.1):p:=h ⟨a⟩
theorem W_(a:q)(h:ZH q->p:=by intro zq;refine KO.fw (off:=3) rfl runUnderlying62 rfl rfl sizeOf58 rfl ?_;refine KO.jP (i:=k) rfl rfl runUnderlying58 sizeOf57 rfl ae rfl ?_;exact zq.1):p:=h ⟨a⟩
theorem N5(a:q)(h:ZH q->p:=by intro zq;refine KO.fw (off:=3) rfl runUnderlying44 rfl rfl sizeOf9 rfl ?_;exact zq.1):p:=h ⟨a⟩
theorem Lq(a:q)(h:ZH q->p:=by intro zq;refine Z3 ?_;refine Z30 ?_;exact zq.1):p:=h ⟨a⟩
theorem O6(a:q)(h:ZH q->p:=by intro zq;refine K.K9 ?_;refine xc ?_;refine Xa ?_;exact zq.1):p:=h ⟨a⟩
theorem vD(a:q)(h:ZH q->p:=by intro zq;refine KO.geq rfl rfl rfl ?_;exact zq.1):p:=h ⟨a⟩
theorem Z78(a:q)(h:ZH q->p:=by intro zq;(repeat(first|(with_reducible refine KQ.sx ?_)|(with_reducible refine KQ.mR ?_)|(with_reducible refine KQ.w_ ?_)|(with_reducible refine KR.ret ?_)));refine KQ.conv (fun w hw=>hw.all (M:=L6 b4 b3 b2 v (cI 70 3) xs++N) Y5) ?_;exact zq.1):p:=h ⟨a⟩
theorem Z79(a:q)(h:ZH q->p:=by intro zq;refine KO.fw (off:=1) rfl runUnderlying256 rfl rfl sizeOf3 rfl ?_;exact zq.1):p:=h ⟨a⟩
theorem N4(a:q)(h:ZH q->p:=by intro zq;refine KO.fw (off:=4) rfl runUnderlying44 rfl rfl sizeOf3 rfl ?_;exact zq.1):p:=h ⟨a⟩
theorem qE(a:q)(h:ZH q->p:=by intro zq;refine Z7 ?_;refine Z2 ?_;exact zq.1):p:=h ⟨a⟩
theorem Te(a:q)(h:ZH q->p:=by intro zq;refine KO.fw (off:=2) rfl runUnderlying164 rfl rfl sizeOf162 rfl ?_;exact zq.1):p:=h ⟨a⟩
theorem W9(a:q)(h:ZH q->p:=by intro zq;refine KO.fw (off:=43) rfl runUnderlying62 rfl rfl sizeOf60 rfl ?_;refine KO.db (i:=43) rfl rfl isAgg60 bn rfl UN rfl ?_;exact zq.1):p:=h ⟨a⟩
theorem Ja(a:q)(h:ZH q->p:=by intro zq;refine KO.db (i:=1) rfl rfl isAgg161 bn rfl rfl rfl ?_;exact zq.1):p:=h ⟨a⟩
theorem W8(a:q)(h:ZH q->p:=by intro zq;refine KO.fw (off:=2) rfl runUnderlying133 rfl rfl sizeOf3 rfl ?_;refine KO.db (i:=2) rfl rfl isAgg3 bQ rfl rfl rfl ?_;exact zq.1):p:=h ⟨a⟩
theorem Zu(a:q)(h:ZH q->p:=by intro zq;refine KO.fw (off:=23) rfl runUnderlying62 rfl rfl sizeOf59 rfl ?_;refine KO.jP (i:=k) rfl rfl runUnderlying59 sizeOf36 rfl ae rfl ?_;exact zq.1):p:=h ⟨a⟩
theorem Td(a:q)(h:ZH q->p:=by intro zq;refine KO.eF rfl rfl runUnderlying120 sizeOf243 aP ae rfl ?_;exact zq.1):p:=h ⟨a⟩
theorem Z90(a:q)(h:ZH q->p:=by intro zq;refine KO.oL rfl rfl rfl aP Y43 aP bn aP ?_;refine KO.oL rfl rfl rfl aP Y44 aP bn aP ?_;exact zq.1):p:=h ⟨a⟩
theorem N3(a:q)(h:ZH q->p:=by intro zq;refine KO.len rfl underlying115 rfl ?_;refine KO.neI rfl rfl rfl ?_;exact zq.1):p:=h ⟨a⟩
theorem Z92(a:q)(h:ZH q->p:=by intro zq;(repeat(first|(with_reducible refine KQ.next ?_)|(with_reducible refine KQ.iO ?_)|(with_reducible refine KQ.kp ?_)|(with_reducible refine KQ.gQ ?_)|(with_reducible refine K.exit ?_)));exact zq.1):p:=h ⟨a⟩
theorem Z93(a:q)(h:ZH q->p:=by intro zq;refine Z40 ?_;refine KO.db (i:=3) rfl rfl isAgg4 bQ rfl rfl rfl ?_;exact zq.1):p:=h ⟨a⟩
theorem Z94(a:q)(h:ZH q->p:=by intro zq;refine KO.eF (i:=j) rfl rfl runUnderlying161 sizeOf25 rfl lO rfl ?_;refine KO.ia (i:=j) (sz:=1) (cf:=o8) (e:=p.2) rfl rfl isAgg25 bn (fun _=>rfl) kB aj aP rfl ?_;exact zq.1):p:=h ⟨a⟩
theorem W7(a:q)(h:ZH q->p:=by intro zq;refine KO.fw (off:=2) rfl runUnderlying62 rfl rfl sizeOf56 rfl ?_;refine KO.ld rfl rfl isAgg56 bn aP rfl ?_;exact zq.1):p:=h ⟨a⟩
theorem xa(a:q)(h:ZH q->p:=by intro zq;refine Z1 ?_;refine Dh ?_;exact zq.1):p:=h ⟨a⟩
theorem I_(a:q)(h:ZH q->p:=by intro zq;refine KO.abB rfl bC rfl ?_;exact zq.1):p:=h ⟨a⟩
theorem RB(a:q)(h:ZH q->p:=by intro zq;refine KO.fw (off:=6) rfl runUnderlying133 rfl rfl sizeOf125 rfl ?_;exact zq.1):p:=h ⟨a⟩
theorem pS(a:q)(h:ZH q->p:=by intro zq;refine kF ?_;refine s7 ?_;refine kF ?_;exact zq.1):p:=h ⟨a⟩
theorem zy(a:q)(h:ZH q->p:=by intro zq;refine KO.len rfl underlying49 rfl ?_;exact zq.1):p:=h ⟨a⟩
theorem FD(a:q)(h:ZH q->p:=by intro zq;(repeat(first|(with_reducible refine KQ.next ?_)|(with_reducible refine K.skip ?_)));exact zq.1):p:=h ⟨a⟩
theorem HZ(a:q)(h:ZH q->p:=by intro zq;refine Tg ?_;refine KO.no rfl rfl Y6 rfl ?_;exact zq.1):p:=h ⟨a⟩
theorem Wc(a:q)(h:ZH q->p:=by intro zq;refine KO.fw (off:=1) rfl runUnderlying62 rfl rfl sizeOf3 rfl ?_;exact zq.1):p:=h ⟨a⟩
theorem C4(a:q)(h:ZH q->p:=by intro zq;refine K.K9 ?_;refine iW ?_;exact zq.1):p:=h ⟨a⟩
theorem jR(a:q)(h:ZH q->p:=by intro zq;refine N6 ?_;refine lL ?_;exact zq.1):p:=h ⟨a⟩
theorem R9(a:q)(h:ZH q->p:=by intro zq;refine KO.fw (off:=8) rfl runUnderlying133 rfl rfl sizeOf126 rfl ?_;refine KO.jP (i:=j) rfl rfl runUnderlying126 sizeOf119 rfl ae rfl ?_;exact zq.1):p:=h ⟨a⟩
theorem R8(a:q)(h:ZH q->p:=by intro zq;(repeat(first|(with_reducible refine KQ.next ?_)|(with_reducible refine KQ.iO ?_)|(with_reducible refine KQ.kp ?_)|(with_reducible refine K.exit ?_)));exact zq.1):p:=h ⟨a⟩
theorem R7(a:q)(h:ZH q->p:=by intro zq;refine KO.fw (off:=26) rfl runUnderlying133 rfl rfl sizeOf95 rfl ?_;refine KO.jP (i:=j) rfl rfl runUnderlying95 sizeOf3 rfl ae rfl ?_;exact zq.1):p:=h ⟨a⟩
theorem hF(a:q)(h:ZH q->p:=by intro zq;refine Z3 ?_;refine wk ?_;refine Z0 ?_;exact zq.1):p:=h ⟨a⟩
theorem FC(a:q)(h:ZH q->p:=by intro zq;refine KO.fw (off:=3) rfl runUnderlying256 rfl rfl sizeOf49 rfl ?_;exact zq.1):p:=h ⟨a⟩
theorem Al(a:q)(h:ZH q->p:=by intro zq;refine KO.vT rfl rfl isAgg44 sizeOf44 bn aP rfl ?_;exact zq.1):p:=h ⟨a⟩
theorem FB(a:q)(h:ZH q->p:=by intro zq;refine KO.fw (off:=7) rfl runUnderlying243 rfl rfl sizeOf3 rfl ?_;exact zq.1):p:=h ⟨a⟩
theorem FA(a:q)(h:ZH q->p:=by intro zq;refine KO.fw (off:=0) rfl runUnderlying133 rfl rfl sizeOf3 rfl ?_;exact zq.1):p:=h ⟨a⟩
theorem Wb(a:q)(h:ZH q->p:=by intro zq;refine K.draw [.pure,.read,.pure,.pure,.pure,.pure,.pure,.read,.pure,.read,.read,.pure,.pure] [0,1,2,3,4,5,6,7,8,9,10,11,12] bC bC ?_;refine KO.fw (off:=1) rfl runUnderlying75 rfl rfl sizeOf9 rfl ?_;exact zq.1):p:=h ⟨a⟩
theorem jB(a:q)(h:ZH q->p:=by intro zq;refine Z3 ?_;refine Z1 ?_;exact zq.1):p:=h ⟨a⟩
theorem s_(a:q)(h:ZH q->p:=by intro zq;refine KO.ld rfl rfl isAgg9 bn aP rfl ?_;exact zq.1):p:=h ⟨a⟩
theorem mK(a:q)(h:ZH q->p:=by intro zq;refine Z1 ?_;refine Lr ?_;exact zq.1):p:=h ⟨a⟩
theorem kX(a:q)(h:ZH q->p:=by intro zq;refine Z8 ?_;refine kr ?_;exact zq.1):p:=h ⟨a⟩
theorem pR(a:q)(h:ZH q->p:=by intro zq;refine KO.cat rfl rfl ae rfl ?_;exact zq.1):p:=h ⟨a⟩
theorem HY(a:q)(h:ZH q->p:=by intro zq;refine K.conv (fun w hw=>dm (hd:=hd) ⟨hv,dv,wv,ps⟩ QY hw e8 e9) ?_;exact zq.1):p:=h ⟨a⟩
theorem C3(a:q)(h:ZH q->p:=by intro zq;refine Vy ?_;refine KO.ld rfl rfl isAgg120 bn aP rfl ?_;exact zq.1):p:=h ⟨a⟩
theorem CZ(a:q)(h:ZH q->p:=by intro zq;refine KO.vT rfl rfl isAgg44 sizeOf44 bQ aP rfl ?_;exact zq.1):p:=h ⟨a⟩
theorem oZ(a:q)(h:ZH q->p:=by intro zq;refine lK ?_;refine Z1 ?_;exact zq.1):p:=h ⟨a⟩
theorem R6(a:q)(h:ZH q->p:=by intro zq;refine KO.neN rfl bC rfl ?_;refine Z2 ?_;exact zq.1):p:=h ⟨a⟩
theorem s9(a:q)(h:ZH q->p:=by intro zq;refine CL ?_;refine CL ?_;exact zq.1):p:=h ⟨a⟩
theorem rV(a:q)(h:ZH q->p:=by intro zq;refine KO.len rfl underlying23 rfl ?_;exact zq.1):p:=h ⟨a⟩
theorem Wa(a:q)(h:ZH q->p:=by intro zq;refine KO.eF (i:=0) rfl rfl runUnderlying115 sizeOf9 rfl aj rfl ?_;refine KO.ia (i:=0) (sz:=1) (cf:=j7) (e:=wa) rfl rfl isAgg9 bQ (fun _=>rfl) rfl aP aP rfl ?_;exact zq.1):p:=h ⟨a⟩
theorem V_(a:q)(h:ZH q->p:=by intro zq;refine KO.eF (i:=2) rfl rfl runUnderlying115 sizeOf9 rfl aj rfl ?_;refine KO.ia (i:=2) (sz:=1) (cf:=j7) (e:=wc) rfl rfl isAgg9 bQ (fun _=>rfl) rfl aP aP rfl ?_;exact zq.1):p:=h ⟨a⟩
theorem rU(a:q)(h:ZH q->p:=by intro zq;refine Z1 ?_;refine Tf ?_;exact zq.1):p:=h ⟨a⟩
theorem s8(a:q)(h:ZH q->p:=by intro zq;refine Ti ?_;refine O6 ?_;exact zq.1):p:=h ⟨a⟩
theorem wE(a:q)(h:ZH q->p:=by intro zq;refine KO.ld rfl rfl isAgg9 bQ aP rfl ?_;exact zq.1):p:=h ⟨a⟩
theorem R5(a:q)(h:ZH q->p:=by intro zq;(repeat(first|(with_reducible refine KQ.iO ?_)|(with_reducible refine KQ.kp ?_)|(with_reducible refine K.exit ?_)));exact zq.1):p:=h ⟨a⟩
theorem lZ(a:q)(h:ZH q->p:=by intro zq;refine kE ?_;refine K.K9 ?_;exact zq.1):p:=h ⟨a⟩
theorem Fz(a:q)(h:ZH q->p:=by intro zq;refine KO.no rfl rfl tr rfl ?_;refine KO.no rfl rfl tr rfl ?_;exact zq.1):p:=h ⟨a⟩
theorem V9(a:q)(h:ZH q->p:=by intro zq;refine KR.cL rfl rfl ?_;(repeat(first|(with_reducible refine KR.seq ?_)|(with_reducible refine KQ.sx ?_)|(with_reducible refine KR.skip ?_)|(with_reducible refine KR.block ?_)));exact zq.1):p:=h ⟨a⟩
theorem ZX(a:q)(h:ZH q->p:=by intro zq;refine K.conv (L':=oz bw ⟨hv,dv,wv,ps⟩ S.W (lP bt bw Sj::bI b3 (.cells (nB ⟨xw,xk,xn,xm,xu⟩).toArray 38 (0,0))::L)) (fun w hw=>(fG (bt:=bt) (bw:=bw) (S:=Sj) (L:=oz bw ⟨hv,dv,wv,ps⟩ S.W (bI b3 (.cells (nB ⟨xw,xk,xn,xm,xu⟩).toArray 38 (0,0))::L)) ⟨us',vs',os',mT',mO'⟩ O0 (hw.all nI)).all Y7) ?_;exact zq.1):p:=h ⟨a⟩
theorem wD(a:q)(h:ZH q->p:=by intro zq;refine Z8 ?_;refine wk ?_;exact zq.1):p:=h ⟨a⟩
theorem K4(a:q)(h:ZH q->p:=by intro zq;refine Z41 ?_;refine KO.db (i:=22+j) rfl rfl isAgg23 bn zz c1 rfl ?_;exact zq.1):p:=h ⟨a⟩
theorem Fy(a:q)(h:ZH q->p:=by intro zq;refine KO.nil ?_;(repeat((with_reducible refine KQ.sx ?_)));exact zq.1):p:=h ⟨a⟩
theorem K3(a:q)(h:ZH q->p:=by intro zq;refine pS ?_;refine KO.leq rfl rfl rfl ?_;exact zq.1):p:=h ⟨a⟩
theorem uR(a:q)(h:ZH q->p:=by intro zq;refine Z7 ?_;refine KO.nil ?_;exact zq.1):p:=h ⟨a⟩
theorem oY(a:q)(h:ZH q->p:=by intro zq;refine K5 ?_;refine K.K9 ?_;exact zq.1):p:=h ⟨a⟩
theorem kG(a:q)(h:ZH q->p:=by intro zq;refine Z7 ?_;refine Z11 ?_;exact zq.1):p:=h ⟨a⟩
theorem K2(a:q)(h:ZH q->p:=by intro zq;refine KO.mki rfl bC rfl ?_;refine KO.oL rfl rfl rfl aP Oy aP bn aP ?_;exact zq.1):p:=h ⟨a⟩
theorem K1(a:q)(h:ZH q->p:=by intro zq;refine KO.fw (off:=0) rfl runUnderlying243 rfl rfl sizeOf44 rfl ?_;exact zq.1):p:=h ⟨a⟩
theorem ZW(a:q)(h:ZH q->p:=by intro zq;refine K.draw [.pure,.pure,.pure,.read,.pure,.pure,.pure,.read,.pure,.pure,.pure,.pure,.pure,.pure,.pure,.pure,.pure,.pure,.pure,.read,.pure,.pure,.pure,.pure,.read,.pure,.pure,.pure] [0,1,2,3,4,5,6,7,8,9,10,11,12,13,14,15,16,17,18,19,20,21,22,23,24,25,26,27] bC bC ?_;refine Z1 ?_;exact zq.1):p:=h ⟨a⟩
theorem oX(a:q)(h:ZH q->p:=by intro zq;refine Z3 ?_;refine lL ?_;exact zq.1):p:=h ⟨a⟩
theorem zx(a:q)(h:ZH q->p:=by intro zq;refine Z1 ?_;refine Tg ?_;exact zq.1):p:=h ⟨a⟩
theorem K0(a:q)(h:ZH q->p:=by intro zq;refine KO.fw (off:=2) rfl runUnderlying44 rfl rfl sizeOf9 rfl ?_;exact zq.1):p:=h ⟨a⟩
theorem Ou(a:q)(h:ZH q->p:=by intro zq;(repeat(first|(with_reducible refine KQ.gQ ?_)|(with_reducible refine K.skip ?_)));exact zq.1):p:=h ⟨a⟩
theorem Ot(a:q)(h:ZH q->p:=by intro zq;refine KO.no2 rfl rfl rfl ?_;refine KO.no2 rfl rfl rfl ?_;exact zq.1):p:=h ⟨a⟩
theorem V8(a:q)(h:ZH q->p:=by intro zq;refine KO.fw (off:=300) rfl runUnderlying28 rfl rfl sizeOf4 rfl ?_;refine KO.db (i:=300) rfl rfl isAgg4 .head rfl (by rw[Rn h3,hcut]) rfl ?_;exact zq.1):p:=h ⟨a⟩
theorem Fx(a:q)(h:ZH q->p:=by intro zq;(repeat((with_reducible refine KR.seq ?_)));refine N9 ?_;exact zq.1):p:=h ⟨a⟩
theorem zw(a:q)(h:ZH q->p:=by intro zq;refine KO.len rfl underlying120 rfl ?_;exact zq.1):p:=h ⟨a⟩
theorem ZV(a:q)(h:ZH q->p:=by intro zq;refine K.draw [.read,.pure,.pure,.pure,.read,.c7,.pure,.pure,.pure,.pure,.pure,.pure,.pure,.c7,.pure,.pure,.read,.read,.pure,.pure,.pure] [0,1,2,3,4,5,6,7,8,9,10,11,12,14,15,16,17,13,18,19,20] bC bC ?_;refine KO.ld (v:=bp bh) rfl rfl isAgg29 bn aP rfl ?_;exact zq.1):p:=h ⟨a⟩
theorem Oq(a:q)(h:ZH q->p:=by intro zq;refine KO.jP (i:=u) rfl rfl runUnderlying57 sizeOf49 rfl ae rfl ?_;exact zq.1):p:=h ⟨a⟩
theorem Oo(a:q)(h:ZH q->p:=by intro zq;refine KO.jP (i:=u) rfl rfl runUnderlying36 sizeOf23 rfl ae rfl ?_;exact zq.1):p:=h ⟨a⟩
theorem rT(a:q)(h:ZH q->p:=by intro zq;refine Hj ?_;refine Z6 ?_;exact zq.1):p:=h ⟨a⟩
theorem V7(a:q)(h:ZH q->p:=by intro zq;refine KO.eF rfl rfl runUnderlying49 sizeOf44 aP ae rfl ?_;refine KO.vS rfl rfl isAgg44 sizeOf44 bn (fun _=>rfl) tr rfl ?_;exact zq.1):p:=h ⟨a⟩
theorem V6(a:q)(h:ZH q->p:=by intro zq;refine KO.fw (off:=0) rfl runUnderlying28 rfl rfl sizeOf26 rfl ?_;refine KO.jP rfl rfl runUnderlying26 sizeOf9 rfl ae rfl ?_;exact zq.1):p:=h ⟨a⟩
theorem R4(a:q)(h:ZH q->p:=by intro zq;refine KO.db (i:=0) rfl rfl isAgg160 bQ rfl rfl rfl ?_;refine KO.len rfl underlying160 rfl ?_;exact zq.1):p:=h ⟨a⟩
theorem lY(a:q)(h:ZH q->p:=by intro zq;refine Z7 ?_;refine Z7 ?_;exact zq.1):p:=h ⟨a⟩
theorem R0(a:q)(h:ZH q->p:=by intro zq;refine KO.wh (pl:=[(0,1),(1,1),(2,1)]) rfl zeroValue75 runUnderlying75 Y20 aP rfl ?_;exact zq.1):p:=h ⟨a⟩
theorem uQ(a:q)(h:ZH q->p:=by intro zq;refine wj ?_;refine Ac ?_;exact zq.1):p:=h ⟨a⟩
theorem ou(a:q)(h:ZH q->p:=by intro zq;refine Lq ?_;refine qX ?_;exact zq.1):p:=h ⟨a⟩
theorem uP(a:q)(h:ZH q->p:=by intro zq;refine KO.gtr rfl rfl rfl ?_;exact zq.1):p:=h ⟨a⟩
theorem nD(a:q)(h:ZH q->p:=by intro zq;refine Z8 ?_;refine lq ?_;exact zq.1):p:=h ⟨a⟩
theorem s6(a:q)(h:ZH q->p:=by intro zq;refine KO.on rfl rfl tr ?_;exact zq.1):p:=h ⟨a⟩
theorem On(a:q)(h:ZH q->p:=by intro zq;refine KO.fw (off:=301) rfl runUnderlying28 rfl rfl sizeOf3 rfl ?_;exact zq.1):p:=h ⟨a⟩
theorem Om(a:q)(h:ZH q->p:=by intro zq;refine KO.fw (off:=5) rfl runUnderlying133 rfl rfl sizeOf3 rfl ?_;exact zq.1):p:=h ⟨a⟩
theorem Ol(a:q)(h:ZH q->p:=by intro zq;refine KO.fw (off:=2) rfl runUnderlying256 rfl rfl sizeOf4 rfl ?_;exact zq.1):p:=h ⟨a⟩
theorem Oj(a:q)(h:ZH q->p:=by intro zq;refine KO.fo (off:=7) rfl runUnderlying243 rfl rfl sizeOf3 rfl ?_;exact zq.1):p:=h ⟨a⟩
theorem Oi(a:q)(h:ZH q->p:=by intro zq;refine KO.fw (off:=0) rfl runUnderlying75 rfl rfl sizeOf9 rfl ?_;exact zq.1):p:=h ⟨a⟩
theorem pQ(a:q)(h:ZH q->p:=by intro zq;refine N6 ?_;refine kE ?_;exact zq.1):p:=h ⟨a⟩
theorem CY(a:q)(h:ZH q->p:=by intro zq;refine xa ?_;refine Dh ?_;exact zq.1):p:=h ⟨a⟩
theorem Ak(a:q)(h:ZH q->p:=by intro zq;refine qv ?_;refine KU ?_;exact zq.1):p:=h ⟨a⟩
theorem Aj(a:q)(h:ZH q->p:=by intro zq;refine vD ?_;refine wi ?_;exact zq.1):p:=h ⟨a⟩
theorem Fw(a:q)(h:ZH q->p:=by intro zq;refine KO.ld rfl rfl isAgg49 bQ aP rfl ?_;exact zq.1):p:=h ⟨a⟩
theorem pP(a:q)(h:ZH q->p:=by intro zq;refine Z0 ?_;refine C4 ?_;exact zq.1):p:=h ⟨a⟩
theorem CX(a:q)(h:ZH q->p:=by intro zq;refine KO.len rfl underlying162 rfl ?_;exact zq.1):p:=h ⟨a⟩
theorem Oh(a:q)(h:ZH q->p:=by intro zq;refine Z8 ?_;refine oV ?_;exact zq.1):p:=h ⟨a⟩
theorem HX(a:q)(h:ZH q->p:=by intro zq;refine wD ?_;refine s9 ?_;exact zq.1):p:=h ⟨a⟩
theorem rS(a:q)(h:ZH q->p:=by intro zq;refine KO.Nw rfl aP rfl ?_;exact zq.1):p:=h ⟨a⟩
theorem RZ(a:q)(h:ZH q->p:=by intro zq;refine KO.fw (off:=2) rfl runUnderlying38 rfl rfl sizeOf3 rfl ?_;refine zL ?_;exact zq.1):p:=h ⟨a⟩
theorem CW(a:q)(h:ZH q->p:=by intro zq;(repeat((with_reducible refine K.skip ?_)));exact zq.1):p:=h ⟨a⟩
theorem RW(a:q)(h:ZH q->p:=by intro zq;refine K.conv (fun w hw=>dj Bc uh (hw.pick (A:=bZ dL V.bs H.batch) bn)) ?_;exact zq.1):p:=h ⟨a⟩
theorem qF(a:q)(h:ZH q->p:=by intro zq;refine RR ?_;refine O6 ?_;exact zq.1):p:=h ⟨a⟩
theorem pO(a:q)(h:ZH q->p:=by intro zq;refine Z7 ?_;refine iW ?_;exact zq.1):p:=h ⟨a⟩
theorem zu(a:q)(h:ZH q->p:=by intro zq;refine Z3 ?_;refine qX ?_;exact zq.1):p:=h ⟨a⟩
theorem ZU(a:q)(h:ZH q->p:=by intro zq;refine KO.eF (i:=j) rfl rfl runUnderlying160 sizeOf29 rfl lO rfl ?_;refine KO.Xq (i:=j) (j:=0) (sz:=1) (cf:=o8) (us:=[bp bh]) rfl rfl rfl aP (by exact sizeOf29) aP bn (fun _=>rfl) mH rfl bh rfl ?_;exact zq.1):p:=h ⟨a⟩
theorem ZT(a:q)(h:ZH q->p:=by intro zq;(repeat(first|(with_reducible refine K.seq ?_)|(with_reducible refine KQ.next ?_)|(with_reducible refine KQ.iO ?_)|(with_reducible refine KQ.kp ?_)|(refine KQ.Fa rfl ?_)|(with_reducible refine K.exit ?_)));exact zq.1):p:=h ⟨a⟩
theorem V5(a:q)(h:ZH q->p:=by intro zq;refine kE ?_;refine K.draw [.pure,.pure,.pure,.pure,.pure,.pure,.write,.pure] [0,1,2,3,4,5,6,7] bC bC ?_;exact zq.1):p:=h ⟨a⟩
theorem ZS(a:q)(h:ZH q->p:=by intro zq;refine K.draw [.pure,.read,.read,.pure,.pure,.read,.pure,.pure,.pure,.read,.pure,.read,.pure,.pure,.read,.pure,.pure,.pure] [0,1,2,3,4,5,6,7,8,9,10,11,12,13,14,15,16,17] bC bC ?_;refine N4 ?_;exact zq.1):p:=h ⟨a⟩
theorem V4(a:q)(h:ZH q->p:=by intro zq;refine Td ?_;refine KO.JX (cs:=(lT e).toArray) rfl rfl isAgg243 sizeOf243 rfl (hc g rfl k e he) rfl ?_;exact zq.1):p:=h ⟨a⟩
theorem Og(a:q)(h:ZH q->p:=by intro zq;refine qY ?_;refine CL ?_;exact zq.1):p:=h ⟨a⟩
theorem ZR(a:q)(h:ZH q->p:=by intro zq;refine I_ ?_;refine KU ?_;exact zq.1):p:=h ⟨a⟩
theorem Fv(a:q)(h:ZH q->p:=by intro zq;refine KO.sub rfl rfl rfl ae rfl ?_;exact zq.1):p:=h ⟨a⟩
theorem HV(a:q)(h:ZH q->p:=by intro zq;refine zx ?_;refine Tg ?_;exact zq.1):p:=h ⟨a⟩
theorem s5(a:q)(h:ZH q->p:=by intro zq;refine rU ?_;refine qv ?_;exact zq.1):p:=h ⟨a⟩
theorem V3(a:q)(h:ZH q->p:=by intro zq;refine KR.da rfl rfl ?_;(repeat(first|(with_reducible refine KQ.sx ?_)|(with_reducible refine KR.skip ?_)));exact zq.1):p:=h ⟨a⟩
theorem zt(a:q)(h:ZH q->p:=by intro zq;refine Oh ?_;refine KU ?_;exact zq.1):p:=h ⟨a⟩
theorem ZQ(a:q)(h:ZH q->p:=by intro zq;refine pQ ?_;refine K.draw [.pure,.pure,.pure,.pure,.pure,.pure,.read,.pure,.pure,.read,.c7,.pure,.pure,.write,.pure,.pure,.pure] [0,1,2,3,4,5,6,7,8,9,11,10,12,13,14,15,16] bC bC ?_;exact zq.1):p:=h ⟨a⟩
theorem RV(a:q)(h:ZH q->p:=by intro zq;refine Z60 ?_;refine KO.db (i:=30+j) rfl rfl isAgg3 bQ zz d1 rfl ?_;exact zq.1):p:=h ⟨a⟩
theorem V0(a:q)(h:ZH q->p:=by intro zq;refine KO.ia (i:=0) (sz:=1) (cf:=j7) (e:=wa) rfl rfl isAgg9 bn (fun _=>rfl) rfl aP aP rfl ?_;exact zq.1):p:=h ⟨a⟩
theorem VZ(a:q)(h:ZH q->p:=by intro zq;refine KO.nil ?_;(repeat(first|(with_reducible refine KQ.sx ?_)|(with_reducible refine KQ.gQ ?_)));exact zq.1):p:=h ⟨a⟩
theorem RU(a:q)(h:ZH q->p:=by intro zq;refine KO.fw (off:=7) rfl runUnderlying133 rfl rfl sizeOf123 rfl ?_;exact zq.1):p:=h ⟨a⟩
theorem RT(a:q)(h:ZH q->p:=by intro zq;refine KO.fw (off:=8) rfl runUnderlying133 rfl rfl sizeOf126 rfl ?_;exact zq.1):p:=h ⟨a⟩
theorem ZP(a:q)(h:ZH q->p:=by intro zq;refine KO.eF (i:=k) rfl rfl runUnderlying160 sizeOf29 rfl ae rfl ?_;refine KO.ia (i:=k) (sz:=1) (cf:=o8) (e:=p.1) rfl rfl isAgg29 bn (fun _=>rfl) mH aj aP rfl ?_;exact zq.1):p:=h ⟨a⟩
theorem RS(a:q)(h:ZH q->p:=by intro zq;refine Te ?_;refine KO.db (i:=2) rfl rfl isAgg162 bQ rfl rfl rfl ?_;exact zq.1):p:=h ⟨a⟩
theorem rR(a:q)(h:ZH q->p:=by intro zq;refine Z3 ?_;refine lK ?_;exact zq.1):p:=h ⟨a⟩
theorem rQ(a:q)(h:ZH q->p:=by intro zq;refine wk ?_;refine Z2 ?_;exact zq.1):p:=h ⟨a⟩
theorem ZO(a:q)(h:ZH q->p:=by intro zq;refine K.draw [.pure,.pure,.pure,.pure,.pure,.pure,.pure,.pure,.pure,.read,.read,.write,.pure,.pure,.pure,.pure] [0,1,2,3,4,5,6,7,8,9,10,11,12,13,14,15] bC bC ?_;refine oZ ?_;exact zq.1):p:=h ⟨a⟩
theorem rP(a:q)(h:ZH q->p:=by intro zq;refine Z1 ?_;refine lq ?_;exact zq.1):p:=h ⟨a⟩
theorem rO(a:q)(h:ZH q->p:=by intro zq;refine Lq ?_;refine Z4 ?_;exact zq.1):p:=h ⟨a⟩
theorem ZN(a:q)(h:ZH q->p:=by intro zq;refine K.draw [.pure,.pure,.pure,.pure,.pure,.pure,.pure,.pure,.pure,.pure,.write,.pure,.pure,.pure,.pure,.write] [0,1,2,3,4,5,6,7,8,9,11,12,13,10,14,15] bC bC ?_;refine lK ?_;exact zq.1):p:=h ⟨a⟩
theorem HU(a:q)(h:ZH q->p:=by intro zq;refine O7 ?_;refine s7 ?_;exact zq.1):p:=h ⟨a⟩
theorem RP(a:q)(h:ZH q->p:=by intro zq;refine KO.fw (off:=2) rfl runUnderlying133 rfl rfl sizeOf3 rfl ?_;exact zq.1):p:=h ⟨a⟩
theorem ZM(a:q)(h:ZH q->p:=by intro zq;refine KO.eF (i:=1) rfl rfl runUnderlying115 sizeOf9 rfl ai rfl ?_;refine KO.ia (i:=1) (sz:=1) (cf:=j7) (e:=wb) rfl rfl isAgg9 bn (fun _=>rfl) rfl aP aP rfl ?_;exact zq.1):p:=h ⟨a⟩
theorem ZL(a:q)(h:ZH q->p:=by intro zq;refine KO.eF (i:=4) rfl rfl runUnderlying115 sizeOf9 rfl ai rfl ?_;refine KO.ia (i:=4) (sz:=1) (cf:=j7) (e:=we) rfl rfl isAgg9 bn (fun _=>rfl) rfl aP aP rfl ?_;exact zq.1):p:=h ⟨a⟩
theorem HQ(a:q)(h:ZH q->p:=by intro zq;refine Z2 ?_;refine K.da rfl aj ?_;exact zq.1):p:=h ⟨a⟩
theorem ZK(a:q)(h:ZH q->p:=by intro zq;refine KO.eF (i:=j) rfl rfl runUnderlying160 sizeOf29 rfl lO rfl ?_;refine KO.ia (i:=j) (sz:=1) (cf:=o8) (e:=p.1) rfl rfl isAgg29 bn (fun _=>rfl) mH aj aP rfl ?_;exact zq.1):p:=h ⟨a⟩
theorem ZJ(a:q)(h:ZH q->p:=by intro zq;refine KO.eF (i:=m) rfl rfl runUnderlying160 sizeOf29 rfl lO rfl ?_;refine KO.ia (i:=m) (sz:=1) (cf:=o8) (e:=p.1) rfl rfl isAgg29 bn (fun _=>rfl) mH aj aP rfl ?_;exact zq.1):p:=h ⟨a⟩
theorem uO(a:q)(h:ZH q->p:=by intro zq;refine KO.abA rfl bC rfl ?_;exact zq.1):p:=h ⟨a⟩
theorem ZI(a:q)(h:ZH q->p:=by intro zq;refine KO.eF (i:=k) rfl rfl runUnderlying152 sizeOf119 rfl lO rfl ?_;refine KO.ia (i:=k) (sz:=1) (cf:=B2) (e:=p) rfl rfl isAgg119 .head (fun _=>rfl) hpj aP aP rfl ?_;exact zq.1):p:=h ⟨a⟩
theorem sZ(a:q)(h:ZH q->p:=by intro zq;refine K5 ?_;refine Z8 ?_;exact zq.1):p:=h ⟨a⟩
theorem rN(a:q)(h:ZH q->p:=by intro zq;refine Z3 ?_;refine Z7 ?_;exact zq.1):p:=h ⟨a⟩
theorem dM(a:q)(h:ZH q->p:=by intro zq;refine K.K9 ?_;exact zq.1):p:=h ⟨a⟩
theorem uN(a:q)(h:ZH q->p:=by intro zq;refine lL ?_;refine kr ?_;exact zq.1):p:=h ⟨a⟩
theorem uM(a:q)(h:ZH q->p:=by intro zq;refine Z7 ?_;refine s8 ?_;exact zq.1):p:=h ⟨a⟩
theorem uL(a:q)(h:ZH q->p:=by intro zq;refine qu ?_;refine oV ?_;refine qv ?_;exact zq.1):p:=h ⟨a⟩
theorem KZ(a:q)(h:ZH q->p:=by intro zq;refine KO.oL rfl rfl rfl aP Jd aP bn aP ?_;exact zq.1):p:=h ⟨a⟩
theorem VY(a:q)(h:ZH q->p:=by intro zq;refine K.draw [.pure,.pure,.pure,.read,.read,.pure] [0,1,2,3,4,5] bC bC ?_;refine lq ?_;exact zq.1):p:=h ⟨a⟩
theorem wC(a:q)(h:ZH q->p:=by intro zq;refine lL ?_;refine R6 ?_;exact zq.1):p:=h ⟨a⟩
theorem wB(a:q)(h:ZH q->p:=by intro zq;refine K.K9 ?_;refine KO.eqS rfl rfl rfl ?_;refine qE ?_;exact zq.1):p:=h ⟨a⟩
theorem RO(a:q)(h:ZH q->p:=by intro zq;refine oZ ?_;refine Xd ?_;refine lK ?_;refine ZG ?_;exact zq.1):p:=h ⟨a⟩
theorem HJ(a:q)(h:ZH q->p:=by intro zq;refine KO.W3 rfl bC rfl ?_;refine Z2 ?_;exact zq.1):p:=h ⟨a⟩
theorem VX(a:q)(h:ZH q->p:=by intro zq;refine KO.wh (pl:=[(0,1),(1,1)]) rfl zeroValue122 runUnderlying122 Y19 aP rfl ?_;exact zq.1):p:=h ⟨a⟩
theorem uK(a:q)(h:ZH q->p:=by intro zq;refine Jb ?_;refine Z2 ?_;exact zq.1):p:=h ⟨a⟩
theorem RN(a:q)(h:ZH q->p:=by intro zq;refine Vy ?_;refine KO.ldb hw rfl rfl isAgg120 bQ aP rfl ?_;exact zq.1):p:=h ⟨a⟩
theorem wA(a:q)(h:ZH q->p:=by intro zq;refine Z0 ?_;refine dM ?_;exact zq.1):p:=h ⟨a⟩
theorem wz(a:q)(h:ZH q->p:=by intro zq;refine Lq ?_;refine Z11 ?_;exact zq.1):p:=h ⟨a⟩
theorem wx(a:q)(h:ZH q->p:=by intro zq;refine Z6 ?_;refine dM ?_;exact zq.1):p:=h ⟨a⟩
theorem VW(a:q)(h:ZH q->p:=by intro zq;refine Jb ?_;refine qE ?_;exact zq.1):p:=h ⟨a⟩
theorem wu(a:q)(h:ZH q->p:=by intro zq;refine RY ?_;refine KO.fX (i:=0) rfl rfl rfl rfl Y40 rfl bn rfl Xf ?_;refine ZG ?_;refine KO.fX (i:=1) rfl rfl rfl rfl Y41 rfl bQ rfl Xf ?_;refine Ti ?_;exact zq.1):p:=h ⟨a⟩
theorem VV(a:q)(h:ZH q->p:=by intro zq;refine oY ?_;refine KO.eF rfl rfl runUnderlying115 sizeOf9 aP ae rfl ?_;exact zq.1):p:=h ⟨a⟩
theorem zr(a:q)(h:ZH q->p:=by intro zq;refine Og ?_;refine Vx ?_;exact zq.1):p:=h ⟨a⟩
theorem VU(a:q)(h:ZH q->p:=by intro zq;refine KO.fw (off:=0) rfl runUnderlying258 rfl rfl sizeOf3 rfl ?_;refine zL ?_;exact zq.1):p:=h ⟨a⟩
theorem RM(a:q)(h:ZH q->p:=by intro zq;refine KO.vT rfl rfl isAgg243 sizeOf243 bQ aP rfl ?_;exact zq.1):p:=h ⟨a⟩
theorem VT(a:q)(h:ZH q->p:=by intro zq;refine KO.fw (off:=3) rfl runUnderlying38 rfl rfl sizeOf3 rfl ?_;refine zL ?_;exact zq.1):p:=h ⟨a⟩
theorem RL(a:q)(h:ZH q->p:=by intro zq;refine Vy ?_;refine KO.ld rfl rfl isAgg120 bQ aP rfl ?_;exact zq.1):p:=h ⟨a⟩
theorem RJ(a:q)(h:ZH q->p:=by intro zq;refine s7 ?_;refine wk ?_;exact zq.1):p:=h ⟨a⟩
theorem Oe(a:q)(h:ZH q->p:=by intro zq;refine Z1 ?_;refine HZ ?_;exact zq.1):p:=h ⟨a⟩
theorem RI(a:q)(h:ZH q->p:=by intro zq;refine KO.oL rfl rfl rfl aP Y37 aP bQ aP ?_;refine Z0 ?_;exact zq.1):p:=h ⟨a⟩
theorem KX(a:q)(h:ZH q->p:=by intro zq;refine KO.mki rfl bC rfl ?_;refine Z90 ?_;exact zq.1):p:=h ⟨a⟩
theorem KW(a:q)(h:ZH q->p:=by intro zq;refine Ov ?_;refine KO.neS rfl rfl rfl ?_;exact zq.1):p:=h ⟨a⟩
theorem zp(a:q)(h:ZH q->p:=by intro zq;refine KO.neI rfl rfl rfl ?_;exact zq.1):p:=h ⟨a⟩
theorem zo(a:q)(h:ZH q->p:=by intro zq;refine KO.eqS rfl rfl rfl ?_;exact zq.1):p:=h ⟨a⟩
theorem RH(a:q)(h:ZH q->p:=by intro zq;refine KO.ld (v:=bp bh) rfl rfl isAgg29 bn aP rfl ?_;exact zq.1):p:=h ⟨a⟩
theorem ZF(a:q)(h:ZH q->p:=by intro zq;refine iX ?_;refine KO.wh (pl:=[(0,1),(1,1)]) rfl zeroValue130 runUnderlying130 (by intro w;simp[sizeOf127,sizeOf128]) aP rfl ?_;exact zq.1):p:=h ⟨a⟩
theorem VS(a:q)(h:ZH q->p:=by intro zq;refine KO.ldE rfl rfl isAgg3 bQ (fun _=>rfl) tr aP aP rfl ?_;refine zL ?_;exact zq.1):p:=h ⟨a⟩
theorem VR(a:q)(h:ZH q->p:=by intro zq;refine K.conv (fun w' hw'=>dj hvv YN (hw'.pick (A:=bZ iw vs S.G) bn)) ?_;exact zq.1):p:=h ⟨a⟩
theorem Ai(a:q)(h:ZH q->p:=by intro zq;refine wj ?_;refine CY ?_;exact zq.1):p:=h ⟨a⟩
theorem VQ(a:q)(h:ZH q->p:=by intro zq;refine N5 ?_;refine KO.ld (v:=.string x.queue) rfl rfl isAgg9 bQ aP rfl ?_;exact zq.1):p:=h ⟨a⟩
theorem wq(a:q)(h:ZH q->p:=by intro zq;refine Z6 ?_;refine Z8 ?_;exact zq.1):p:=h ⟨a⟩
theorem wo(a:q)(h:ZH q->p:=by intro zq;refine Z9 ?_;refine Z8 ?_;exact zq.1):p:=h ⟨a⟩
theorem uJ(a:q)(h:ZH q->p:=by intro zq;refine K.cL rfl rfl ?_;exact zq.1):p:=h ⟨a⟩
theorem VP(a:q)(h:ZH q->p:=by intro zq;refine K.conv (fun w' hw'=>dj huv YI (hw'.pick (A:=bZ Au us S.P) bn)) ?_;exact zq.1):p:=h ⟨a⟩
theorem VO(a:q)(h:ZH q->p:=by intro zq;refine Z8 ?_;refine xc ?_;exact zq.1):p:=h ⟨a⟩
theorem zn(a:q)(h:ZH q->p:=by intro zq;refine Jc ?_;refine Z0 ?_;exact zq.1):p:=h ⟨a⟩
theorem HH(a:q)(h:ZH q->p:=by intro zq;refine qY ?_;refine Z2 ?_;exact zq.1):p:=h ⟨a⟩
theorem zm(a:q)(h:ZH q->p:=by intro zq;refine Z3 ?_;refine kE ?_;exact zq.1):p:=h ⟨a⟩
theorem zl(a:q)(h:ZH q->p:=by intro zq;refine Ov ?_;refine Z1 ?_;exact zq.1):p:=h ⟨a⟩
theorem Od(a:q)(h:ZH q->p:=by intro zq;refine KO.ld rfl rfl isAgg49 bn aP rfl ?_;exact zq.1):p:=h ⟨a⟩
theorem Oc(a:q)(h:ZH q->p:=by intro zq;refine KO.ld rfl rfl isAgg29 bn aP rfl ?_;exact zq.1):p:=h ⟨a⟩
theorem CV(a:q)(h:ZH q->p:=by intro zq;refine VO ?_;refine uR ?_;exact zq.1):p:=h ⟨a⟩
theorem CU(a:q)(h:ZH q->p:=by intro zq;refine zy ?_;refine mK ?_;exact zq.1):p:=h ⟨a⟩
theorem CT(a:q)(h:ZH q->p:=by intro zq;refine HX ?_;refine Aj ?_;exact zq.1):p:=h ⟨a⟩
theorem Ah(a:q)(h:ZH q->p:=by intro zq;refine qu ?_;refine Jb ?_;exact zq.1):p:=h ⟨a⟩
theorem VN(a:q)(h:ZH q->p:=by intro zq;refine KO.Zc (off:=0) rfl runUnderlying130 rfl rfl sizeOf127 rfl ?_;exact zq.1):p:=h ⟨a⟩
theorem VM(a:q)(h:ZH q->p:=by intro zq;refine KO.Zc (off:=1) rfl runUnderlying130 rfl rfl sizeOf128 rfl ?_;exact zq.1):p:=h ⟨a⟩
theorem Ob(a:q)(h:ZH q->p:=by intro zq;refine KO.ld rfl rfl isAgg4 bQ aP rfl ?_;exact zq.1):p:=h ⟨a⟩
theorem Ag(a:q)(h:ZH q->p:=by intro zq;refine Z3 ?_;refine VW ?_;exact zq.1):p:=h ⟨a⟩
theorem Fu(a:q)(h:ZH q->p:=by intro zq;refine KO.cat rfl rfl Y18 rfl ?_;exact zq.1):p:=h ⟨a⟩
theorem ZE(a:q)(h:ZH q->p:=by intro zq;refine KQ.conv (fun w hw=>(St.xE (B:=[bI l (.loop ⟨.busy,none,fn,tm,#[p],assign,body,b⟩),bI b (.deferred (some []))]) hw)) ?_;exact zq.1):p:=h ⟨a⟩
theorem VK(a:q)(h:ZH q->p:=by intro zq;refine ZG ?_;refine KO.db (i:=1) rfl rfl isAgg161 bQ rfl rfl rfl ?_;exact zq.1):p:=h ⟨a⟩
theorem wm(a:q)(h:ZH q->p:=by intro zq;refine K.da rfl rfl ?_;exact zq.1):p:=h ⟨a⟩
theorem VJ(a:q)(h:ZH q->p:=by intro zq;refine KO.fw (off:=1) rfl runUnderlying122 rfl rfl sizeOf3 rfl ?_;exact zq.1):p:=h ⟨a⟩
theorem VI(a:q)(h:ZH q->p:=by intro zq;refine KO.fo (off:=0) rfl runUnderlying125 rfl rfl sizeOf86 rfl ?_;exact zq.1):p:=h ⟨a⟩
theorem VH(a:q)(h:ZH q->p:=by intro zq;refine KO.fw (off:=0) rfl runUnderlying62 rfl rfl sizeOf55 rfl ?_;exact zq.1):p:=h ⟨a⟩
theorem CS(a:q)(h:ZH q->p:=by intro zq;refine I_ ?_;refine Ak ?_;exact zq.1):p:=h ⟨a⟩
theorem CR(a:q)(h:ZH q->p:=by intro zq;refine CL ?_;refine Z79 ?_;refine pS ?_;exact zq.1):p:=h ⟨a⟩
theorem Af(a:q)(h:ZH q->p:=by intro zq;refine Z7 ?_;refine Xe ?_;exact zq.1):p:=h ⟨a⟩
theorem Ae(a:q)(h:ZH q->p:=by intro zq;refine KO.on rfl rfl Y57 ?_;exact zq.1):p:=h ⟨a⟩
theorem VG(a:q)(h:ZH q->p:=by intro zq;refine KO.fo (off:=0) rfl runUnderlying44 rfl rfl sizeOf3 rfl ?_;exact zq.1):p:=h ⟨a⟩
theorem Ft(a:q)(h:ZH q->p:=by intro zq;refine N9 ?_;refine lK ?_;exact zq.1):p:=h ⟨a⟩
theorem CQ(a:q)(h:ZH q->p:=by intro zq;refine RO ?_;refine Z1 ?_;exact zq.1):p:=h ⟨a⟩
theorem Fs(a:q)(h:ZH q->p:=by intro zq;refine jR ?_;refine ZR ?_;exact zq.1):p:=h ⟨a⟩
theorem CP(a:q)(h:ZH q->p:=by intro zq;refine KO.neN rfl bC rfl ?_;exact zq.1):p:=h ⟨a⟩
theorem ZD(a:q)(h:ZH q->p:=by intro zq;refine KO.jP (i:=j) rfl rfl runUnderlying40 sizeOf9 rfl ae rfl ?_;refine KO.qM rfl rfl isAgg9 hq rfl ?_;exact zq.1):p:=h ⟨a⟩
theorem Fq(a:q)(h:ZH q->p:=by intro zq;refine RJ ?_;refine CL ?_;exact zq.1):p:=h ⟨a⟩
theorem Fp(a:q)(h:ZH q->p:=by intro zq;refine jB ?_;refine qX ?_;exact zq.1):p:=h ⟨a⟩
theorem Fo(a:q)(h:ZH q->p:=by intro zq;refine HV ?_;refine Tg ?_;exact zq.1):p:=h ⟨a⟩
theorem CO(a:q)(h:ZH q->p:=by intro zq;refine qu ?_;refine Z1 ?_;exact zq.1):p:=h ⟨a⟩
theorem ZC(a:q)(h:ZH q->p:=by intro zq;refine dM ?_;refine HU ?_;refine vD ?_;exact zq.1):p:=h ⟨a⟩
theorem CN(a:q)(h:ZH q->p:=by intro zq;refine N9 ?_;refine Z1 ?_;exact zq.1):p:=h ⟨a⟩
theorem CM(a:q)(h:ZH q->p:=by intro zq;refine qv ?_;refine Z2 ?_;exact zq.1):p:=h ⟨a⟩
theorem Oa(a:q)(h:ZH q->p:=by intro zq;refine HH ?_;refine K.cL rfl Y63 ?_;exact zq.1):p:=h ⟨a⟩
theorem Fm(a:q)(h:ZH q->p:=by intro zq;refine oV ?_;refine rT ?_;exact zq.1):p:=h ⟨a⟩
theorem VF(a:q)(h:ZH q->p:=by intro zq;refine KO.ldb hw rfl rfl isAgg3 bQ aP rfl ?_;refine Jb ?_;exact zq.1):p:=h ⟨a⟩
theorem N_(a:q)(h:ZH q->p:=by intro zq;refine Xc ?_;refine s7 ?_;refine KO.qM rfl rfl isAgg3 c1 rfl ?_;refine Jb ?_;refine Z1 ?_;exact zq.1):p:=h ⟨a⟩
theorem ZB(a:q)(h:ZH q->p:=by intro zq;refine CL ?_;refine O7 ?_;exact zq.1):p:=h ⟨a⟩
theorem Fl(a:q)(h:ZH q->p:=by intro zq;refine kX ?_;refine VL ?_;refine Z1 ?_;exact zq.1):p:=h ⟨a⟩
theorem VE(a:q)(h:ZH q->p:=by intro zq;refine KO.vT rfl rfl isAgg256 sizeOf256 bQ aP rfl ?_;exact zq.1):p:=h ⟨a⟩
theorem KV(a:q)(h:ZH q->p:=by intro zq;refine KO.sq rfl tr rfl rfl ?_;exact zq.1):p:=h ⟨a⟩
theorem VD(a:q)(h:ZH q->p:=by intro zq;refine zL ?_;refine KO.rem rfl rfl ae ae rfl ?_;exact zq.1):p:=h ⟨a⟩
theorem RG(a:q)(h:ZH q->p:=by intro zq;refine Ot ?_;refine KO.no rfl rfl rfl rfl ?_;exact zq.1):p:=h ⟨a⟩
theorem HG(a:q)(h:ZH q->p:=by intro zq;refine ZC ?_;refine ZB ?_;refine K3 ?_;exact zq.1):p:=h ⟨a⟩
theorem HD(a:q)(h:ZH q->p:=by intro zq;refine uQ ?_;refine zu ?_;exact zq.1):p:=h ⟨a⟩
theorem VC(a:q)(h:ZH q->p:=by intro zq;refine KO.vT rfl rfl isAgg75 sizeOf75 bQ aP rfl ?_;exact zq.1):p:=h ⟨a⟩
theorem ZA(a:q)(h:ZH q->p:=by intro zq;refine KO.ia (i:=2) (sz:=1) (cf:=j7) (e:=wc) rfl rfl isAgg9 bn (fun _=>rfl) rfl aP aP rfl ?_;exact zq.1):p:=h ⟨a⟩
theorem RF(a:q)(h:ZH q->p:=by intro zq;refine N_ ?_;refine KO.no rfl rfl Y6 rfl ?_;exact zq.1):p:=h ⟨a⟩
theorem Fk(a:q)(h:ZH q->p:=by intro zq;refine Z8 ?_;refine Z93 ?_;exact zq.1):p:=h ⟨a⟩
theorem Fj(a:q)(h:ZH q->p:=by intro zq;refine KO.on rfl rfl Y69 ?_;exact zq.1):p:=h ⟨a⟩
theorem Hz(a:q)(h:ZH q->p:=by intro zq;refine Oe ?_;refine wi ?_;exact zq.1):p:=h ⟨a⟩
theorem Hy(a:q)(h:ZH q->p:=by intro zq;refine uP ?_;refine wi ?_;exact zq.1):p:=h ⟨a⟩
theorem Hx(a:q)(h:ZH q->p:=by intro zq;refine dM ?_;refine N7 ?_;exact zq.1):p:=h ⟨a⟩
theorem Hw(a:q)(h:ZH q->p:=by intro zq;refine lq ?_;refine Wc ?_;exact zq.1):p:=h ⟨a⟩
theorem VB(a:q)(h:ZH q->p:=by intro zq;refine kF ?_;refine KO.neB rfl rfl underlying4 rfl ?_;exact zq.1):p:=h ⟨a⟩
theorem RD(a:q)(h:ZH q->p:=by intro zq;refine zt ?_;refine KO.neS rfl rfl rfl ?_;exact zq.1):p:=h ⟨a⟩
theorem Zz(a:q)(h:ZH q->p:=by intro zq;refine Ft ?_;refine KO.eF (i:=0) rfl rfl runUnderlying115 sizeOf9 rfl ai rfl ?_;exact zq.1):p:=h ⟨a⟩
theorem VA(a:q)(h:ZH q->p:=by intro zq;refine Z40 ?_;refine KO.qM rfl rfl isAgg4 hc3 rfl ?_;exact zq.1):p:=h ⟨a⟩
theorem Vz(a:q)(h:ZH q->p:=by intro zq;refine KO.len rfl underlying115 rfl ?_;refine mK ?_;exact zq.1):p:=h ⟨a⟩
theorem Fi(a:q)(h:ZH q->p:=by intro zq;refine Z0 ?_;refine Z8 ?_;exact zq.1):p:=h ⟨a⟩
theorem Zy(a:q)(h:ZH q->p:=by intro zq;refine oY ?_;refine KO.eF (i:=i) rfl rfl runUnderlying49 sizeOf44 rfl ae rfl ?_;exact zq.1):p:=h ⟨a⟩
theorem Zx(a:q)(h:ZH q->p:=by intro zq;refine Z1 ?_;refine KO.eF (i:=j) rfl rfl runUnderlying162 sizeOf258 rfl ae rfl ?_;exact zq.1):p:=h ⟨a⟩
theorem Hv(a:q)(h:ZH q->p:=by intro zq;refine Z9 ?_;refine C4 ?_;exact zq.1):p:=h ⟨a⟩
theorem Hu(a:q)(h:ZH q->p:=by intro zq;refine oX ?_;refine Z1 ?_;exact zq.1):p:=h ⟨a⟩
theorem Ht(a:q)(h:ZH q->p:=by intro zq;refine xc ?_;refine kr ?_;exact zq.1):p:=h ⟨a⟩
theorem Hr(a:q)(h:ZH q->p:=by intro zq;refine Z3 ?_;refine Zw ?_;refine KO.mki rfl bC rfl ?_;exact zq.1):p:=h ⟨a⟩
theorem Hq(a:q)(h:ZH q->p:=by intro zq;refine qu ?_;refine s7 ?_;exact zq.1):p:=h ⟨a⟩
theorem Hp(a:q)(h:ZH q->p:=by intro zq;refine qv ?_;refine iW ?_;exact zq.1):p:=h ⟨a⟩
theorem Hn(a:q)(h:ZH q->p:=by intro zq;refine Z1 ?_;refine s6 ?_;exact zq.1):p:=h ⟨a⟩
theorem Hm(a:q)(h:ZH q->p:=by intro zq;refine kr ?_;refine kF ?_;exact zq.1):p:=h ⟨a⟩
theorem Hl(a:q)(h:ZH q->p:=by intro zq;refine O7 ?_;refine zL ?_;exact zq.1):p:=h ⟨a⟩
theorem Hk(a:q)(h:ZH q->p:=by intro zq;refine Z8 ?_;refine ZR ?_;exact zq.1):p:=h ⟨a⟩
end
namespace WB
open Go Go.RowKit
abbrev PH:=Nat->Option Obj
def HP:=PH->Prop
def td (h1 h2:PH):Prop:= ∀k,h1 k=none\/h2 k=none
def oA (h1 h2:PH):PH:=fun k=>(h1 k).or (h2 k)
def emp:HP:=fun h=>∀k,h k=none
def sep (A B:HP):HP:=fun h=> ∃h1 h2,td h1 h2/\h=oA h1 h2/\A h1/\B h2
def bI (b:Nat) (o:Obj):HP:=fun h=>h b=some o/\∀k,k≠b->h k=none
def JF (p:Prop):HP:=fun h=>p/\emp h
def ex {α:Sort _} (A:α->HP):HP:=fun h=> ∃x,A x h
def gH:List HP->HP
 |[]=>emp
 |a::l=>sep a (gH l)
structure St (w0:World) (L:List HP) (w:World):Prop where
 os:w.os=w0.os
 tape:w.tape=w0.tape
 output:w.output=w0.output
 size:w0.heap.size<=w.heap.size
 block:∀k,k<w0.heap.size->w.heap[k]? =w0.heap[k]?
 own:∃h:PH,(∀k o,h k=some o->w0.heap.size<=k/\w.heap[k]? =some o)/\gH L h
inductive bF:List HP->HP->List HP->Prop
 |head {a:HP} {L:List HP}:bF (a::L) a L
 |tail {x a:HP} {L R:List HP}:bF L a R->bF (x::L) a (x::R)
theorem sb{h1 h2:PH}(d:td h1 h2):oA h1 h2=oA h2 h1:=by
 funext k;unfold oA;rcases d k with h|h<;>simp[h]
theorem td.symm{h1 h2:PH}(d:td h1 h2):td h2 h1:=fun k=>(d k).symm
theorem mQ(h1 h2 h3:PH):oA (oA h1 h2) h3=oA h1 (oA h2 h3):=by
 funext k;unfold oA;cases h1 k<;>simp
theorem nt{h1 h2 h3:PH}:td (oA h1 h2) h3↔td h1 h3/\td h2 h3:=by
 constructor
 ·intro d;constructor<;>intro k<;>have :=d k<;>simp[oA]at this<;>rcases this with h|h<;>simp[h]
 ·rintro⟨d1,d2⟩ k;rcases d1 k with h|h
  ·rcases d2 k with h'|h'
   ·left;simp[oA,h,h']
   ·right;exact h'
  ·right;exact h
theorem ll{h1 h2 h3:PH}:td h3 (oA h1 h2)↔td h3 h1/\td h3 h2:=by
 constructor
 ·intro d;exact⟨(nt.1 d.symm).1.symm,(nt.1 d.symm).2.symm⟩
 ·rintro⟨a,b⟩;exact(nt.2 ⟨a.symm,b.symm⟩).symm
theorem DJ{A B:HP}{h:PH}(H:sep A B h):sep B A h:=by
 obtain⟨h1,h2,d,rfl,a,b⟩:=H;exact⟨h2,h1,d.symm,sb d,b,a⟩
theorem la{A B C:HP}{h:PH}:sep (sep A B) C h↔sep A (sep B C) h:=by
 constructor
 ·rintro⟨WZ,h3,d,rfl,⟨h1,h2,d',rfl,a,b⟩,c⟩;rw[nt]at d;exact⟨h1,oA h2 h3,ll.2 ⟨d',d.1⟩,mQ _ _ _,a,h2,h3,d.2,rfl,b,c⟩
 ·rintro⟨h1,h23,d,rfl,a,h2,h3,d',rfl,b,c⟩;rw[ll]at d;exact⟨oA h1 h2,h3,nt.2 ⟨d.2,d'⟩,(mQ _ _ _).symm,⟨h1,h2,d.1,rfl,a,b⟩,c⟩
theorem fS{A A' B B':HP}(ha:∀h,A h->A' h)(hb:∀h,B h->B' h){h:PH}(H:sep A B h):sep A' B' h:=by
 obtain⟨h1,h2,d,e,a,b⟩:=H;exact⟨h1,h2,d,e,ha _ a,hb _ b⟩
theorem xL{A B C:HP}{h:PH}(H:sep A (sep B C) h):sep B (sep A C) h:=by
 have :=la.2 H;exact la.1 (fS (fun _ x=>DJ x) (fun _ x=>x) this)
theorem wI{h1 h2:PH}(e:∀k,h1 k=none):oA h1 h2=h2:=by
 funext k;simp[oA,e]
theorem CA{A:HP}{h:PH}:sep emp A h↔A h:=by
 constructor
 ·rintro⟨h1,h2,d,rfl,e,a⟩
  rwa [wI e]
 ·intro a;exact⟨fun _=>none,h,fun k=>.inl rfl,(wI (fun _=>rfl)).symm,fun _=>rfl,a⟩
theorem dJ{L L':List HP}{h:PH}:gH (L++L') h↔sep (gH L) (gH L') h:=by
 induction L generalizing h with
 |nil=>simp only[List.nil_append,gH];exact CA.symm
 |cons a L ih=>
  simp only[bz,gH];constructor
  ·intro H;exact la.2 (fS (fun _ x=>x) (fun _ x=>ih.1 x) H)
  ·intro H;exact fS (fun _ x=>x) (fun _ x=>ih.2 x) (la.1 H)
theorem bF.gH{L R:List HP}{a:HP}(p:bF L a R){h:PH}(H:WB.gH L h):WB.gH (a::R) h:=by
 induction p generalizing h with
 |head=>exact H
 |tail _ ih=>exact xL (fS (fun _ x=>x) (fun _ x=>ih x) H)
theorem bF.Tv{L R:List HP}{a:HP}(p:bF L a R){h:PH}(H:WB.gH (a::R) h):WB.gH L h:=by
 induction p generalizing h with
 |head=>exact H
 |tail _ ih=>exact fS (fun _ x=>x) (fun _ x=>ih x) (xL H)
namespace St
variable {w0 w:World} {L L' R:List HP} {A B:HP}
theorem jl(h:St w0 L w)(f:∀x,gH L x->gH L' x):St w0 L' w:=
 {h with own:=let⟨x,a,b⟩:=h.own;⟨x,a,f x b⟩}
theorem pick(h:St w0 L w)(p:bF L A R):St w0 (A::R) w:=h.jl fun _=>p.gH
theorem xA(h:St w0 (A::R) w)(p:bF L A R):St w0 L w:=h.jl fun _=>p.Tv
theorem imp(h:St w0 (A::L) w)(f:∀x,A x->B x):St w0 (B::L) w:=h.jl fun _=>fS f fun _ x=>x
theorem drop(h:St w0 (A::L) w):St w0 L w:=by
 obtain⟨x,hx,h1,h2,d,rfl,a,b⟩:=h.own;refine {h with own:=⟨h2,fun k o hk=>hx k o ?_,b⟩};rcases d k with e|e
 ·simp[oA,e,hk]
 ·simp[hk]at e
theorem split(h:St w0 (sep A B::L) w):St w0 (A::B::L) w:=h.jl fun _ x=>la.1 x
theorem join(h:St w0 (A::B::L) w):St w0 (sep A B::L) w:=h.jl fun _ x=>la.2 x
theorem splits(h:St w0 (gH L::L') w):St w0 (L++L') w:=h.jl fun _ x=>dJ.2 x
theorem Em(h:St w0 (L++L') w):St w0 (gH L::L') w:=h.jl fun _ x=>dJ.1 x
theorem Bp{α:Sort _}{F:α->HP}(h:St w0 (ex F::L) w):∃x,St w0 (F x::L) w:=by
 obtain⟨x,hx,h1,h2,d,e,⟨y,a⟩,b⟩:=h.own;exact⟨y,{h with own:=⟨x,hx,h1,h2,d,e,a,b⟩}⟩
theorem zZ{α:Sort _}{F:α->HP}(y:α)(h:St w0 (F y::L) w):St w0 (ex F::L) w:=h.imp fun _ x=>⟨y,x⟩
theorem rf{p:Prop}(h:St w0 (JF p::L) w):p/\St w0 L w:=by
 refine⟨?_,h.drop⟩;obtain⟨x,hx,h1,h2,d,e,a,b⟩:=h.own;exact a.1
theorem vN{p:Prop}(hp:p)(h:St w0 L w):St w0 (JF p::L) w:=
 h.jl fun _ x=>fS (fun _ e=>⟨hp,e⟩) (fun _ x=>x) (CA.2 x)
theorem Zg(h:St w0 L w):St w0 (emp::L) w:=h.jl fun _ x=>CA.2 x
theorem look{b:Nat}{o:Obj}(h:St w0 (bI b o::L) w):w0.heap.size<=b/\w.heap[b]? =some o:=by
 obtain⟨x,hx,h1,h2,d,rfl,a,_⟩:=h.own;exact hx b o (by simp[oA,a.1])
theorem oD{b:Nat}{o:Obj}(h:St w0 L w)(p:bF L (bI b o) R):w0.heap.size<=b/\w.heap[b]? =some o:=(h.pick p).look
theorem lt{b:Nat}{o:Obj}(h:St w0 (bI b o::L) w):b<w.heap.size:=by
 have :=h.look.2;exact(Array.getElem?_eq_some_iff.1 this).1
theorem ne{b b':Nat}{o o':Obj}(h:St w0 (bI b o::bI b' o'::L) w):b≠b':=by
 rintro rfl;obtain⟨x,hx,h1,h2,d,rfl,a,h3,h4,d',rfl,a',_⟩:=h.own;have :=d b;simp[a.1,oA,a'.1]at this
theorem init(w0:World):St w0 [] w0:=⟨rfl,rfl,rfl,aF _,fun _ _=>rfl,⟨fun _=>none,fun _ _ h=>by simp at h,fun _=>rfl⟩⟩
theorem below(h:St w0 L w):Below w0.heap.size w0 w:=⟨h.os,h.tape,h.output,h.size,h.block⟩
theorem drew(h:St w0 L w):St w0 L w.drew:=⟨h.os,h.tape,h.output,h.size,h.block,h.own⟩
theorem upd{b:Nat}{o o':Obj}{w':World}(h:St w0 (bI b o::L) w)(e1:w'.os=w.os)(e2:w'.tape=w.tape)(e3:w'.output=w.output)(e4:w'.heap.size=w.heap.size)(e5:w'.heap[b]? =some o')(e6:∀k,k≠b->w'.heap[k]? =w.heap[k]?):St w0 (bI b o'::L) w':=by
 obtain⟨hb,_⟩:=h.look;obtain⟨x,hx,h1,h2,d,rfl,a,c⟩:=h.own;refine⟨e1.trans h.os,e2.trans h.tape,e3.trans h.output,by rw[e4];exact h.size,fun k hk=>by rw[e6 k ae];exact h.block k hk,?_⟩;refine⟨oA (fun k=>if k=b then some o' else none) h2,fun k v hk=>?_,_,h2,?_,rfl,?_,c⟩
 ·by_cases e:k=b
  ·subst e;simp[oA]at hk;subst hk;exact⟨hb,e5⟩
  ·simp[oA,e]at hk;rw[e6 k e];exact hx k v (by simp[oA,hk,a.2 k e])
 ·intro k;by_cases e:k=b
  ·subst e;have :=d k;simp[a.1]at this;exact .inr this
  ·exact .inl (by simp[e])
 ·exact⟨by simp,fun k hk=>by simp[hk]⟩
theorem alloc(h:St w0 L w)(o:Obj):St w0 (bI w.heap.size o::L) (w.alloc o):=by
 obtain⟨x,hx,c⟩:=h.own;have X9:∀k,w.heap.size<=k->x k=none:=fun k hk=>by
  cases e:x k with
  |none=>rfl
  |some v=>have :=(hx k v e).2;rw[Array.getElem?_eq_none hk]at this;simp at this
 refine⟨h.os,h.tape,h.output,by simp;have :=h.size;omega,fun k hk=>?_,?_⟩
 ·rw[Below.heap_alloc _ _ _ (by have :=h.size;omega)];exact h.block k hk
 ·refine⟨oA (fun k=>if k=w.heap.size then some o else none) x,fun k v hk=>?_,_,x,?_,rfl,?_,c⟩
  ·by_cases e:k=w.heap.size
   ·subst e;simp[oA]at hk;subst hk;exact⟨h.size,by show(w.heap.push o)[w.heap.size]? =_;simp⟩
   ·simp[oA,e]at hk;have :=hx k v hk;refine⟨this.1,?_⟩;rw[Below.heap_alloc _ _ _ ?_]
    ·exact this.2
    ·exact(Array.getElem?_eq_some_iff.1 this.2).1
  ·intro k;by_cases e:k=w.heap.size
   ·exact .inr (X9 k ae)
   ·exact .inl (by simp[e])
  ·exact⟨by simp,fun k hk=>by simp[hk]⟩
end St
end WB
namespace WB
open Go Go.RowKit
def Edge.always (e:Edge):Bool:=match e.ground with| .textOnly _=>false| .gcOnly _=>false|_=>true
def rB (o:Oper):List Nat:=(o.after.toList.filter Edge.always).map (·.on)
theorem jK:∀(l l':List Nat),l.Nodup->(∀x∈l,x∈l')->l.length<=l'.length
 |[],_,_,_=>aV _
 |a::l,l',hn,h=>by
  have ha:a∈l':=h a (List.mem_cons_self)
  have :=jK l (l'.erase a) (bJ.1 hn).2 (fun x hx=>by
   have gh:x≠a:=fun e=>(bJ.1 hn).1 (e▸hx)
   exact(List.mem_erase_of_ne gh).2 (h x (List.mem_cons_of_mem _ hx)))
  rw[List.length_erase_of_mem ha]at this;have hp:0<l'.length:=List.length_pos_of_mem ha;simp only[List.length_cons];omega
def Valid (ops:Array Oper) (l:List Nat):Prop:=
 l.Nodup/\(∀i,i∈l↔i<ops.size)/\∀p i s,l=p++i::s->∀o,ops[i]? =some o->∀d∈rB o,d∈p
theorem KJ(e:Edge):Region.binds .any e=Edge.always e:=by
 unfold Region.binds Edge.always;cases e.ground<;>rfl
theorem lA(m:Region.Mode)(hm:m=.any)(ops:Array Oper)(dt:∀(i:Nat) (o:Oper),ops[i]? =some o->∀d∈rB o,d<i):
 ∀(fuel t:Nat) (listed:Array Bool) (acc:List Nat),listed.size=ops.size->
  (∀i,i<ops.size->(listed.getD i false=true↔i∈acc))->(∀i∈acc,i<ops.size)->acc.Nodup->fuel+acc.length=ops.size->
  (∀p i s,acc.reverse=p++i::s->∀o,ops[i]? =some o->∀d∈rB o,d∈p)->
  Valid ops (Region.linearise.go m ops fuel t listed acc)
 |0,t,listed,acc,hs,hl,hr,hn,hf,hv=>by
  unfold Region.linearise.go;refine⟨(List.reverse_perm acc).nodup_iff.2 hn,fun i=>?_,hv⟩;rw[List.mem_reverse];refine⟨hr i,fun hi=>Classical.byContradiction fun Uw=>?_⟩
  have :=jK (i::acc) (List.range ops.size) (bJ.2 ⟨Uw,hn⟩) (fun x hx=>by
   rcases aD.1 hx with rfl|hx
   ·exact aZ.2 hi
   ·exact aZ.2 (hr x hx))
  simp at this;omega
 |fuel+1,t,listed,acc,hs,hl,hr,hn,hf,hv=>by
  unfold Region.linearise.go;have hex:∃i,i<ops.size/\i∉acc/\∀j,j<i->j∈acc:=by
   have gh:∃i,i<ops.size/\i∉acc:=by
    refine Classical.byContradiction fun hc=>?_
    have fg:∀i,i<ops.size->i∈acc:=fun i hi=>Classical.byContradiction fun h=>hc ⟨i,hi,h⟩
    have :=jK (List.range ops.size) acc List.nodup_range (fun x hx=>fg x (aZ.1 hx));simp at this;omega
   obtain⟨i,hi⟩:=gh;have :∀n,∀i,i<=n->(i<ops.size/\i∉acc)->∃i,i<ops.size/\i∉acc/\∀j,j<i->j∈acc:=by
    intro n
    induction n with
    |zero=>intro i sN hi;exact⟨i,hi.1,hi.2,fun j hj=>by omega⟩
    |succ n ih=>
     intro i sN hi;by_cases hc:∃j,j<i/\j∉acc
     ·obtain⟨j,hj,hja⟩:=hc;exact ih j ae ⟨by omega,hja⟩
     ·exact⟨i,hi.1,hi.2,fun j hj=>Classical.byContradiction fun h=>hc ⟨j,hj,h⟩⟩
   exact this i i (aF _) hi
  have kC:∀i,i<ops.size->∀b,listed.getD i b=listed.getD i false:=by
   intro i hi b;simp[Array.getD,hs,hi]
  generalize OU:((List.range ops.size).filter fun i=> !listed.getD i true&&((ops[i]?).map (·.after.all fun e=> !Region.binds m e||listed.getD e.on false)).getD false)=rs
  have fq:∀i,i∈rs↔i<ops.size/\i∉acc/\∃o,ops[i]? =some o/\(o.after.all fun e=> !Region.binds m e||listed.getD e.on false)=true:=by
   intro i;rw[<-OU,aB,aZ];constructor
   ·rintro⟨hi,h⟩;simp only[a_,Bool.not_eq_true']at h;rw[kC i hi]at h;refine⟨hi,fun hc=>?_,ops[i],by simp[hi],?_⟩
    ·have :=(hl i hi).2 hc;simp[this]at h
    ·have h2:=h.2;simp only[Array.getElem?_eq_getElem hi,Option.map_some,Option.getD_some]at h2;exact h2
   ·rintro⟨hi,Uw,o,ho,h⟩;refine⟨hi,?_⟩;rw[kC i hi];have :listed.getD i false=false:=by
     cases hb:listed.getD i false with
     |false=>rfl
     |true=>exact absurd ((hl i hi).1 hb) Uw
    simp only[this,ho,Option.map_some,Option.getD_some,h,Bool.not_false,Bool.and_self]
  have Ch:rs≠[]:=by
   obtain⟨i,hi,Uw,fg⟩:=hex
   have :i∈rs:=(fq i).2 ⟨hi,Uw,ops[i],by simp[hi],by
    rw[Array.all_eq_true'];intro e he;cases hb:Region.binds m e with
    |false=>simp
    |true=>
     rw[hm,KJ]at hb;have QH:=dt i ops[i] (by simp[hi]) e.on (ay.2 ⟨e,aB.2 ⟨Array.mem_toList_iff.2 he,hb⟩,rfl⟩);have :listed.getD e.on false=true:=(hl e.on ae).2 (fg _ QH)
     simp[this]⟩
   intro h;rw[h]at this;simp at this
  have hlen:0<rs.length:=List.length_pos_iff.2 Ch;have QF:t%rs.length<rs.length:=Nat.mod_lt _ hlen;have X0:rs[t%rs.length]? =some (rs[t%rs.length]'QF):=ao QF;simp only[X0];have sN:=(fq (rs[t%rs.length]'QF)).1 (List.getElem_mem _);generalize (rs[t%rs.length]'QF)=i at sN ⊢;obtain⟨hi,Uw,o,ho,fg⟩:=sN;refine lA m hm ops dt fuel _ _ _ (by simp[hs]) ?_ ?_ (bJ.2 ⟨Uw,hn⟩) fx ?_
  ·intro k hk;by_cases e:k=i
   ·subst e;simp[Array.getD,hs,hi]
   ·have h2:(listed.setIfInBounds i true).getD k false=listed.getD k false:=by
     simp[Array.getD,hs,hk,Ne.symm e]
    rw[h2,hl k hk];simp[e]
  ·intro k hk;rcases aD.1 hk with rfl|hk
   ·exact hi
   ·exact hr k hk
  ·intro p j s hp o' ho' d hd;rw[List.reverse_cons]at hp;rcases List.eq_nil_or_concat s with rfl|⟨s',x,rfl⟩
   ·have h2:=List.append_inj' hp rfl;have UD:i=j:=by simpa using h2.2
    subst UD;rw[<-h2.1,List.mem_reverse];rw[ho]at ho';cases ho'
    obtain⟨e,he,rfl⟩:=ay.1 hd;obtain⟨OZ,ei⟩:=aB.1 he;rw[Array.all_eq_true']at fg;have h3:=fg e (Array.mem_toList_iff.1 OZ);have hb:Region.binds m e=true:=by
     unfold Edge.always at ei;unfold Region.binds;cases hg:e.ground<;>simp_all
    simp[hb]at h3;exact(hl _ (by have :=dt i o ho e.on (ay.2 ⟨e,aB.2 ⟨OZ,ei⟩,rfl⟩);omega)).1 (by rw[Array.getD_eq_getD_getElem?];exact h3)
   ·have :acc.reverse++[i]=(p++j::s')++[x]:=by simpa[List.concat_eq_append]using hp
    have h2:=List.append_inj' this rfl;exact hv p j s' h2.1 o' ho' d hd
theorem je(mixed:Bool)(pC:mixed=true)(ops:Array Oper)(t:Nat)(dt:∀(i:Nat) (o:Oper),ops[i]? =some o->∀d∈rB o,d<i):
 Valid ops (Region.schedule mixed ops t):=by
 have :Valid ops (Region.linearise .any ops t):=by
  unfold Region.linearise;refine lA _ rfl ops dt _ _ _ _ aj ?_ aj List.nodup_nil aj ?_
  ·intro i hi;simp[Array.getD,hi]
  ·intro p i s h;simp at h
 unfold Region.schedule;rw[pC,Bool.true_or,if_pos rfl];exact this
inductive Kd|pure|read|same|c7|write
 deriving DecidableEq
def Kd.nb:Kd->Bool| .pure| .read| .same=>true|_=>false
def Ext (w w':World):Prop:=w.heap.size<=w'.heap.size/\∀k,k<w.heap.size->w'.heap[k]? =w.heap[k]?
theorem Ext.refl(w:World):Ext w w:=⟨aF _,fun _ _=>rfl⟩
theorem Ext.trans{a b c:World}(h:Ext a b)(k:Ext b c):Ext a c:=⟨Nat.le_trans h.1 k.1,fun i hi=>(k.2 i (Nat.lt_of_lt_of_le hi h.1)).trans (h.2 i hi)⟩
theorem Ext.bW{w w':World}(h:Below w.heap.size w w'):Ext w w':=⟨h.size,h.block⟩
theorem Ext.drew(w:World):Ext w w.drew:=⟨aF _,fun _ _=>rfl⟩
theorem Ext.cell{w w':World}(h:Ext w w'){a:Addr}{v:Value}(hc:w.cell? a=some v):w'.cell? a=some v:=by
 have hb:a.block<w.heap.size:=by
  unfold World.cell? at hc;split at hc
  ·rename_i e;exact(Array.getElem?_eq_some_iff.1 e).1
  ·simp at hc
 rw[<-hc];exact World.cell?_of_block (h.2 _ hb)
def stays (k:Kd) (w w':World):Prop:=match k with| .pure=>True| .read=>Ext w w'|_=>w'=w
def Je (P:Program) (m:Sem Next) (v:Value) (w:World):Prop:=
 m.run P w=.ok (.value v) w\/∃f args,m.run P w=.ok (.enter f args) w/\Calls P f args w fun e w'=>e=.returned v/\w'=w
def pq (Q:Exit->Act->World->Prop):Exit->Act->World->Prop:=fun e a w=>∀tm,Q e {a with tmps:=tm} w
theorem wQ{Q:Exit->Act->World->Prop}(e:Exit)(a:Act)(w:World)(h:pq Q e a w):Q e a w:=h a.tmps
theorem L_{Q:Exit->Act->World->Prop}{e:Exit}{a:Act}{w:World}{d:Option Tmp}{u:Value}(h:pq Q e (a.put d u) w):pq Q e a w:=fun tm=>by
 have :=h tm;cases d<;>exact this
def ij (P:Program) (ops:Array Oper) (Q:Exit->Act->World->Prop):List (Kd×Oper)->Act->World->Prop
 |[],a,w=>Q .normal a w
 |(k,o)::rest,a,w=>
  if Region.wanted o (yielded ops a.tmps)then
   match k with
   | .c7=>o.wp P a w (fun a' w'=>Ext w w'/\ij P ops Q rest a' w') (pq Q)
   | .write=>o.wp P a w (fun a' w'=>ij P ops Q rest a' w') (pq Q)
   |k=> ∃v,(∀w',stays k w w'->Je P (execOp a.eval o) v w')/\ij P ops Q rest (a.put o.dst v) w
  else ij P ops Q rest (a.put o.dst undef) w
def LK:Operand->List Nat| .tmp t=>[t]|_=>[]
def jg (ops:Array Oper) (o:Oper):List Nat:=
 o.op.operands.toList.flatMap LK++(match o.guard with|some (j,_)=>((ops[j]?).bind (·.dst)).toList|none=>[])
theorem eval_put{a:Act}{d:Option Tmp}{v:Value}{x:Operand}(h:∀t,d=some t->t∉LK x):(a.put d v).eval x=a.eval x:=by
 cases d with
 |none=>rfl
 |some t=>
  cases x with
  |tmp u=>
   have :t≠u:=by have :=h t rfl;simpa[LK]using this
   simp[Act.put,Act.eval,Array.getD_eq_getD_getElem?,this]
  |_=>rfl
def jU:Op->Bool| .select .. | .defer _| .go _=>false|_=>true
theorem execOp_congr{ρ ρ':Operand->Value}{o:Oper}(hp:jU o.op=true)(h:∀x∈o.op.operands.toList,ρ x=ρ' x):execOp ρ o=execOp ρ' o:=by
 have TX:∀(xs:Array Operand),(∀x∈xs.toList,ρ x=ρ' x)->xs.map ρ=xs.map ρ':=fun xs hx=>
  Array.map_congr_left fun x Qk=>hx x (Array.mem_toList_iff.2 Qk)
 have XE:∀(ps:Array (Nat×Operand)),(∀x∈ps.toList.map (·.2),ρ x=ρ' x)->ps.map (fun(i,x)=>(i,ρ x))=ps.map (fun(i,x)=>(i,ρ' x)):=fun ps hx=>
  Array.map_congr_left fun p hp=>by
   have :=hx p.2 (ay.2 ⟨p,Array.mem_toList_iff.2 hp,rfl⟩);simp[this]
 have P7:∀(x:Option Operand),(∀y,x=some y->ρ y=ρ' y)->x.map ρ=x.map ρ':=fun x hx=>by
  cases x with
  |none=>rfl
  |some y=>simp[hx y rfl]
 have NR:∀(c:Call) (t:TypeId),(∀x∈c.operands.toList,ρ x=ρ' x)->resolve ρ c t=resolve ρ' c t:=fun c t hx=>by
  have ha:c.args.map ρ=c.args.map ρ':=TX _ fun x Qk=>hx x (by simp[Call.operands,Array.mem_toList_iff.1 Qk])
  unfold resolve;cases hc:c.callee with
  |value f=>simp only[ha];rw[hx f (by simp[Call.operands,hc])]
  |invoke r m=>simp only[ha];rw[hx r (by simp[Call.operands,hc])]
  |builtin b=>simp only[ha]
 rcases o with⟨dst,op,ty,pos,after,guard⟩
 unfold execOp;cases op with
 |build t ps=>simp only[Op.operands]at h ⊢;rw[XE ps (fun x hx=>h x (by simpa using hx))]
 |buildSlice t n ps=>simp only[Op.operands]at h ⊢;rw[XE ps (fun x hx=>h x (by simpa using hx))]
 |makeFunc f xs ys=>
  simp only[Op.operands,Array.toList_append,aH]at h ⊢;rw[TX xs (fun x hx=>h x (.inl hx)),TX ys (fun x hx=>h x (.inr hx))]
 |makeMap t r=>simp only[Op.operands]at h ⊢;rw[P7 r (fun y hy=>h y (by simp[hy]))]
 |slice t x l hi m=>
  simp only[Op.operands]at h ⊢;rw[h x aj,P7 l (fun y hy=>h y (by simp[hy])),P7 hi (fun y hy=>h y (by simp[hy])),P7 m (fun y hy=>h y (by simp[hy]))]
 |call c=>simp only[Op.operands]at h ⊢;rw[NR c _ h]
 |go c=>simp only[Op.operands]at h ⊢;rw[NR c _ h]
 |defer c=>simp only[Op.operands]at h ⊢;rw[NR c _ h]
 |select cs bl=>simp[jU]at hp
 |alloc=>rfl
 |ready=>rfl
 |waits=>rfl
 |_=>simp[Op.operands]at h ⊢ <;>simp[h]
theorem put_comm{a:Act}{d e:Option Tmp}{v u:Value}(h:∀x,d=some x->e≠some x):(a.put d v).put e u=(a.put e u).put d v:=by
 cases d with
 |none=>rfl
 |some x=>
  cases e with
  |none=>rfl
  |some y=>
   have gh:x≠y:=fun e=>h x rfl (by rw[e])
   simp only[Act.put];rw[Array.setIfInBounds_comm _ _ gh]
theorem wanted_put{ops:Array Oper}{o:Oper}{tm:Array Value}{d:Option Tmp}{v:Value}{df:List Deferred}(h:∀t,d=some t->t∉jg ops o):
 Region.wanted o (yielded ops (({tmps:=tm,defers:=df}:Act).put d v).tmps)=Region.wanted o (yielded ops tm):=by
 cases d with
 |none=>rfl
 |some t=>
  unfold Region.wanted;cases hg:o.guard with
  |none=>rfl
  |some g=>
   obtain⟨j,want⟩:=g;have ht:=h t rfl;simp only[jg,hg,aH,not_or]at ht;simp only[yielded,Act.put];cases hj:(ops[j]?).bind (·.dst)with
   |none=>rfl
   |some u=>
    have gh:t≠u:=by
     have :=ht.2;rw[hj]at this;simpa using this
    simp[gh]
theorem yV{ops:Array Oper}{o:Oper}{a:Act}{d:Option Tmp}{v:Value}(hp:jU o.op=true)(h:∀t,d=some t->t∉jg ops o):
 execOp (a.put d v).eval o=execOp a.eval o:=by
 refine execOp_congr hp fun x hx=>eval_put fun t ht hm=>h t ht ?_
 simp only[jg,aH,List.mem_flatMap];exact .inl ⟨x,hx,hm⟩
structure aaj (ops:Array Oper) (o o':Oper):Prop where
 r1:∀t,o.dst=some t->t∉jg ops o'
 r2:∀t,o'.dst=some t->t∉jg ops o
 w:∀t,o.dst=some t->o'.dst≠some t
theorem Dr{P:Program}{ops:Array Oper}{o:Oper}{a:Act}{w:World}{d:Option Tmp}{u:Value}{N N':Act->World->Prop}{Q:Exit->Act->World->Prop}(hp:jU o.op=true)(h1:∀t,d=some t->t∉jg ops o)(h2:∀t,d=some t->o.dst≠some t)(hN:∀(x:Act) (v:Value) (w':World),x.tmps=a.tmps->N ((x.put o.dst v).put d u) w'->N' (x.put o.dst v) w')(h:o.wp P (a.put d u) w N (pq Q)):
 o.wp P a w N' (pq Q):=by
 have hc:∀v,(a.put d u).put o.dst v=(a.put o.dst v).put d u:=fun v=>put_comm h2
 unfold Oper.wp at h ⊢;rw[yV hp h1]at h;cases hr:(execOp a.eval o).run P w with
 |halt hh w'=>rw[hr]at h;cases hh<;>first|exact h.elim|exact L_ h
 |ok n w'=>
  rw[hr]at h;cases n with
  |value v=>simp only[Oper.upon]at h ⊢;rw[hc]at h;exact hN a _ _ rfl h
  |skip=>simp only[Oper.upon]at h ⊢;rw[hc]at h;exact hN a _ _ rfl h
  |defer dd=>
   simp only[Oper.upon]at h ⊢;have e:({(a.put d u)with defers:=dd::(a.put d u).defers}:Act).put o.dst undef=(({a with defers:=dd::a.defers}:Act).put o.dst undef).put d u:=by
    rw[<-put_comm h2];cases d<;>rfl
   rw[e]at h;exact hN {a with defers:=dd::a.defers} _ _ rfl h
  |enter f args=>
   simp only[Oper.upon]at h ⊢;refine h.mono fun e rX hh=>?_
   cases e with
   |returned v=>simp only at hh ⊢;rw[hc]at hh;exact hN a _ _ rfl hh
   |panicked c=>exact L_ hh
   |outgrown=>exact hh
  |row r args=>
   simp only[Oper.upon]at h ⊢;refine h.mono fun v rX hh=>?_
   rw[hc]at hh;exact hN a _ _ rfl hh
  |_=>exact h
section
variable {P:Program} {ops:Array Oper} {Q:Exit->Act->World->Prop} {rest:List (Kd×Oper)} {k:Kd} {o:Oper} {a:Act} {w:World}
theorem ph(hw:Region.wanted o (yielded ops a.tmps)=false):ij P ops Q ((k,o)::rest) a w=ij P ops Q rest (a.put o.dst undef) w:=by
 cases k<;>simp[ij,hw]
theorem dR(hk:k.nb=true)(hw:Region.wanted o (yielded ops a.tmps)=true):ij P ops Q ((k,o)::rest) a w=
 ∃v,(∀w',stays k w w'->Je P (execOp a.eval o) v w')/\ij P ops Q rest (a.put o.dst v) w:=by
 cases k<;>first|(simp[Kd.nb]at hk;done)|simp[ij,hw]
theorem gC(hw:Region.wanted o (yielded ops a.tmps)=true):ij P ops Q ((.c7,o)::rest) a w=
 o.wp P a w (fun a' w'=>Ext w w'/\ij P ops Q rest a' w') (pq Q):=by simp[ij,hw]
theorem dZ(hw:Region.wanted o (yielded ops a.tmps)=true):ij P ops Q ((.write,o)::rest) a w=
 o.wp P a w (fun a' w'=>ij P ops Q rest a' w') (pq Q):=by simp[ij,hw]
end
def G_ (k k':Kd):Prop:=k'.nb=true\/k=.pure\/(k=.read/\k'=.c7)
theorem replay{P:Program}{ops:Array Oper}{Q:Exit->Act->World->Prop}{rest:List (Kd×Oper)}{k:Kd}{o:Oper}(hk:k.nb=true)(hp:jU o.op=true){a x:Act}{w w':World}{d:Option Tmp}{u v:Value}(hx:x.tmps=a.tmps)(hr:∀t,d=some t->t∉jg ops o)(hw:Region.wanted o (yielded ops a.tmps)=true)(hv:∀rX,stays k w rX->Je P (execOp a.eval o) v rX)(hs:∀rX,stays k w' rX->stays k w rX)(h:ij P ops Q rest ((x.put d u).put o.dst v) w'):ij P ops Q ((k,o)::rest) (x.put d u) w':=by
 have hw':Region.wanted o (yielded ops (x.put d u).tmps)=true:=by
  obtain⟨tm,df⟩:=x;rw[wanted_put hr];rw[show tm=a.tmps from hx];exact hw
 have he:execOp (x.put d u).eval o=execOp a.eval o:=by
  rw[yV hp hr];exact execOp_congr hp fun y _=>by cases y<;>simp[Act.eval,hx]
 have :∃v,(∀rX,stays k w' rX->Je P (execOp (x.put d u).eval o) v rX)/\ij P ops Q rest ((x.put d u).put o.dst v) w':=
  ⟨v,fun rX aT=>by rw[he];exact hv rX (hs rX aT),h⟩
 rw[dR hk hw'];exact this
theorem F9{P:Program}{ops:Array Oper}{Q:Exit->Act->World->Prop}{rest:List (Kd×Oper)}{k:Kd}{o:Oper}{a x:Act}{w':World}{d:Option Tmp}{u:Value}(hx:x.tmps=a.tmps)(hr:∀t,d=some t->t∉jg ops o)(hw:Region.wanted o (yielded ops a.tmps)=false)(h:ij P ops Q rest ((x.put d u).put o.dst undef) w'):ij P ops Q ((k,o)::rest) (x.put d u) w':=by
 have hw':Region.wanted o (yielded ops (x.put d u).tmps)=false:=by
  obtain⟨tm,df⟩:=x;rw[wanted_put hr];rw[show tm=a.tmps from hx];exact hw
 rw[ph hw'];exact h
theorem swap{P:Program}{ops:Array Oper}{Q:Exit->Act->World->Prop}{rest:List (Kd×Oper)}{k k':Kd}{o o':Oper}(hk:k.nb=true)(hc:G_ k k')(hp:jU o.op=true)(zV:jU o'.op=true)(hf:aaj ops o o'){a:Act}{w:World}(h:ij P ops Q ((k,o)::(k',o')::rest) a w):ij P ops Q ((k',o')::(k,o)::rest) a w:=by
 have key:∃u,ij P ops Q ((k',o')::rest) (a.put o.dst u) w/\
  ∀(x:Act) (v:Value) (w':World),x.tmps=a.tmps->(∀rX,stays k w' rX->stays k w rX)->ij P ops Q rest ((x.put o'.dst v).put o.dst u) w'->ij P ops Q ((k,o)::rest) (x.put o'.dst v) w':=by
  cases hw:Region.wanted o (yielded ops a.tmps)with
  |false=>
   rw[ph hw]at h;exact⟨undef,h,fun x v w' hx _ hr=>F9 hx hf.r2 hw hr⟩
  |true=>
   rw[dR hk hw]at h;obtain⟨v,hv,hr⟩:=h;exact⟨v,hr,fun x u w' hx hs hr=>replay hk hp hx hf.r2 hw hv hs hr⟩
 obtain⟨u,hi,hre⟩:=key;have hw':Region.wanted o' (yielded ops (a.put o.dst u).tmps)=Region.wanted o' (yielded ops a.tmps):=by
  obtain⟨tm,df⟩:=a;exact wanted_put hf.r1
 have hee:execOp (a.put o.dst u).eval o'=execOp a.eval o':=yV zV hf.r1;have A2:∀rX,stays k w rX->stays k w rX:=fun _ x=>x
 have SQ:∀v,(a.put o.dst u).put o'.dst v=(a.put o'.dst v).put o.dst u:=fun v=>put_comm hf.w
 cases Ql:Region.wanted o' (yielded ops a.tmps)with
 |false=>
  rw[ph (by rw[hw',Ql]),SQ]at hi;rw[ph Ql];exact hre a undef w rfl A2 hi
 |true=>
  have Uh:Region.wanted o' (yielded ops (a.put o.dst u).tmps)=true:=by rw[hw',Ql]
  by_cases Yg:k'.nb=true
  ·rw[dR Yg Uh]at hi;rw[dR Yg Ql];obtain⟨v,hv,hr⟩:=hi;rw[SQ]at hr;exact⟨v,fun rX hs=>by rw[<-hee];exact hv rX hs,hre a v w rfl A2 hr⟩
  ·cases k' with
   |c7=>
    rw[gC Uh]at hi;rw[gC Ql];refine Dr zV hf.r1 hf.w (fun x v w' hx hN=>⟨hN.1,hre x v w' hx (fun rX hs=>?_) hN.2⟩) hi;rcases hc with hc|rfl|⟨rfl,_⟩
    ·exact absurd hc Yg
    ·trivial
    ·exact hN.1.trans hs
   |write=>
    rw[dZ Uh]at hi;rw[dZ Ql];refine Dr zV hf.r1 hf.w (fun x v w' hx hN=>hre x v w' hx (fun rX hs=>?_) hN) hi;rcases hc with hc|rfl|⟨_,hc⟩
    ·exact absurd hc Yg
    ·trivial
    ·simp at hc
   |_=>exact absurd rfl Yg
variable {P:Program} {ops:Array Oper} {Q:Exit->Act->World->Prop}
theorem jE{Q1 Q2:Exit->Act->World->Prop}(hQ:∀e a w,Q1 e a w->Q2 e a w){o:Oper}{a:Act}{w:World}{N N':Act->World->Prop}(hN:∀a w,N a w->N' a w)(h:o.wp P a w N Q1):o.wp P a w N' Q2:=by
 unfold Oper.wp at h ⊢;cases hr:(execOp a.eval o).run P w with
 |halt hh w'=>rw[hr]at h;cases hh<;>first|exact hQ _ _ _ h|exact h.elim
 |ok n w'=>
  rw[hr]at h;cases n with
  |value v=>exact hN _ _ h
  |skip=>exact hN _ _ h
  |defer dd=>exact hN _ _ h
  |enter f args=>
   simp only[Oper.upon]at h ⊢;refine h.mono fun e rX hh=>?_
   cases e with
   |returned v=>exact hN _ _ hh
   |panicked c=>exact hQ _ _ _ hh
   |outgrown=>obtain⟨x,y,hx⟩:=hh;exact⟨x,y,hQ _ _ _ hx⟩
  |row r args=>
   simp only[Oper.upon]at h ⊢;exact h.mono fun v rX hh=>hN _ _ hh
  |_=>exact h.elim
theorem tu{o:Oper}{a:Act}{w:World}{N N':Act->World->Prop}(hN:∀a w,N a w->N' a w)(h:o.wp P a w N (fun _ _ _=>False)):o.wp P a w N' Q:=jE (fun _ _ _ h=>h.elim) hN h
theorem LC{x:Kd×Oper}{L L':List (Kd×Oper)}(hL:∀a w,ij P ops Q L a w->ij P ops Q L' a w){a:Act}{w:World}(h:ij P ops Q (x::L) a w):ij P ops Q (x::L') a w:=by
 obtain⟨k,o⟩:=x;cases hw:Region.wanted o (yielded ops a.tmps)with
 |false=>rw[ph hw]at h ⊢;exact hL _ _ h
 |true=>
  by_cases hl:k.nb=true
  ·rw[dR hl hw]at h ⊢;obtain⟨v,hv,hr⟩:=h;exact⟨v,hv,hL _ _ hr⟩
  ·cases k with
   |c7=>rw[gC hw]at h ⊢;exact jE (fun _ _ _ h=>h) (fun a w hh=>⟨hh.1,hL _ _ hh.2⟩) h
   |write=>rw[dZ hw]at h ⊢;exact jE (fun _ _ _ h=>h) (fun a w hh=>hL _ _ hh) h
   |_=>exact absurd rfl hl
def Nq (ops:Array Oper) (o o':Oper):Bool:=
 (match o.dst with|some t=> !(jg ops o').contains t&& !(match o'.dst with|some u=>t==u|none=>false)|none=>true)&&
 (match o'.dst with|some t=> !(jg ops o).contains t|none=>true)
theorem Ra{o o':Oper}(h:Nq ops o o'=true):aaj ops o o':=by
 unfold Nq at h;rw[a_]at h;obtain⟨h1,h2⟩:=h;refine⟨fun t ht=>?_,fun t ht=>?_,fun t ht hd=>?_⟩
 ·rw[ht]at h1;simp only[a_,Bool.not_eq_true']at h1;intro hc;have :=List.contains_iff_mem.2 hc;rw[this]at h1;simp at h1
 ·rw[ht]at h2;simp only[Bool.not_eq_true']at h2;intro hc;have :=List.contains_iff_mem.2 hc;rw[this]at h2;simp at h2
 ·rw[ht,hd]at h1;simp at h1
def CG (k k':Kd):Bool:=match k,k' with
 |_,.pure=>true|_,.read=>true|_,.same=>true
 | .pure,_=>true| .read,.c7=>true|_,_=>false
theorem Kx{k k':Kd}(h:CG k k'=true):G_ k k':=by
 cases k<;>cases k'<;>simp_all [CG,G_,Kd.nb]
def item (ops:Array Oper) (ks:List Kd) (i:Nat):Kd×Oper:=(ks.getD i .write,ops.toList.getD i default)
def iT (ops:Array Oper) (ks:List Kd) (x i:Nat):Bool:=
 (item ops ks x).1.nb&&(CG (item ops ks x).1 (item ops ks i).1&&(Nq ops (item ops ks x).2 (item ops ks i).2&&(jU (item ops ks x).2.op&&jU (item ops ks i).2.op)))
theorem Hb{ks:List Kd}{i:Nat}{post:List Nat}:∀(pre:List Nat),(∀x∈pre,iT ops ks x i=true)->∀a w,
 ij P ops Q ((pre++i::post).map (item ops ks)) a w->ij P ops Q ((i::(pre++post)).map (item ops ks)) a w
 |[],_,a,w,h=>h
 |x::pre,hp,a,w,h=>by
  have h1:ij P ops Q ((x::i::(pre++post)).map (item ops ks)) a w:=by
   refine LC (fun a w hh=>Hb pre (fun y hy=>hp y (List.mem_cons_of_mem _ hy)) a w hh) h
  have hx:=hp x List.mem_cons_self;simp only[iT,a_]at hx;obtain⟨e1,e2,e3,e4,e5⟩:=hx;exact swap e1 (Kx e2) e4 e5 (Ra e3) h1
def Gt:List Nat->List Nat->List Nat
 |[],acc=>acc
 |x::l,acc=>Gt l (if acc.contains x then acc else x::acc)
def Eg:List Oper->List (List Nat)->List (List Nat)
 |[],acc=>acc
 |o::l,acc=>Eg l (acc++[Gt ((Gt (rB o) []).flatMap fun d=>d::acc.getD d []) []])
def qU (ops:Array Oper) (qV:List (List Nat)):Bool:=
 (List.range ops.size).all fun i=>(qV.getD i []).all fun x=>(rB (ops.toList.getD i default)).any fun d=>d==x||(qV.getD d []).contains x
def eV (ops:Array Oper):Bool:=(List.range ops.size).all fun i=>(rB (ops.toList.getD i default)).all fun d=>Nat.blt d i
theorem qt{qV:List (List Nat)}(hb:eV ops=true)(ha:qU ops qV=true){l:List Nat}(hv:Valid ops l):
 ∀n i,i<=n->i<ops.size->∀p s,l=p++i::s->∀x∈qV.getD i [],x∈p:=by
 have get:∀i (h:i<ops.size),ops[i]? =some (ops.toList.getD i default):=fun i h=>by simp[h]
 intro n
 induction n with
 |zero=>
  intro i sN hi p s hl x hx;unfold qU at ha;have h1:=aI.1 (aI.1 ha i (aZ.2 hi)) x hx;obtain⟨d,hd,_⟩:=List.any_eq_true.1 h1;unfold eV at hb;have h2:=aI.1 (aI.1 hb i (aZ.2 hi)) d hd;simp[Nat.blt_eq]at h2;omega
 |succ n ih=>
  intro i sN hi p s hl x hx;unfold qU at ha;have h1:=aI.1 (aI.1 ha i (aZ.2 hi)) x hx;obtain⟨d,hd,WU⟩:=List.any_eq_true.1 h1;have hdp:=hv.2.2 p i s hl _ (get i hi) d hd;have hdi:d<i:=by
   unfold eV at hb;have h2:=aI.1 (aI.1 hb i (aZ.2 hi)) d hd;simpa[Nat.blt_eq]using h2
  rw[Bool.or_eq_true]at WU;rcases WU with WU|WU
  ·have :d=x:=by simpa using WU
   exact this▸hdp
  ·obtain⟨p1,p2,rfl⟩:=List.append_of_mem hdp;have :=ih d ae ae p1 (p2++i::s) Lt x (List.contains_iff_mem.1 WU);exact aH.2 (.inl this)
def jW (f:Nat->Nat->Bool):List Nat->Bool
 |[]=>true
 |x::l=>l.all (f x)&&jW f l
theorem mE{f:Nat->Nat->Bool}{i:Nat}{post:List Nat}:∀(pre:List Nat),jW f (pre++i::post)=true->(∀x∈pre,f x i=true)/\jW f (pre++post)=true/\(∀y∈post,f i y=true)
 |[],h=>by simp only[List.nil_append,jW,a_]at h;exact⟨fun _ hx=>(by cases hx),h.2,fun y hy=>aI.1 h.1 y hy⟩
 |x::pre,h=>by
  simp only[bz,jW,a_]at h;obtain⟨h1,h2,h3⟩:=mE pre h.2;refine⟨fun y hy=>?_,?_,h3⟩
  ·rcases aD.1 hy with rfl|hy
   ·exact aI.1 h.1 i aj
   ·exact h1 y hy
  ·simp only[bz,jW,a_];refine⟨aI.2 fun y hy=>aI.1 h.1 y ?_,h2⟩;rcases aH.1 hy with hy|hy
   ·simp[hy]
   ·simp[hy]
def Wu (ops:Array Oper) (ks:List Kd) (ord:List Nat):Bool:=
 let qV:=Eg ops.toList []
 eV ops&&(qU ops qV&&((List.range ops.size).all (fun i=>ord.contains i)&&(ord.all (fun i=>Nat.blt i ops.size)&&
  jW (fun x i=> !(x==i)&&((qV.getD i []).contains x||iT ops ks x i)) ord)))
theorem tP{ks:List Kd}{qV:List (List Nat)}(hb:eV ops=true)(ha:qU ops qV=true){l:List Nat}(hv:Valid ops l):
 ∀(s p rem:List Nat),l=p++s->(∀x,x∈rem↔x∈s)->
  jW (fun x i=> !(x==i)&&((qV.getD i []).contains x||iT ops ks x i)) rem=true->
  ∀a w,ij P ops Q (rem.map (item ops ks)) a w->wpOps P ops Q s a w
 |[],p,rem,hl,hm,hp,a,w,h=>by
  have :rem=[]:=List.eq_nil_iff_forall_not_mem.2 fun x hx=>by simpa using(hm x).1 hx
  subst this;exact h
 |i::s,p,rem,hl,hm,hp,a,w,h=>by
  have hi:i<ops.size:=(hv.2.1 i).1 Lt;have sK:=hv.1;rw[hl]at sK;have WK:∀x∈i::s,x∉p:=fun x hx Qi=>(List.nodup_append.1 sK).2.2 x Qi x hx rfl
  have Lf:i∉s:=(bJ.1 (List.nodup_append.1 sK).2.1).1;obtain⟨pre,post,rfl⟩:=List.append_of_mem ((hm i).2 List.mem_cons_self);obtain⟨h1,h2,h3⟩:=mE pre hp;have Us:∀x∈pre,iT ops ks x i=true:=fun x hx=>by
   have hf:=h1 x hx;simp only[a_,Bool.or_eq_true]at hf;rcases hf.2 with hc|hc
   ·have Qi:=qt hb ha hv i i (aF _) hi p s hl x (List.contains_iff_mem.1 hc);exact absurd Qi (WK x ((hm x).1 wF))
   ·exact hc
  have lG:=Hb pre Us a w h;have zX:∀x,x∈pre++post↔x∈s:=fun x=>by
   have hx:=hm x;constructor
   ·intro XL;have Eu:x∈pre++i::post:=by
     rcases aH.1 XL with e|e<;>simp[e]
    rcases aD.1 (hx.1 Eu)with rfl|e
    ·exfalso;rcases aH.1 XL with e|e
     ·have :=h1 x e;simp at this
     ·have :=h3 x e;simp at this
    ·exact e
   ·intro rY;have :=hx.2 (List.mem_cons_of_mem _ rY);rcases aH.1 this with e|e
    ·simp[e]
    ·rcases aD.1 e with rfl|e
     ·exact absurd rY Lf
     ·simp[e]
  have IH:=tP hb ha hv s (p++[i]) (pre++post) Lt zX h2;have kC:ops[i]? =some (item ops ks i).2:=by simp[item,hi]
  simp only[aJ]at lG;simp only[wpOps,kC];cases hw:Region.wanted (item ops ks i).2 (yielded ops a.tmps)with
  |false=>
   simp only[Bool.false_eq_true,if_false];rw[show item ops ks i=((item ops ks i).1,(item ops ks i).2)from rfl,ph hw]at lG;exact IH _ _ lG
  |true=>
   simp only[if_true];left;rw[show item ops ks i=((item ops ks i).1,(item ops ks i).2)from rfl]at lG;by_cases dt:(item ops ks i).1.nb=true
   ·rw[dR dt hw]at lG;obtain⟨v,lM,hr⟩:=lG;have kj:stays (item ops ks i).1 w w:=by
     cases(item ops ks i).1<;>first|trivial|exact Ext.refl w|rfl
    unfold Oper.wp;rcases lM w kj with hg|⟨f,args,hg,gm⟩
    ·rw[hg];exact IH _ _ hr
    ·rw[hg];refine gm.mono ?_;rintro e w' ⟨rfl,rfl⟩;exact IH _ _ hr
   ·generalize hk:(item ops ks i).1=k at lG dt;cases k with
    |c7=>rw[gC hw]at lG;exact jE wQ (fun a w hh=>IH _ _ hh.2) lG
    |write=>rw[dZ hw]at lG;exact jE wQ (fun a w hh=>IH _ _ hh) lG
    |_=>exact absurd rfl dt
theorem eu{id:Nat}{a:Act}{w:World}(ks:List Kd)(ord:List Nat)(pC:P.follows .mixedOrders=true)(jY:Wu ops ks ord=true)(h:ij P ops Q (ord.map (item ops ks)) a w.drew):(Code.region id ops true).wp P Q a w:=by
 simp only[Wu,a_]at jY;obtain⟨hb,ha,fg,dt,hp⟩:=jY;refine wp_region_draw fun t=>?_
 have hv:Valid ops (Region.schedule (P.follows .mixedOrders) ops t):=je _ pC _ _ fun i o ho d hd=>by
  have hi:i<ops.size:=(Array.getElem?_eq_some_iff.1 ho).1
  have h1:=aI.1 (aI.1 hb i (aZ.2 hi)) d (by
   have :ops.toList.getD i default=o:=by
    simp[Array.getElem?_eq_getElem hi]at ho ⊢;simp[ho]
   rw[this];exact hd)
  simpa[Nat.blt_eq]using h1
 generalize Region.schedule (P.follows .mixedOrders) ops t=l at hv ⊢;refine tP hb ha hv l [] ord rfl (fun x=>?_) hp a _ h;rw[hv.2.1 x];constructor
 ·intro hx;simpa[Nat.blt_eq]using aI.1 dt x hx
 ·intro hx;exact List.contains_iff_mem.1 (aI.1 fg x (aZ.2 hx))
end WB
namespace WB
open Go Go.RowKit
section
variable {P:Program} {ops:Array Oper} {Q:Exit->Act->World->Prop} {rest:List (Kd×Oper)} {k:Kd} {o:Oper} {a a':Act} {w:World} {v:Value}
theorem nN(h:Q .normal a w):ij P ops Q [] a w:=h
theorem fh(hw:Region.wanted o (yielded ops a.tmps)=true)(hv:∀w',(execOp a.eval o).run P w'=.ok (.value v) w')(hp:a.put o.dst v=a')(h:ij P ops Q rest a' w):ij P ops Q ((.pure,o)::rest) a w:=by
 rw[dR rfl hw];exact⟨v,fun w' _=>.inl (hv w'),by rw[hp];exact h⟩
end
def cr (w:World) (ad:Addr) (cs:List Value):Prop:= ∀j c,cs[j]? =some c->w.cell? (ad.add j)=some c
theorem cr.one{w:World}{ad:Addr}{c:Value}(h:w.cell? ad=some c):cr w ad [c]:=fun j d hj=>by
 cases j with
 |zero=>simp at hj;subst hj;rw[show ad.add 0=ad by simp[Addr.add]];exact h
 |succ j=>simp at hj
theorem cr.nil{w:World}{ad:Addr}:cr w ad []:=fun j d hj=>by simp at hj
theorem cr.ext{w w':World}{ad:Addr}{cs:List Value}(h:cr w ad cs)(e:Ext w w'):cr w' ad cs:=fun j c hj=>e.cell (h j c hj)
theorem cr.cons{w:World}{b off:Nat}{c:Value}{cs:List Value}(h:w.cell? ⟨b,off,none⟩=some c)(t:cr w ⟨b,off+1,none⟩ cs):cr w ⟨b,off,none⟩ (c::cs):=fun j d hj=>by
 cases j with
 |zero=>simp at hj;subst hj;rw[show(⟨b,off,none⟩:Addr).add 0=⟨b,off,none⟩by simp[Addr.add]];exact h
 |succ j=>
  have :=t j d ZZ;rw[Addr.add_lit]at this ⊢;rw[show off+(j+1)=off+1+j by omega];exact this
theorem nW{P:Program}{w:World}{T:TypeId}{ad:Addr}{cs:List Value}(hT:(isAgg T).run P w=.ok true w)(hn:(Go.sizeOf T).run P w=.ok cs.length w)(hc:cr w ad cs):(loadVar T ad).run P w=.ok (.agg cs.toArray) w:=by
 simp[loadVar,hT,hn,run_loadCells_list (P:=P) (w:=w) ad cs hc]
theorem fJ{P:Program}{w:World}{T:TypeId}{ad:Addr}{c:Value}(hT:(isAgg T).run P w=.ok false w)(hc:w.cell? ad=some c):(loadVar T ad).run P w=.ok c w:=by
 simp[loadVar,hT,hc]
section
variable {P:Program} {ops:Array Oper} {Q:Exit->Act->World->Prop} {rest:List (Kd×Oper)} {a a':Act} {w:World} {v:Value} {d:Option Tmp} {T ty:TypeId} {x:Operand} {pos:String} {after:Array Edge} {g:Option (Nat×Bool)} {ad:Addr}
theorem wH(hw:Region.wanted ⟨d,.load T x,ty,pos,after,g⟩ (yielded ops a.tmps)=true)(ha:a.eval x=.pointer (some ad))(hT:∀w,(isAgg T).run P w=.ok false w)(hc:w.cell? ad=some v)(hp:a.put d v=a')(h:ij P ops Q rest a' w):ij P ops Q ((.read,⟨d,.load T x,ty,pos,after,g⟩)::rest) a w:=by
 rw[dR rfl hw];refine⟨v,fun w' (e:Ext w w')=>?_,by rw[hp];exact h⟩;refine .inl ?_;simp[execOp,ha,Instr.loadAt,Instr.sureAddr,fJ (hT w') (e.cell hc)]
theorem Ih{cs:List Value}(hw:Region.wanted ⟨d,.load T x,ty,pos,after,g⟩ (yielded ops a.tmps)=true)(ha:a.eval x=.pointer (some ad))(hT:∀w,(isAgg T).run P w=.ok true w)(hn:∀w,(Go.sizeOf T).run P w=.ok cs.length w)(hc:cr w ad cs)(hp:a.put d (.agg cs.toArray)=a')(h:ij P ops Q rest a' w):
 ij P ops Q ((.read,⟨d,.load T x,ty,pos,after,g⟩)::rest) a w:=by
 rw[dR rfl hw];refine⟨_,fun w' (e:Ext w w')=>?_,by rw[hp];exact h⟩;refine .inl ?_;simp[execOp,ha,Instr.loadAt,Instr.sureAddr,nW (hT w') (hn w') (hc.ext e)]
end
def ke (e:TypeId) (size:Nat) (v:Value) (n:Nat) (xs:List Value):HP:=fun h=>
 xs.length=n *size/\((v=.slice none 0 0/\n=0/\emp h)\/
  ∃g cap cur,v=.slice (some ⟨g,0,none⟩) n cap/\n<=cap/\cap<=maxLen/\cur.size=cap *size/\cur.toList.take (n *size)=xs/\bI g (.cells cur e (0,0)) h)
theorem Ks{w0 w:World}{L:List HP}{A:HP}{p:Prop}(h:St w0 (A::L) w)(f:∀x,A x->p):p:=by
 obtain⟨x,hx,h1,h2,d,e,a,b⟩:=h.own;exact f _ a
namespace St
variable {w0 w w':World} {L:List HP} {e:TypeId} {size:Nat} {v v':Value} {n n':Nat} {xs xs':List Value}
theorem cH(h:St w0 (ke e size v n xs::L) w):
 (v=.slice none 0 0/\n=0/\xs=[]/\St w0 L w)\/
 ∃g cap cur,v=.slice (some ⟨g,0,none⟩) n cap/\n<=cap/\cap<=maxLen/\cur.size=cap *size/\cur.toList.take (n *size)=xs/\xs.length=n *size/\St w0 (bI g (.cells cur e (0,0))::L) w:=by
 obtain⟨x,hx,h1,h2,d,e',⟨hl,a⟩,b⟩:=h.own;rcases a with⟨rfl,rfl,he⟩|⟨g,cap,cur,rfl,a1,a2,a3,a4,a5⟩
 ·exact .inl ⟨rfl,rfl,List.eq_nil_of_length_eq_zero ZY,h.drop⟩
 ·exact .inr ⟨g,cap,cur,rfl,a1,a2,a3,a4,hl,{h with own:=⟨x,hx,h1,h2,d,e',a5,b⟩}⟩
theorem B4(h:St w0 L w):St w0 (ke e size (.slice none 0 0) 0 []::L) w:=
 h.Zg.imp fun _ he=>⟨by simp,.inl ⟨rfl,rfl,he⟩⟩
theorem kx{g cap:Nat}{cur:Array Value}(h:St w0 (bI g (.cells cur e (0,0))::L) w)(hn:n<=cap)(hc:cap<=maxLen)(hs:cur.size=cap *size)(ht:cur.toList.take (n *size)=xs):St w0 (ke e size (.slice (some ⟨g,0,none⟩) n cap) n xs::L) w:=
 h.imp fun _ hb=>⟨by rw[<-ht,bA,Array.length_toList,hs];exact Nat.min_eq_left (Nat.mul_le_mul_right _ hn),.inr ⟨g,cap,cur,rfl,hn,hc,hs,ht,hb⟩⟩
theorem wS(h:St w0 (ke e size v n xs::L) w):xs.length=n *size:=Ks h fun _ hx=>hx.1
theorem x8(h:St w0 (ke e size v n xs::L) w):w.ownsRow w0.heap.size e size v n xs:=by
 refine⟨h.wS,?_⟩;rcases h.cH with⟨rfl,rfl,rfl,_⟩|⟨g,cap,cur,rfl,h1,h2,h3,h4,h5,h6⟩
 ·exact .inl ⟨rfl,rfl⟩
 ·exact .inr ⟨g,cap,cur,rfl,h6.look.1,h6.look.2,h1,h2,h3,h4⟩
theorem setRow{b:Nat}{c c':Array Value}{T:TypeId}{fz:Nat×Nat}(h:St w0 (bI b (.cells c T fz)::L) w):
 St w0 (bI b (.cells c' T fz)::L) (w.setRow b c'):=
 h.upd rfl rfl rfl aj (setRow_heap w b c c' T fz h.look.2) fun k hk=>setRow_other w b k c' hk
theorem aC(h:St w0 L w)(hb:Below w.heap.size w w'):St w0 L w':=by
 refine⟨hb.os.trans h.os,hb.tape.trans h.tape,hb.output.trans h.output,Nat.le_trans h.size hb.size,fun k hk=>?_,?_⟩
 ·rw[hb.block k (Nat.lt_of_lt_of_le hk h.size)];exact h.block k hk
 ·obtain⟨x,hx,c⟩:=h.own;refine⟨x,fun k o hk=>?_,c⟩;have :=hx k o hk;exact⟨this.1,by rw[hb.block k (Array.getElem?_eq_some_iff.1 this.2).1];exact this.2⟩
end St
theorem qq{P:Program}{w0 w:World}{L:List HP}(t ty e:TypeId)(i:TypeInfo)(z:Value)(size bytes:Nat)(ht:P.underlying t=some (.slice e))(hi:P.info? e=some i)(hz:i.zero=some z)(X1:i.size=size)(Yv:i.bytes=bytes)(Qh:z.cells.size=size){v:Value}{n:Nat}{xs:List Value}(h:St w0 (ke e size v n xs::L) w)(a:Addr)(m c:Nat)(news:List Value)(hl:news.length=m *size)(pB:cr w a news)(h1:∀u∈news,u.oneCell'=true)(h63:n+m<=maxLen)(Nk:(n+m)*bytes<=140737488355328):
 ∃v' w',(Builtin.append_ #[t,t] ty #[v,.slice (some a) m c]).run P w=.ok v' w'/\St w0 (ke e size v' (n+m) (xs++news)::L) w':=by
 subst X1;subst Yv;have abW:n+m<=9223372036854775807:=by simp only[maxLen]at h63;omega
 have rZ:=h.wS;have fresh:∀(La:Nat),St w0 L w->St w0 (ke e i.size (.slice (some ⟨w.heap.size,0,none⟩) (n+m) (grownCap w (n+m) La e)) (n+m) (xs++news)::L)
  (w.drew.alloc (.cells (xs.toArray++news.toArray++Builtin.zeroCells z.cells (grownCap w (n+m) La e-(n+m))) e)):=by
  intro La hL;refine(hL.drew.alloc _).kx (grownCap_ge w (n+m) La e) (grownCap_le_maxLen w (n+m) La e h63) ?_ ?_
  ·have Da:=grownCap_ge w (n+m) La e;simp only[Array.size_append,List.size_toArray,size_zeroCells,Qh,rZ,hl,<-Nat.add_mul];congr 1;omega
  ·simp only[Array.toList_append,aL];rw[<-aL,show(n+m)*i.size=(xs++news).length by rw[aX,rZ,hl,Nat.add_mul]];exact List.take_left
 rcases h.cH with⟨rfl,rfl,rfl,hL⟩|⟨g,cap,cur,rfl,vf,vq,kJ,fe,_,hblk⟩
 ·by_cases hm:m=0
  ·subst hm;obtain rfl:news=[]:=List.eq_nil_of_length_eq_zero ZY;refine⟨.slice none 0 0,w,?_,hL.B4⟩;simp[Builtin.append_,run_underlying ht,Go.sizeOf,typeInfo,hi,Builtin.lenOf,Builtin.firstCells,loadCells,loadCellsFrom]
  ·have hr:=run_append_nil (P:=P) w t ty e i z ht hi hz a m c news hl pB ae ae (by have hb:=Nk;simp only[Nat.zero_add]at hb;omega);have hf:=fresh 0 hL;simp only[Nat.zero_add,List.nil_append,Array.empty_append]at hf ⊢;exact⟨_,_,hr,hf⟩
 ·by_cases lD:n+m<=cap
  ·have nh:n *i.size+news.length<=cur.size:=by rw[hl,kJ,<-Nat.add_mul];exact Nat.mul_le_mul_right _ lD
   have hr:=run_append_room (P:=P) w t ty e i ht hi g n cap cur hblk.look.2 a m c news hl pB h1 lD nh;refine⟨_,_,hr,hblk.setRow.kx lD vq ?_ ?_⟩
   ·simp only[List.size_toArray,aX,bA,bu,Array.length_toList];omega
   ·simp only[aL];rw[fe,<-aL,show(n+m)*i.size=(xs++news).length by rw[aX,rZ,hl,Nat.add_mul]];exact List.take_left
  ·have holds:∀j u,xs[j]? =some u->w.cell? ((⟨g,0,none⟩:Addr).add j)=some u:=h.x8.cells (g:=g) rfl;have hr:=run_append_grow (P:=P) w t ty e i z ht hi hz ⟨g,0,none⟩ n cap xs rZ holds a m c news hl pB ae ae (growslice_fits ae Nk);exact⟨_,_,hr,fresh cap hblk.drop⟩
section
variable {P:Program} {ops:Array Oper} {Q:Exit->Act->World->Prop} {rest:List Oper} {a:Act} {w w':World} {d:Option Tmp} {ty:TypeId} {pos:String} {after:Array Edge} {args:Array Operand} {argTypes:Array TypeId} {v:Value}
theorem Pc{o:Oper}(hw:Region.wanted o (yielded ops a.tmps)=true)(hr:(execOp a.eval o).run P w=.ok (.value v) w')(h:∀K:Act->World->Prop,(∀a w,wpList P ops Q rest a w->K a w)->K (a.put o.dst v) w'):wpList P ops Q (o::rest) a w:=by
 refine wpList_step fun K hK=>?_
 rw[if_pos hw,Oper.wp,hr];exact h K hK
end
end WB
namespace WB
open Go Go.RowKit
def gy (a b:ak):Int:=Lib.compareBytes a.data.toList b.data.toList
theorem flat_get{α β:Type}(f:α->List β)(sz:Nat)(hf:∀x,(f x).length=sz)(d:α):∀(l:List α) (i k:Nat),i<l.length->k<sz->(l.flatMap f)[i *sz+k]? =(f (l.getD i d))[k]?
 |[],i,k,h,_=>by simp at h
 |x::l,0,k,_,hk=>by
  simp only[aR,Nat.zero_mul,Nat.zero_add,List.getD_cons_zero];rw[List.getElem?_append_left (by rw[hf];exact hk)]
 |x::l,i+1,k,h,hk=>by
  simp only[aR,List.getD_cons_succ];rw[aY (by rw[hf,Nat.succ_mul];omega),hf,show(i+1)*sz+k-sz=i *sz+k by rw[Nat.succ_mul];omega];exact flat_get f sz hf d l i k H4 hk
theorem kl{α β:Type}(f:α->List β)(sz:Nat)(hf:∀x,(f x).length=sz):∀(l:List α),(l.flatMap f).length=l.length *sz
 |[]=>by simp
 |x::l=>by simp only[aR,aX,List.length_cons,hf,kl f sz hf l,Nat.succ_mul];omega
structure Nm where
 name:ak
 jz:ak
 ck:Int
instance:Inhabited Nm:=⟨⟨⟨#[]⟩,⟨#[]⟩,0⟩⟩
def Nm.cells (x:Nm):List Value:=[.string x.name,.string x.jz,.int .i64 x.ck]
def cj (l:List Nm):List Value:=l.flatMap Nm.cells
def dW (l:List Nm) (i:Nat):Nm:=l.getD i default
theorem u4(l:List Nm):(cj l).length=l.length *3:=kl _ 3 (fun _=>rfl) l
theorem ly{w0 w:World}{L:List HP}{E:TypeId}{g cap n:Nat}{l:List Nm}(h:St w0 (ke E 3 (.slice (some ⟨g,0,none⟩) n cap) n (cj l)::L) w){i:Nat}(hi:i<l.length):
 w.cell? ⟨g,i *3,none⟩=some (.string (dW l i).name)/\w.cell? ⟨g,i *3+1,none⟩=some (.string (dW l i).jz)/\w.cell? ⟨g,i *3+2,none⟩=some (.int .i64 (dW l i).ck):=by
 have hl:=h.wS;rw[u4]at hl;have key:∀k,k<3->w.cell? ⟨g,i *3+k,none⟩=(dW l i).cells[k]? :=fun k hk=>by
  rw[h.x8.cellAt _ ae];exact flat_get _ 3 (fun _=>rfl) default l i k hi hk
 exact⟨key 0 ae,key 1 ae,key 2 ae⟩
theorem Below.cells{w w':World}(h:Below w.heap.size w w'){p:Addr}{v:Value}(hc:w.cell? p=some v):w'.cell? p=some v:=(Ext.bW h).cell hc
structure H6 (l:List Nm) (s:ak) (k:Nat):Prop where
 le:k<=l.length
 lo:∀p,p<k->gy (dW l p).name s<0
 hi:∀p,k<=p->p<l.length->0<=gy (dW l p).name s
def C7 (l:List Nm) (s:ak):Prop:= ∀p q,p<=q->q<l.length->gy (dW l q).name s<0->gy (dW l p).name s<0
def eN (l:List Nm) (s:ak) (k:Nat):Bool:=decide (k<l.length)&&(gy (dW l k).name s==0)
theorem fj{a b:Bool}(h:a=b):Ending.returned (.bool a)=.returned (.bool b):=by rw[h]
def pI:ak:=⟨#[97,98,99,100,101,102,103,104,105,106,107,108,109,110,111,112,113,114,115,116,117,118,119,120,121,122,48,49,50,51,52,53,54,55,56,57]⟩
def isLet (c:UInt8):Bool:=(97<=c&&c<=122)||(48<=c&&c<=57)
def gS (s:ak):Bool:=s.data.toList.all isLet
def du (s:ak) (vQ:Nat):Bool:=decide (1<=s.size)&&(decide (s.size<=vQ)&&gS s)
theorem CF(c:UInt8):pI.data.toList.contains c=isLet c:=by
 have h:∀n:Fin 256,pI.data.toList.contains (UInt8.ofNat n.val)=isLet (UInt8.ofNat n.val):=by decide+kernel
 have :=h ⟨c.toNat,c.toNat_lt⟩;simpa using this
theorem dropWhile_nil{α:Type}{p:α->Bool}:∀{l:List α},l.dropWhile p=[]↔l.all p=true
 |[]=>by simp
 |a::l=>by
  by_cases h:p a=true
  ·simp only[List.dropWhile_cons,h,if_true,List.all_cons,Bool.true_and];exact dropWhile_nil
  ·simp[h]
theorem Jk(s:ak):Lib.trimS s.data.toList pI.data.toList=[]↔gS s=true:=by
 have hp:(fun c=>pI.data.toList.contains c)=isLet:=funext CF;have fg:∀l:List UInt8,(l.dropWhile isLet).all isLet=true↔l.all isLet=true:=fun l=>by
  induction l with
  |nil=>simp
  |cons a l ih=>
   by_cases h:isLet a=true
   ·simp[h,<-ih]
   ·simp[h]
 unfold Lib.trimS Lib.trimLeftS Lib.trimRightS gS;rw[hp,dropWhile_nil,List.all_reverse,fg,List.all_reverse]
def c6 (s:ak):Bool:=du s 8
def ko (s:ak):Bool:=du s 12
def ie (s:ak):Bool:=s.toList.isEmpty
def cc (x:Nm):Bool:=c6 x.name&&(decide (-1<=x.ck)&&(decide (x.ck<=3)&&(c6 x.jz||(ie x.jz&&x.ck== -1))))
end WB
namespace Go.Proofs.YtjhogocabcdjbabGreatDoor
open Tryz
open Go Go.RowKit WB
theorem Bm(a b s:ak)(h:Int)(w:World):
 Calls prog 248 #[.agg #[.string a,.string b,.int .i64 h],.string s] w fun e w'=>e=.returned (.int .i64 (gy a s))/\Below w.heap.size w w':=by
 go_enter func248,ntmps248
 go_wp2_with (go_at_call 249;refine(Tryz.strings_Compare _ _ _).mono ?_;rintro e w' ⟨rfl,rfl⟩)
 go_ret
 exact⟨rfl,(Below.refl _ _).alloc (aF _) _⟩
def aak (l:List Nm) (s:ak) (w:World) (i j:Value) (wr:World):Prop:=
 ∃p q:Nat,p<=q/\q<=l.length/\i=.int .i64 p/\j=.int .i64 q/\(∀k,k<p->gy (dW l k).name s<0)/\(∀k,q<=k->k<l.length->0<=gy (dW l k).name s)/\Below w.heap.size w wr
def H_ (l:List Nm) (s:ak) (w:World) (e:Ending) (w':World):Prop:=
 ∃k:Nat,H6 l s k/\e=.returned (.tuple #[.int .i64 k,.bool (eN l s k)])/\Below w.heap.size w w'
theorem NS(g n cap:Nat)(l:List Nm)(s:ak)(w w0:World)(L:List HP)(h:St w0 (ke 75 3 (.slice (some ⟨g,0,none⟩) n cap) n (cj l)::L) w)(zG:n<1000000)(EE:C7 l s):
 Calls prog 247 #[.slice (some ⟨g,0,none⟩) n cap,.string s,.func (.func 248) #[] #[]] w (H_ l s w):=by
 have hn:n=l.length:=by have :=h.wS;rw[u4]at this;omega
 have HN:=Lib.hid hn;have HS:=Lib.hid h;clear hn h
 go_enter func247,ntmps247
 go_wp2_with fail
 go_loopw [9,10] (fun i j wr=>aak l s w i j wr) (fun i j _=>(intOf j-intOf i).toNat)
 case atStart=>exact⟨0,n,by omega,by rw[HN.out];exact aF _,rfl,rfl,fun k hk=>by omega,fun k h1 h2=>by rw[<-HN.out]at h2;omega,Below.refl _ _⟩
 case round=>
  obtain⟨p,q,OV,hq,rfl,rfl,h1,h2,Kn⟩:=hrel;have SJ:q<=n:=by rw[HN.out];exact hq
  have H1:=Lib.hid h1;have H2:=Lib.hid h2;have HB:=Lib.hid Kn;clear h1 h2 Kn hq;by_cases dt:p<q
  ·have hm:(p+q)/2<n:=by omega
   obtain⟨c0,c1,c2⟩:=ly HS.out (i:=(p+q)/2) (by rw[<-HN.out];exact hm);have d0:=Below.cells HB.out c0;have d1:=Below.cells HB.out c1;have d2:=Below.cells HB.out c2;clear c0 c1 c2
   go_wp2_with fail
   refine(Bm _ _ _ _ _).mono ?_;rintro e w1 ⟨rfl,jQ⟩;have C8:=Lib.hid jQ;clear jQ d0 d1 d2;by_cases hc:gy (dW l ((p+q)/2)).name s<0
   ·have hd:decide (gy (dW l ((p+q)/2)).name s<0)=true:=by simpa using hc
    go_wp2_with fail
    go_roundw
    case rel=>
     refine⟨(p+q)/2+1,q,by omega,by rw[<-HN.out];exact SJ,by go_num,rfl,fun k hk=>?_,H2.out,HB.out.trans (C8.out.mono HB.out.size)⟩;exact EE k ((p+q)/2) ae (by rw[<-HN.out];exact hm) hc
    case measure=>simp[intOf];omega
   ·have hd:decide (gy (dW l ((p+q)/2)).name s<0)=false:=by simpa using hc
    go_wp2_with fail
    go_roundw
    case rel=>
     refine⟨p,(p+q)/2,by omega,by rw[<-HN.out];omega,rfl,by go_num,H1.out,fun k Ba Cn=>?_,HB.out.trans (C8.out.mono HB.out.size)⟩;exact Int.not_lt.1 fun hk=>absurd (EE _ k Ba Cn hk) (Int.not_lt.2 hc)
    case measure=>simp[intOf];omega
  ·obtain rfl:p=q:=by omega
   by_cases sM:p<n
   ·obtain⟨c0,c1,c2⟩:=ly HS.out (i:=p) (by rw[<-HN.out];exact sM);have d0:=Below.cells HB.out c0;have d1:=Below.cells HB.out c1;have d2:=Below.cells HB.out c2;clear c0 c1 c2
    go_wp2_with fail
    refine(Bm _ _ _ _ _).mono ?_;rintro e w1 ⟨rfl,jQ⟩;have C8:=Lib.hid jQ;clear jQ d0 d1 d2
    go_wp2_with fail
    go_ret2
    exact⟨p,⟨by rw[<-HN.out];omega,H1.out,H2.out⟩,by simp[eN,<-HN.out,sM],HB.out.trans (C8.out.mono HB.out.size)⟩
   ·go_wp2_with fail
    go_ret2
    exact⟨p,⟨by rw[<-HN.out];omega,H1.out,H2.out⟩,by simp[eN,<-HN.out,sM],HB.out⟩
theorem Rw(s:ak)(w:World):
 Calls prog 247 #[.slice none 0 0,.string s,.func (.func 248) #[] #[]] w (H_ [] s w):=by
 go_enter func247,ntmps247
 go_wp2_with fail
 refine wp_loop_rounds 1 ?_;rw[rounds_succ]
 go_wp2_with fail
 go_ret2
 exact⟨0,⟨by simp,fun p hp=>by omega,fun p _ hp=>by simp at hp⟩,by simp[eN],Below.refl _ _⟩
theorem nn(b off:Nat)(c:Array Value)(T:TypeId)(fz:Nat×Nat)(v:Value)(l:List Nm)(s:ak)(w w0:World)(L:List HP)(h:St w0 (bI b (.cells c T fz)::ke 75 3 v l.length (cj l)::L) w)(hc:c[off]? =some v)(zG:l.length<1000000)(EE:C7 l s):
 Calls prog 148 #[.pointer (some ⟨b,off,none⟩),.string s] w (H_ l s w):=by
 have h_:w.cell? ⟨b,off,none⟩=some v:=by rw[World.cell?,h.look.2];exact hc
 have HS:=Lib.hid h;clear h hc;rcases HS.out.drop.cH with⟨rfl,hz,hx,_⟩|⟨g,cap,cur,rfl,_⟩
 ·obtain rfl:l=[]:=List.eq_nil_of_length_eq_zero hz;clear hz hx
  go_enter func148,ntmps148
  go_wp2_with (go_at_call 247;refine(Rw _ _).mono ?_;rintro e w' ⟨k,hk,rfl,hb⟩)
  go_ret2
  exact⟨k,hk,rfl,hb⟩
 ·have lg:=NS g l.length cap l s w w0 L HS.out.drop zG EE;have HC:=Lib.hid lg;clear lg EE;generalize l.length=n at *
  go_enter func148,ntmps148
  go_wp2_with fail
  refine HC.out.mono ?_;rintro e w' ⟨k,hk,rfl,hb⟩
  go_wp2_with fail
  go_ret2
  exact⟨k,hk,rfl,hb⟩
theorem LJ(s:ak)(w:World)(hs:s.size<=9223372036854775807):
 Calls prog 239 #[.string s,.string pI] w fun e w'=>e=.returned (.string ⟨(Lib.trimS s.data.toList pI.data.toList).toArray⟩)/\Below w.heap.size w w':=
 Any.strings_Trim_laid Tryz.lays160 bC s pI w hs ai (ascii_of_all ai)
theorem u5(s:ak)(vQ:Nat)(w:World)(hs:s.size<=maxLen)(_hm:vQ<100):
 Calls prog 143 #[.string s,.int .i64 vQ] w fun e w'=>e=.returned (.bool (du s vQ))/\Below w.heap.size w w':=by
 have aT:s.size<=9223372036854775807:=by unfold maxLen at hs;exact hs
 clear hs;have ht:=LJ s w aT;have HT:=Lib.hid ht;have HN:=Lib.hid (Jk s);clear ht;by_cases h1:1<=s.size
 ·by_cases h2:s.size<=vQ
  ·have hd1:decide ((1:Int)<=(s.size:Int))=true:=by simp;omega
   have UK:decide ((s.size:Int)<=(vQ:Int))=true:=by simp;omega
   by_cases h3:gS s=true
   ·have iM:du s vQ=true:=by simp[du,h1,h2,h3]
    have HF:=Lib.hid iM;have HE:=Lib.hid (HN.out.2 h3);clear iM h3
    go_enter func143,ntmps143
    go_wp2_with fail
    refine HT.out.mono ?_;rintro e w' ⟨rfl,hb⟩;rw[HE.out]
    go_wp2_with fail
    go_ret
    exact⟨fj HF.out.symm,hb⟩
   ·have iM:du s vQ=false:=by simp[du,h3]
    have HF:=Lib.hid iM;have gh:Lib.trimS s.data.toList pI.data.toList≠[]:=fun h=>h3 (HN.out.1 h)
    obtain⟨x,xs,hx⟩:=List.exists_cons_of_ne_nil gh;have HE:=Lib.hid hx;clear iM h3 gh hx
    go_enter func143,ntmps143
    go_wp2_with fail
    refine HT.out.mono ?_;rintro e w' ⟨rfl,hb⟩;rw[HE.out]
    go_wp2_with fail
    go_ret
    exact⟨fj HF.out.symm,hb⟩
  ·have hd1:decide ((1:Int)<=(s.size:Int))=true:=by simp;omega
   have UK:decide ((s.size:Int)<=(vQ:Int))=false:=by simp;omega
   have iM:du s vQ=false:=by simp[du,h2]
   have HF:=Lib.hid iM;clear iM
   go_enter func143,ntmps143
   go_wp2_with fail
   go_ret
   exact⟨fj HF.out.symm,Below.refl _ _⟩
 ·have hd1:decide ((1:Int)<=(s.size:Int))=false:=by simp;omega
  have iM:du s vQ=false:=by simp[du,h1]
  have HF:=Lib.hid iM;clear iM
  go_enter func143,ntmps143
  go_wp2_with fail
  go_ret
  exact⟨fj HF.out.symm,Below.refl _ _⟩
theorem BM(s:ak)(b:Bool)(w:World)(hs:s.size<=maxLen)(hb:c6 s=b):
 Calls prog 240 #[.string s] w fun e w'=>e=.returned (.bool b)/\Below w.heap.size w w':=by
 subst hb;have H:=Lib.hid (u5 s 8 w hs ae)
 go_enter func240,ntmps240
 go_wp2_with fail
 refine H.out.mono ?_;rintro e w' ⟨rfl,hb⟩
 go_wp2_with fail
 go_ret
 exact⟨rfl,hb⟩
theorem Rx(s:ak)(b:Bool)(w:World)(hs:s.size<=maxLen)(hb:ko s=b):
 Calls prog 54 #[.string s] w fun e w'=>e=.returned (.bool b)/\Below w.heap.size w w':=by
 subst hb;have H:=Lib.hid (u5 s 12 w hs ae)
 go_enter func54,ntmps54
 go_wp2_with fail
 refine H.out.mono ?_;rintro e w' ⟨rfl,hb⟩
 go_wp2_with fail
 go_ret
 exact⟨rfl,hb⟩
theorem JA(x:Nm)(w:World)(h1:x.name.size<=maxLen)(h2:x.jz.size<=maxLen):
 Calls prog 267 #[.agg x.cells.toArray] w fun e w'=>e=.returned (.bool (cc x))/\Below w.heap.size w w':=by
 obtain⟨a,b,n⟩:=x;simp only at h1 h2
 show Calls prog 267 #[.agg #[.string a,.string b,.int .i64 n]] w _
 have W1:∀(v:Bool) (w:World),c6 a=v->Calls prog 240 #[.string a] w fun e w'=>e=.returned (.bool v)/\Below w.heap.size w w':=fun v w hv=>BM a v w h1 hv
 have W2:∀(v:Bool) (w:World),c6 b=v->Calls prog 240 #[.string b] w fun e w'=>e=.returned (.bool v)/\Below w.heap.size w w':=fun v w hv=>BM b v w h2 hv
 have H1:=Lib.hid W1;have H2:=Lib.hid W2;clear W1 W2 h1 h2;have Cq:Below w.heap.size w (w.alloc (.cells #[.string a,.string b,.int .i64 n] 75)):=(Below.refl _ _).alloc (aF _) _;have Xl:=Lib.hid Cq;clear Cq;cases hA:c6 a with
 |false=>
  have HF:=Lib.hid (show cc ⟨a,b,n⟩=false by simp[cc,hA]);have HA:=Lib.hid hA;clear hA
  go_enter func267,ntmps267
  go_wp2_with fail
  refine(H1.out _ _ HA.out).mono ?_;rintro e w1 ⟨rfl,jQ⟩;have C8:=Lib.hid (Xl.out.trans (jQ.mono aj));clear jQ
  go_wp2_with fail
  go_ret
  exact⟨fj HF.out.symm,C8.out⟩
 |true=>
  have HA:=Lib.hid hA;by_cases zH:n< -1
  ·have HF:=Lib.hid (show cc ⟨a,b,n⟩=false by simp[cc];omega);have hd:decide (n< -1)=true:=by simpa using zH
   clear hA zH
   go_enter func267,ntmps267
   go_wp2_with fail
   refine(H1.out _ _ HA.out).mono ?_;rintro e w1 ⟨rfl,jQ⟩;have C8:=Lib.hid (Xl.out.trans (jQ.mono aj));obtain⟨c0,c1,c2⟩:w1.cell? ⟨w.heap.size,0,none⟩=some (.string a)/\w1.cell? ⟨w.heap.size,1,none⟩=some (.string b)/\w1.cell? ⟨w.heap.size,2,none⟩=some (.int .i64 n):=
    ⟨Below.cells jQ aj,Below.cells jQ aj,Below.cells jQ aj⟩
   clear jQ
   go_wp2_with fail
   go_ret
   exact⟨fj HF.out.symm,C8.out⟩
  ·by_cases zG:n>=4
   ·have HF:=Lib.hid (show cc ⟨a,b,n⟩=false by simp[cc];omega);have hd:decide (n< -1)=false:=by simpa using zH
    have UK:decide ((4:Int)<=n)=true:=by simpa using zG
    clear hA zH zG
    go_enter func267,ntmps267
    go_wp2_with fail
    refine(H1.out _ _ HA.out).mono ?_;rintro e w1 ⟨rfl,jQ⟩;have C8:=Lib.hid (Xl.out.trans (jQ.mono aj));obtain⟨c0,c1,c2⟩:w1.cell? ⟨w.heap.size,0,none⟩=some (.string a)/\w1.cell? ⟨w.heap.size,1,none⟩=some (.string b)/\w1.cell? ⟨w.heap.size,2,none⟩=some (.int .i64 n):=
     ⟨Below.cells jQ aj,Below.cells jQ aj,Below.cells jQ aj⟩
    clear jQ
    go_wp2_with fail
    go_ret
    exact⟨fj HF.out.symm,C8.out⟩
   ·have hd:decide (n< -1)=false:=by simpa using zH
    have UK:decide ((4:Int)<=n)=false:=by simpa using zG
    cases hB:c6 b with
    |true=>
     have HF:=Lib.hid (show cc ⟨a,b,n⟩=true by simp[cc,hA,hB];omega);have HB:=Lib.hid hB;clear hA zH zG hB
     go_enter func267,ntmps267
     go_wp2_with fail
     refine(H1.out _ _ HA.out).mono ?_;rintro e w1 ⟨rfl,jQ⟩;have C8:=Lib.hid (Xl.out.trans (jQ.mono aj));obtain⟨c0,c1,c2⟩:w1.cell? ⟨w.heap.size,0,none⟩=some (.string a)/\w1.cell? ⟨w.heap.size,1,none⟩=some (.string b)/\w1.cell? ⟨w.heap.size,2,none⟩=some (.int .i64 n):=
      ⟨Below.cells jQ aj,Below.cells jQ aj,Below.cells jQ aj⟩
     clear jQ
     go_wp2_with fail
     refine(H2.out _ _ HB.out).mono ?_;rintro e w2 ⟨rfl,jC⟩;have zN:=Lib.hid (C8.out.trans (jC.mono C8.out.size));clear jC
     go_wp2_with fail
     go_ret
     exact⟨fj HF.out.symm,zN.out⟩
    |false=>
     have HB:=Lib.hid hB;cases hE:ie b with
     |false=>
      have HF:=Lib.hid (show cc ⟨a,b,n⟩=false by simp[cc,hB,hE]);have OZ:b.toList.isEmpty=false:=hE;have ei:(b.toList==[])=false:=by simpa[ie]using hE
      clear hA zH zG hB hE
      go_enter func267,ntmps267
      go_wp2_with fail
      refine(H1.out _ _ HA.out).mono ?_;rintro e w1 ⟨rfl,jQ⟩;have C8:=Lib.hid (Xl.out.trans (jQ.mono aj));obtain⟨c0,c1,c2⟩:w1.cell? ⟨w.heap.size,0,none⟩=some (.string a)/\w1.cell? ⟨w.heap.size,1,none⟩=some (.string b)/\w1.cell? ⟨w.heap.size,2,none⟩=some (.int .i64 n):=
       ⟨Below.cells jQ aj,Below.cells jQ aj,Below.cells jQ aj⟩
      clear jQ
      go_wp2_with fail
      refine(H2.out _ _ HB.out).mono ?_;rintro e w2 ⟨rfl,jC⟩;have zN:=Lib.hid (C8.out.trans (jC.mono C8.out.size));have d0:=Below.cells jC c0;have d1:=Below.cells jC c1;have d2:=Below.cells jC c2;clear jC c0 c1 c2
      go_wp2_with fail
      go_ret
      exact⟨fj HF.out.symm,zN.out⟩
     |true=>
      have p1:decide (-1<=n)=true:=by simp;omega
      have p2:decide (n<=3)=true:=by simp;omega
      have HF:=Lib.hid (show cc ⟨a,b,n⟩=(n== -1)by simp only[cc,hA,hB,hE,p1,p2,Bool.true_and,Bool.false_or]);clear p1 p2;have OZ:b.toList.isEmpty=true:=hE;have ei:b.toList=[]:=by simpa[ie]using hE
      clear hA zH zG hB hE
      go_enter func267,ntmps267
      go_wp2_with fail
      refine(H1.out _ _ HA.out).mono ?_;rintro e w1 ⟨rfl,jQ⟩;have C8:=Lib.hid (Xl.out.trans (jQ.mono aj));obtain⟨c0,c1,c2⟩:w1.cell? ⟨w.heap.size,0,none⟩=some (.string a)/\w1.cell? ⟨w.heap.size,1,none⟩=some (.string b)/\w1.cell? ⟨w.heap.size,2,none⟩=some (.int .i64 n):=
       ⟨Below.cells jQ aj,Below.cells jQ aj,Below.cells jQ aj⟩
      clear jQ
      go_wp2_with fail
      refine(H2.out _ _ HB.out).mono ?_;rintro e w2 ⟨rfl,jC⟩;have zN:=Lib.hid (C8.out.trans (jC.mono C8.out.size));have d0:=Below.cells jC c0;have d1:=Below.cells jC c1;have d2:=Below.cells jC c2;clear jC c0 c1 c2
      go_wp2_with fail
      go_ret
      exact⟨fj HF.out.symm,zN.out⟩
open Go Go.RowKit Go.Extern.Stop Go.Stop Go.Extern WB
def abe (w:World):Prop:=w.cell? ⟨5,0,none⟩=some (.iface 367 (.agg #[.pointer (some ⟨10,31,none⟩)]))
end Go.Proofs.YtjhogocabcdjbabGreatDoor
namespace WB
open Go Go.RowKit
theorem eQ{P:Program}(w:World)(dT sT ty elem:TypeId)(i:TypeInfo)(g o Ve adF:Nat)(a:Addr)(oM zQ:Nat)(cur:Array Value)(t:TypeId)(cs:List Value)(hu:P.underlying dT=some (.slice elem))(hi:P.info? elem=some i)(hg:w.heap[g]? =some (.cells cur t (0,0)))(hn:cs.length=Nat.min oM Ve *i.size)(Ul:cr w a cs)(nh:o+cs.length<=cur.size)(h1:∀v∈cs,v.oneCell'=true):
 (Builtin.copy_ #[dT,sT] ty #[.slice (some ⟨g,o,none⟩) Ve adF,.slice (some a) oM zQ]).run P w=
  .ok (goInt (Nat.min oM Ve:Nat)) (w.setRow g (cur.toList.take o++cs++cur.toList.drop (o+cs.length)).toArray):=by
 have hl:=run_loadCells_list (P:=P) (w:=w) a cs Ul;have kj:=run_storeCells_at P g o t cs 0 cur w hg (by simpa using nh) h1;simp only[Nat.add_zero]at kj;simp[Builtin.copy_,run_underlying hu,Builtin.lenOf,Builtin.firstCells,Go.sizeOf,typeInfo,hi,<-hn,hl,kj]
theorem mV{P:Program}(w:World)(t tn ty e:TypeId)(i:TypeInfo)(z:Value)(k kn:IntKind)(ht:P.underlying t=some (.slice e))(XX:P.underlying tn=some (.int kn))(hi:P.info? e=some i)(hz:i.zero=some z)(b:Addr)(oM zQ:Nat)(P0:List Value)(IK:P0.length=oM *i.size)(holds:cr w b P0)(n:Nat)(h0:0<n)(hs:0<i.size)(hg:zQ<oM+n)(h63:((oM+n:Nat):Int)<=9223372036854775807)(nh:Builtin.nextslicecap (oM+n) zQ *i.bytes<=281474976710656)(h48:n *i.bytes<=281474976710656):
 (Builtin.append_ #[t,tn] ty #[.slice (some b) oM zQ,.int k n]).run P w=
  .ok (.slice (some ⟨w.heap.size,0,none⟩) (oM+n) (grownCap w (oM+n) zQ e))
   (w.drew.alloc (.cells (P0.toArray++Builtin.zeroCells z.cells n++Builtin.zeroCells z.cells (grownCap w (oM+n) zQ e-(oM+n))) e)):=by
 have hn:n≠0:=by omega
 have zG:¬(oM+n<=zQ):=by omega
 have hw:IntKind.i64.wrap (n:Int)=n:=by rw[IntKind.wrap_i64];omega
 have adh:¬(9223372036854775807<((oM:Int)+(n:Int))):=by omega
 have adk:¬(281474976710656<Builtin.nextslicecap (oM+n) zQ *i.bytes):=by omega
 have adj:¬(281474976710656<(n:Int)*(i.bytes:Int)):=by
  rw[<-Int.natCast_mul];omega
 have acg:¬((n:Int)<0):=by omega
 have Lf:¬(n *i.size=0):=Nat.mul_ne_zero hn ae;have hfo:=run_firstCells_some (P:=P) w.drew i.size oM b oM zQ P0 IK (by simpa[cr]using holds);simp[Builtin.append_,run_underlying ht,run_underlying XX,Go.sizeOf,typeInfo,zeroValue,hi,hz,asInt,asIntOf,hw,zG,acg,Lf,adh,adk,adj,Question.forced,hfo,newRow,grownCap]
namespace St
variable {w0 w:World} {L:List HP} {b b':Nat} {c c':Array Value} {T T':TypeId}
theorem frozen(h:St w0 (bI b (.cells c T (0,0))::L) w)(o:Nat):w.frozen? ⟨b,o,none⟩=false:=by
 simp[World.frozen?,h.look.2]
theorem shape(h:St w0 (bI b (.cells c T (0,0))::L) w):w.shape? b=some (T,c.size):=by
 simp[World.shape?,h.look.2]
theorem eJ{fz:Nat×Nat}(h:St w0 (bI b (.cells c T fz)::L) w){off:Nat}{cs:List Value}(hc:∀(j:Nat) (v:Value),cs[j]? =some v->c[off+j]? =some v):cr w ⟨b,off,none⟩ cs:=fun j v hj=>by
 rw[Addr.add_lit,World.cell?,h.look.2];exact hc j v hj
theorem f_{A B:HP}(h:St w0 (A::B::L) w):St w0 (B::A::L) w:=h.pick (.tail .head)
end St
theorem uZ{P:Program}{w0 w:World}{L:List HP}{b b':Nat}{c c':Array Value}{T T':TypeId}(t tR e:TypeId)(i:TypeInfo)(ht:P.underlying t=some (.slice e))(hi:P.info? e=some i)(h:St w0 (bI b (.cells c T (0,0))::bI b' (.cells c' T' (0,0))::L) w)(o n cap o' n' nz:Nat)(hc':c'.size≠0):
 (Extern.SlicesOverlaps.overlaps #[t,t] #[tR] #[.slice (some ⟨b,o,none⟩) n cap,.slice (some ⟨b',o',none⟩) n' nz]).run P w=.ok (.bool false) w:=
 Lib.run_overlaps_apart w t tR e ht i.size (fun w=>by simp[Go.sizeOf,typeInfo,hi]) ⟨b,o,none⟩ ⟨b',o',none⟩ n cap n' nz h.ne T T' c.size c'.size h.shape h.drop.shape hc' (h.frozen o) (h.frozen _)
section
variable {P:Program} {ops:Array Oper} {Q:Exit->Act->World->Prop} {a a':Act} {w w':World} {o:Oper} {v:Value}
theorem lH(d s:Operand)(t t':TypeId)(ho:o.op=.call ⟨.builtin .copy,#[d,s],#[t,t']⟩)(x u:Value)(hd:a.eval d=x)(hs:a.eval s=u)(hr:(Builtin.copy_ #[t,t'] o.type #[x,u]).run P w=.ok v w'):(execOp a.eval o).run P w=.ok (.value v) w':=by
 unfold execOp;simp only[ho,resolve,invoke,builtin,Sem.run_bind,Sem.run_pure,Result.andThen_ok,List.map_toArray,aJ,List.map_nil,hd,hs,hr]
theorem kT(d s:Operand)(t t':TypeId)(ho:o.op=.call ⟨.builtin .append,#[d,s],#[t,t']⟩)(x u:Value)(hd:a.eval d=x)(hs:a.eval s=u)(hr:(Builtin.append_ #[t,t'] o.type #[x,u]).run P w=.ok v w'):(execOp a.eval o).run P w=.ok (.value v) w':=by
 unfold execOp;simp only[ho,resolve,invoke,builtin,Sem.run_bind,Sem.run_pure,Result.andThen_ok,List.map_toArray,aJ,List.map_nil,hd,hs,hr]
theorem r7{rest:List Oper}(hg:o.guard=none)(d s:Operand)(t t':TypeId)(ho:o.op=.call ⟨.builtin .copy,#[d,s],#[t,t']⟩)(x u:Value)(hd:a.eval d=x)(hs:a.eval s=u)(hr:(Builtin.copy_ #[t,t'] o.type #[x,u]).run P w=.ok v w')(h:∀K:Act->World->Prop,(∀a w,wpList P ops Q rest a w->K a w)->K (a.put o.dst v) w'):wpList P ops Q (o::rest) a w:=
 Pc (by simp[Region.wanted,hg]) (lH d s t t' ho x u hd hs hr) h
variable {rest:List (Kd×Oper)}
theorem kN(hw:Region.wanted o (yielded ops a.tmps)=true)(hr:(execOp a.eval o).run P w=.ok (.value v) w')(hp:a.put o.dst v=a')(h:ij P ops Q rest a' w'):ij P ops Q ((.write,o)::rest) a w:=by
 rw[dZ hw,Oper.wp,hr];show ij P ops Q rest (a.put o.dst v) w';rw[hp];exact h
theorem qG(hw:Region.wanted o (yielded ops a.tmps)=true)(hr:(execOp a.eval o).run P w=.ok .skip w')(hp:a.put o.dst undef=a')(h:ij P ops Q rest a' w'):ij P ops Q ((.write,o)::rest) a w:=by
 rw[dZ hw,Oper.wp,hr];show ij P ops Q rest (a.put o.dst undef) w';rw[hp];exact h
theorem Dw(hw:Region.wanted o (yielded ops a.tmps)=true)(hr:(execOp a.eval o).run P w=.ok (.value v) w')(he:Ext w w')(hp:a.put o.dst v=a')(h:ij P ops Q rest a' w'):ij P ops Q ((.c7,o)::rest) a w:=by
 rw[gC hw,Oper.wp,hr];refine⟨he,?_⟩;rw[hp];exact h
end
theorem jT{P:Program}{w0 w:World}{L:List HP}{b off:Nat}{c:Array Value}{T E:TypeId}{v:Value}(h:St w0 (bI b (.cells c E (0,0))::L) w)(hn:(Go.sizeOf T).run P w=.ok v.cells.size w)(nh:off+v.cells.size<=c.size)(h1:∀u∈v.cells.toList,u.oneCell'=true):
 (storeVar T ⟨b,off,none⟩ v).run P w=.ok () (w.setRow b (c.toList.take off++v.cells.toList++c.toList.drop (off+v.cells.toList.length)).toArray):=by
 have kj:=run_storeCells_at P b off E v.cells.toList 0 c w h.look.2 (by simpa using nh) h1;simp only[Nat.add_zero]at kj;simp[storeVar,hn,kj]
theorem mS{α:Type}(cur ins:List α)(k m n c:Nat)(hk:k<=n)(hm:ins.length=m)(hn:n+m<=c)(hc:cur.length=c):
 let c1:=cur.take (k+m)++((cur.take n).drop k)++cur.drop (n+m)
 (c1.take k++ins++c1.drop (k+m)).take (n+m)=(cur.take n).take k++ins++(cur.take n).drop k:=by
 intro c1;have h1:c1.take k=cur.take k:=by
  simp only[c1,aL];rw[List.take_append_of_le_length fx,List.take_take,Nat.min_eq_left ae]
 have h2:c1.drop (k+m)=(cur.take n).drop k++cur.drop (n+m):=by
  simp only[c1,aL];rw[List.drop_append_of_le_length fx,List.drop_of_length_le fx,List.nil_append]
 rw[h1,h2,List.take_take,Nat.min_eq_left hk];rw[<-aL,List.take_append_of_le_length fx];exact List.take_of_length_le fx
theorem vx{α:Type}(A Z vs D:List α)(k m d:Nat)(hA:A.length=k)(hv:vs.length=m)(hD:D.length=d):
 let C0:=A++Z;let C1:=C0.take k++vs++C0.drop (k+m)
 (C1.take (k+m)++D++C1.drop (k+m+d)).take (k+m+d)=A++vs++D:=by
 intro C0 C1;have h0:C0.take k=A:=by simp only[C0];rw[<-hA];exact List.take_left
 have h1:C1.take (k+m)=A++vs:=by
  simp only[C1,h0];rw[show k+m=(A++vs).length by simp[hA,hv]];exact List.take_left
 rw[h1,show k+m+d=(A++vs++D).length by simp[hA,hv,hD];omega];exact List.take_left
end WB
namespace WB
open Go Go.RowKit
namespace St
variable {w0 w:World} {L R:List HP} {b off:Nat} {c:Array Value} {T:TypeId} {fz:Nat×Nat} {v:Value}
theorem cell(h:St w0 (bI b (.cells c T fz)::L) w)(hc:c[off]? =some v):w.cell? ⟨b,off,none⟩=some v:=by
 rw[World.cell?,h.look.2];exact hc
theorem NM(h:St w0 L w)(p:bF L (bI b (.cells c T fz)) R)(hc:c[off]? =some v):w.cell? ⟨b,off,none⟩=some v:=(h.pick p).cell hc
end St
theorem Dx{P:Program}{ops:Array Oper}{Q:Exit->Act->World->Prop}{rest:List (Kd×Oper)}{o:Oper}{a a':Act}{w w':World}{v:Value}(hw:Region.wanted o (yielded ops a.tmps)=true)(hr:(execOp a.eval o).run P w=.ok (.value v) w')(he:Ext w w')(hp:a.put o.dst v=a')(h:ij P ops Q rest a' w'):ij P ops Q ((.c7,o)::rest) a w:=Dw hw hr he hp h
theorem Ext.alloc(w:World)(o:Obj):Ext w (w.alloc o):=⟨by simp,fun k hk=>Below.heap_alloc _ _ _ hk⟩
theorem zO{P:Program}{ops:Array Oper}{Q:Exit->Act->World->Prop}{rest:List (Kd×Oper)}{o:Oper}{a:Act}{w w':World}{f:FuncId}{args:Array Value}{R:Ending->World->Prop}(hw:Region.wanted o (yielded ops a.tmps)=true)(hr:(execOp a.eval o).run P w=.ok (.enter f args) w')(hc:Calls P f args w' R)(h:∀e rX,R e rX->∃v,e=.returned v/\ij P ops Q rest (a.put o.dst v) rX):ij P ops Q ((.write,o)::rest) a w:=by
 rw[dZ hw,Oper.wp,hr];refine hc.mono fun e rX hR=>?_
 obtain⟨v,rfl,hv⟩:=h e rX hR;exact hv
theorem yU{P:Program}{a:Act}{w w':World}{d:Option Tmp}{T ty:TypeId}{x y:Operand}{pos:String}{after:Array Edge}{g:Option (Nat×Bool)}{ad:Addr}{v:Value}(ha:a.eval x=.pointer (some ad))(hv:a.eval y=v)(hr:(storeVar T ad v).run P w=.ok () w'):(execOp a.eval ⟨d,.store T x y,ty,pos,after,g⟩).run P w=.ok .skip w':=by
 simp[execOp,ha,hv,Instr.storeAt,Instr.sureAddr,hr]
theorem xI{c:Array Value}{off:Nat}{v:Value}(h:c[off]? =some v):c.setIfInBounds off v=c:=by
 apply Array.ext
 ·simp
 ·intro i h1 h2;rw[Array.getElem_setIfInBounds];split
  ·rename_i e;subst e;rw[Array.getElem?_eq_getElem h2]at h;exact(Option.some.inj h).symm
  ·rfl
theorem F3{c:Array Value}{off:Nat}{v:Value}(h:off<c.size):(c.toList.take off++[v]++c.toList.drop (off+1)).toArray=c.setIfInBounds off v:=by
 apply Array.ext';simp[List.set_eq_take_append_cons_drop,h]
theorem DH{α:Type}(cur ins:List α)(k m n:Nat)(hi:ins.length=m)(h:k+m<=n)(hn:n<=cur.length):
 (cur.take k++ins++cur.drop (k+m)).take n=(cur.take n).take k++ins++(cur.take n).drop (k+m):=by
 have h1:(cur.take k++ins).length=k+m:=by simp[hi];omega
 rw[List.take_append,h1,List.take_of_length_le ae,List.take_take,Nat.min_eq_left ae,List.drop_take]
def bK (l:List Nm) (s:ak):Nat:=(l.takeWhile fun x=>decide (gy x.name s<0)).length
theorem gW{α:Type}(p:α->Bool):∀l:List α,(l.takeWhile p).length<=l.length
 |[]=>aF _
 |a::l=>by
  by_cases h:p a=true
  ·simp only[List.takeWhile_cons,h,if_true,List.length_cons];have :=gW p l;omega
  ·simp[h]
theorem jS:∀{l:List Nm} {s:ak} {k:Nat},H6 l s k->k=bK l s
 |[],s,k,h=>by have :=h.le;simp at this;subst this;rfl
 |x::l,s,k,h=>by
  unfold bK;by_cases hx:gy x.name s<0
  ·simp only[List.takeWhile_cons,hx,decide_true,if_true,List.length_cons];cases k with
   |zero=>exact absurd hx (Int.not_lt.2 (h.hi 0 (aF _) aj))
   |succ k=>
    have :H6 l s k:=⟨by have :=h.le;simp at this;omega,fun p hp=>h.lo (p+1) ae,fun p hp hl=>h.hi (p+1) ae fx⟩;rw[jS this];rfl
  ·simp only[List.takeWhile_cons,hx,decide_false];cases k with
   |zero=>rfl
   |succ k=>exact absurd (h.lo 0 ae) hx
def cG (l:List Nm) (x:Nm):Int:=
 if cc x=false then 1 else if eN l x.name (bK l x.name)=true then 0 else if 20<=l.length then 12 else 0
def ew (l:List Nm) (x:Nm):List Nm:=
 if cc x=false then l else if eN l x.name (bK l x.name)=true then l.set (bK l x.name) x
 else if 20<=l.length then l else l.take (bK l x.name)++x::l.drop (bK l x.name)
def cI (T:TypeId) (k:Int):Value:=if k=0 then .nilIface else .iface T (.int .i64 k)
theorem lh{α β:Type}(f:α->List β)(sz:Nat)(hf:∀x,(f x).length=sz):∀(l:List α) (k:Nat),k<=l.length->(l.flatMap f).take (k *sz)=(l.take k).flatMap f
 |l,0,_=>by simp
 |[],k+1,h=>by simp at h
 |x::l,k+1,h=>by
  simp only[aR,List.take_succ_cons];rw[List.take_append,hf,show(k+1)*sz-sz=k *sz by rw[Nat.succ_mul];omega,lh f sz hf l k H4,List.take_of_length_le (by rw[hf,Nat.succ_mul];omega)]
theorem lj{α β:Type}(f:α->List β)(sz:Nat)(hf:∀x,(f x).length=sz):∀(l:List α) (k:Nat),k<=l.length->(l.flatMap f).drop (k *sz)=(l.drop k).flatMap f
 |l,0,_=>by simp
 |[],k+1,h=>by simp at h
 |x::l,k+1,h=>by
  simp only[aR,List.drop_succ_cons];rw[List.drop_append,hf,show(k+1)*sz-sz=k *sz by rw[Nat.succ_mul];omega,lj f sz hf l k H4,List.drop_of_length_le (by rw[hf,Nat.succ_mul];omega),List.nil_append]
theorem ye(l:List Nm)(x:Nm)(k:Nat)(hk:k<=l.length):(cj l).take (k *3)++x.cells++(cj l).drop (k *3)=cj (l.take k++x::l.drop k):=by
 unfold cj;rw[lh _ 3 (fun _=>rfl) l k hk,lj _ 3 (fun _=>rfl) l k hk];simp
theorem u3(l:List Nm):∀u∈cj l,u.oneCell'=true:=fun u hu=>by
 obtain⟨x,_,hx⟩:=List.mem_flatMap.1 hu;simp[Nm.cells]at hx;rcases hx with rfl|rfl|rfl<;>rfl
theorem Nm.cells_one(x:Nm):∀u∈x.cells,u.oneCell'=true:=fun u hu=>by
 simp[Nm.cells]at hu;rcases hu with rfl|rfl|rfl<;>rfl
theorem Ec(l:List Nm)(x:Nm)(k:Nat)(hk:k<l.length):(cj l).take (k *3)++x.cells++(cj l).drop (k *3+3)=cj (l.set k x):=by
 unfold cj;rw[lh _ 3 (fun _=>rfl) l k ae,show k *3+3=(k+1)*3 by omega,lj _ 3 (fun _=>rfl) l (k+1) ae,List.set_eq_take_append_cons_drop];simp[hk]
theorem Jr(l:List Nm)(x:Nm):(ew l x).length<=max l.length 20:=by
 unfold ew;split
 ·omega
 ·split
  ·simp;omega
  ·split
   ·omega
   ·have :bK l x.name<=l.length:=gW _ _;simp;omega
end WB
namespace WB
open Go Go.RowKit
def look (l:List Nm) (s:ak):Option Nm:=if eN l s (bK l s)=true then some (dW l (bK l s))else none
def fb (l:List Nm) (s:ak):Bool:=match look l s with|some x=>ie x.jz|none=>false
def fK (l:List Nm):Nat->ak->ak×Int×Int
 |0,_=>(⟨#[]⟩,0,11)
 |n+1,s=>match look l s with
  |none=>(⟨#[]⟩,0,7)
  |some x=>if ie x.jz=true then(s,-1,0)else if 0<=x.ck then(x.jz,x.ck,0)else fK l n x.jz
theorem AW{l:List Nm}{s:ak}(h:eN l s (bK l s)=false):look l s=none:=by simp[look,h]
theorem AV{l:List Nm}{s:ak}(h:eN l s (bK l s)=true):look l s=some (dW l (bK l s)):=by simp[look,h]
theorem ub{l:List Nm}{s:ak}{k:Nat}(h:eN l s k=true):k<l.length:=by
 unfold eN at h;rw[a_]at h;simpa using h.1
theorem Bw:∀a:List UInt8,Lib.compareBytes a a=0
 |[]=>rfl
 |x::a=>by
  have :¬x<x:=by rw[UInt8.lt_iff_toNat_lt];omega
  simp only[Lib.compareBytes,this,if_false];exact Bw a
theorem I3:∀{a b:List UInt8},Lib.compareBytes a b=0->a=b
 |[],[],_=>rfl
 |[],_::_,h=>by simp[Lib.compareBytes]at h
 |_::_,[],h=>by simp[Lib.compareBytes]at h
 |x::a,y::b,h=>by
  unfold Lib.compareBytes at h;split at h
  ·simp at h
  ·split at h
   ·simp at h
   ·rename_i h1 h2;have :x=y:=UInt8.toNat_inj.1 (by rw[UInt8.lt_iff_toNat_lt]at h1 h2;omega);rw[this,I3 h]
theorem Bx:∀(a b:List UInt8),Lib.compareBytes a b= -Lib.compareBytes b a
 |[],[]=>rfl
 |[],_::_=>rfl
 |_::_,[]=>rfl
 |x::a,y::b=>by
  unfold Lib.compareBytes;by_cases h1:x<y
  ·have h2:¬y<x:=by rw[UInt8.lt_iff_toNat_lt]at *;omega
   simp[h1,h2]
  ·by_cases h2:y<x
   ·simp[h1,h2]
   ·simp only[h1,h2,if_false];exact Bx a b
theorem y8:∀{a b c:List UInt8},Lib.compareBytes a b<0->Lib.compareBytes b c<0->Lib.compareBytes a c<0
 |[],_,[],h1,h2=>by cases ‹List UInt8› <;>simp[Lib.compareBytes]at h1 h2
 |[],_,_::_,_,_=>by simp[Lib.compareBytes]
 |_::_,[],_,h1,_=>by simp[Lib.compareBytes]at h1
 |_::_,_::_,[],_,h2=>by simp[Lib.compareBytes]at h2
 |x::a,y::b,z::c,h1,h2=>by
  unfold Lib.compareBytes at h1 h2 ⊢;simp only[UInt8.lt_iff_toNat_lt]at h1 h2 ⊢;by_cases e1:x.toNat<y.toNat
  ·by_cases e2:y.toNat<z.toNat
   ·have :x.toNat<z.toNat:=by omega
    simp[this]
   ·by_cases e3:z.toNat<y.toNat
    ·simp[e2,e3]at h2
    ·have :x.toNat<z.toNat:=by omega
     simp[this]
  ·by_cases e1':y.toNat<x.toNat
   ·simp[e1,e1']at h1
   ·simp only[e1,e1',if_false]at h1;by_cases e2:y.toNat<z.toNat
    ·have :x.toNat<z.toNat:=by omega
     simp[this]
    ·by_cases e3:z.toNat<y.toNat
     ·simp[e2,e3]at h2
     ·simp only[e2,e3,if_false]at h2;have n1:¬x.toNat<z.toNat:=by omega
      have n2:¬z.toNat<x.toNat:=by omega
      simp only[n1,n2,if_false];exact y8 h1 h2
theorem ln(a:ak):gy a a=0:=Bw _
theorem qj{a b:ak}(h:gy a b=0):a=b:=by
 have :=I3 h;cases a;cases b;rename_i x y;cases x;cases y;simp at this;rw[this]
theorem qk(a b:ak):gy a b= -gy b a:=Bx _ _
theorem rF{a b c:ak}(h1:gy a b<0)(h2:gy b c<0):gy a c<0:=y8 h1 h2
def dH (l:List Nm):Prop:=l.Pairwise fun a b=>gy a.name b.name<0
theorem dH.mono{l:List Nm}(h:dH l)(s:ak):C7 l s:=fun p q OV hq hs=>by
 rcases Nat.lt_or_eq_of_le OV with dt|rfl
 ·have :=List.pairwise_iff_getElem.1 h p q ae hq dt;rw[show dW l p=l[p]' ae by simp[dW,aq,show p<l.length by omega]];rw[show dW l q=l[q]by simp[dW,aq,hq]]at hs;exact rF this hs
 ·exact hs
theorem xH:dH []:=List.Pairwise.nil
def lk (l:List Nm) (s:ak):Option Nm:=l.find? fun x=>decide (x.name=s)
def oQ (x:Nm):List Nm->List Nm
 |[]=>[x]
 |y::l=>if gy y.name x.name<0 then y::oQ x l else if gy y.name x.name=0 then x::l else x::y::l
theorem er(x:Nm)(l:List Nm)(s:ak):lk (x::l) s=if x.name=s then some x else lk l s:=by
 unfold lk;rw[List.find?_cons];by_cases h:x.name=s<;>simp[h]
theorem yr{l:List Nm}{s:ak}(h:∀y∈l,gy s y.name<0):lk l s=none:=by
 unfold lk;rw[List.find?_eq_none];intro y hy he;have :=h y hy;simp at he;rw[he,ln]at this;omega
theorem me:∀{l:List Nm} (_:dH l) (s:ak),look l s=lk l s
 |[],_,s=>rfl
 |x::l,h,s=>by
  obtain⟨h1,h2⟩:=List.pairwise_cons.1 h;rw[er];by_cases hx:gy x.name s<0
  ·have hs:bK (x::l) s=bK l s+1:=by simp[bK,List.takeWhile_cons,hx]
   have gh:x.name≠s:=fun e=>by rw[e,ln]at hx;omega
   rw[if_neg gh,<-me h2 s];unfold look;rw[hs];have :eN (x::l) s (bK l s+1)=eN l s (bK l s):=by simp[eN,dW]
   rw[this];rfl
  ·have hs:bK (x::l) s=0:=by simp[bK,List.takeWhile_cons,hx]
   unfold look;rw[hs];by_cases he:x.name=s
   ·simp[eN,dW,he,ln]
   ·have h0:gy x.name s≠0:=fun e=>he (qj e)
    have :eN (x::l) s 0=false:=by simp[eN,dW,h0]
    rw[this,if_neg he];have dt:gy s x.name<0:=by rw[qk];omega
    rw[yr fun y hy=>rF dt (h1 y hy)];rfl
theorem Es{x y:Nm}:∀{l:List Nm},y∈oQ x l->y=x\/y∈l
 |[],h=>by simp[oQ]at h;exact Or.inl h
 |z::l,h=>by
  unfold oQ at h;split at h
  ·rcases aD.1 h with h|h
   ·exact Or.inr (by simp[h])
   ·rcases Es h with h|h
    ·exact Or.inl h
    ·exact Or.inr (by simp[h])
  ·split at h
   ·rcases aD.1 h with h|h
    ·exact Or.inl h
    ·exact Or.inr (by simp[h])
   ·rcases aD.1 h with h|h
    ·exact Or.inl h
    ·exact Or.inr h
theorem mf{x:Nm}:∀{l:List Nm},dH l->dH (oQ x l)
 |[],_=>List.pairwise_singleton _ _
 |z::l,h=>by
  obtain⟨h1,h2⟩:=List.pairwise_cons.1 h;unfold oQ;split
  ·rename_i hz;refine List.pairwise_cons.2 ⟨fun y hy=>?_,mf h2⟩;rcases Es hy with rfl|hy
   ·exact hz
   ·exact h1 y hy
  ·split
   ·rename_i he;have he:=qj he;exact List.pairwise_cons.2 ⟨fun y hy=>he▸h1 y hy,h2⟩
   ·rename_i h3 h4;have dt:gy x.name z.name<0:=by rw[qk];omega
    refine List.pairwise_cons.2 ⟨fun y hy=>?_,h⟩;rcases aD.1 hy with rfl|hy
    ·exact dt
    ·exact rF dt (h1 y hy)
theorem B7{x:Nm}(s:ak):∀{l:List Nm},lk (oQ x l) s=if x.name=s then some x else lk l s
 |[]=>by rw[oQ,er]
 |z::l=>by
  unfold oQ;split
  ·rename_i hz;rw[er,B7 s,er];by_cases h1:z.name=s
   ·have :x.name≠s:=fun e=>by rw[h1,e,ln]at hz;omega
    simp[h1,this]
   ·simp[h1]
  ·split
   ·rename_i he;have he:=qj he;rw[er,er];by_cases h1:x.name=s
    ·simp[h1]
    ·simp[h1,he]
   ·rw[er]
theorem DS(x:Nm):∀(l:List Nm),(if eN l x.name (bK l x.name)=true then l.set (bK l x.name) x else l.take (bK l x.name)++x::l.drop (bK l x.name))=oQ x l
 |[]=>by simp[eN,bK,oQ]
 |z::l=>by
  unfold oQ;by_cases hz:gy z.name x.name<0
  ·have hs:bK (z::l) x.name=bK l x.name+1:=by simp[bK,List.takeWhile_cons,hz]
   have hh:eN (z::l) x.name (bK l x.name+1)=eN l x.name (bK l x.name):=by simp[eN,dW]
   rw[if_pos hz,hs,hh,<-DS x l];split<;>simp
  ·have hs:bK (z::l) x.name=0:=by simp[bK,List.takeWhile_cons,hz]
   rw[if_neg hz,hs];by_cases he:gy z.name x.name=0
   ·simp[eN,dW,he]
   ·simp[eN,dW,he]
theorem p_{l:List Nm}{s:ak}{x:Nm}(h:lk l s=some x):x∈l/\x.name=s:=⟨List.mem_of_find?_eq_some h,by simpa using List.find?_some h⟩
theorem q2:∀{l l':List Nm},dH l->dH l'->(∀s,lk l s=lk l' s)->l=l'
 |[],[],_,_,_=>rfl
 |[],y::l',_,_,h=>by have :=h y.name;rw[er]at this;simp[lk]at this
 |x::l,[],_,_,h=>by have :=h x.name;rw[er]at this;simp[lk]at this
 |x::l,y::l',h1,h2,h=>by
  obtain⟨a1,a2⟩:=List.pairwise_cons.1 h1;obtain⟨b1,b2⟩:=List.pairwise_cons.1 h2;have e1:=h x.name;have e2:=h y.name;rw[er,er,if_pos rfl]at e1;rw[er,er,if_pos rfl]at e2;have hn:y.name=x.name:=by
   rcases Decidable.em (y.name=x.name)with e|e
   ·exact e
   ·rw[if_neg e]at e1;rw[if_neg (fun h=>e h.symm)]at e2;have c1:=b1 _ (p_ e1.symm).1;have c2:=a1 _ (p_ e2).1;rw[qk]at c1;omega
  rw[if_pos hn]at e1;simp at e1;subst e1;rw[q2 a2 b2 fun s=>?_];have e3:=h s;rw[er,er]at e3;by_cases hs:x.name=s
  ·subst hs;rw[yr a1,yr b1]
  ·simpa[hs]using e3
def P1 (l:List Nm) (s:ak):Option ak:=match look l s with
 |some x=>if ie x.jz=true then none else if 0<=x.ck then none else some x.jz
 |none=>none
def dQ (l:List Nm) (s:ak):Nat->Option ak
 |0=>some s
 |i+1=>(dQ l s i).bind (P1 l)
theorem nP{l:List Nm}(h:dH l):(l.map Nm.name).Nodup:=by
 rw[List.nodup_iff_pairwise_ne,List.pairwise_map];exact h.imp fun {a b} vu e=>by rw[e,ln]at vu;omega
open Go Go.RowKit Go.ChangeMaps Go.MapKept
def Va (es:List MapEntry) (m:List (ak×Value)):Prop:=es.map (fun e=>(e.key,e.val))=m.map (fun x=>(Value.string x.1,x.2))
def omap (b:Nat) (m:List (ak×Value)):HP:=ex fun es:Array MapEntry=>ex fun fP:Nat=>sep (JF (Va es.toList m)) (bI b (.map es fP))
def adr (m:List (ak×Value)) (s:ak):Option Value:=match m with
 |[]=>none
 |x::r=>if x.1=s then some x.2 else adr r s
def XB (m:List (ak×Value)) (s:ak) (v:Value):List (ak×Value):=match m with
 |[]=>[(s,v)]
 |x::r=>if x.1=s then(x.1,v)::r else x::XB r s v
def jP (m:List (ak×Value)) (s:ak):Option Nat:=match m with
 |[]=>none
 |x::r=>if x.1=s then some 0 else(jP r s).map (· +1)
variable {w0 w:World} {L:List HP} {P:Program} {b:Nat} {m:List (ak×Value)}
end WB
namespace WB
open Go Go.RowKit
variable {w0 w:World} {L:List HP} {P:Program}
end WB
namespace WB
open Go Go.RowKit
abbrev Env:=List (Nat×Value)
def cQ:Env->Nat->Option Value
 |[],_=>none
 |(s,v)::r,t=>match Nat.beq s t with|true=>some v|false=>cQ r t
def ev (G:Env):Operand->Option Value
 | .tmp t=>cQ G t
 | .const v=>some v
 | .global g=>some (.pointer (some ⟨g,0,none⟩))
 | .func f=>some (.func (.func f) #[] #[])
structure cE (n:Nat) (D:List Deferred) (G:Env) (a:Act):Prop where
 size:a.tmps.size=n
 defers:a.defers=D
 get:∀t v,cQ G t=some v->a.tmps[t]? =some v
theorem rz(s:Nat)(v:Value)(r:Env)(t:Nat):cQ ((s,v)::r) t=if s=t then some v else cQ r t:=by
 show(match Nat.beq s t with|true=>some v|false=>cQ r t)=_
 cases h:Nat.beq s t with
 |true=>rw[if_pos (Nat.eq_of_beq_eq_true h)]
 |false=>rw[if_neg (fun e=>by rw[e,Nat.beq_refl]at h;cases h)]
section
variable {n:Nat} {D:List Deferred} {G G':Env} {a:Act} {x:Operand} {v:Value}
theorem cE.eval(h:cE n D G a)(hx:ev G x=some v):a.eval x=v:=by
 cases x with
 |tmp t=>
  have :=h.get t v hx;simp[Act.eval,Array.getD_eq_getD_getElem?,this]
 |const u=>simp only[ev,az]at hx;exact hx
 |global g=>simp only[ev,az]at hx;exact hx
 |func f=>simp only[ev,az]at hx;exact hx
theorem cE.put(h:cE n D G a)(t:Nat)(v:Value)(ht:t<n):cE n D ((t,v)::G) (a.put (some t) v):=by
 refine⟨by simp[Act.put,h.size],h.defers,fun s u hs=>?_⟩;rw[rz]at hs;by_cases e:t=s
 ·subst e;rw[if_pos rfl]at hs;have :t<a.tmps.size:=by rw[h.size];exact ht
  simp[Act.put,this];simpa using hs
 ·rw[if_neg e]at hs;simp[Act.put,e];exact h.get s u hs
def C5 (G:Env):Env->Prop
 |[]=>True
 |(t,v)::r=>cQ G t=some v/\C5 G r
theorem C5.get:∀{G':Env},C5 G G'->∀t v,cQ G' t=some v->cQ G t=some v
 |[],_,t,v,h=>by simp[cQ]at h
 |(s,u)::r,⟨h1,h2⟩,t,v,h=>by
  rw[rz]at h;by_cases e:s=t
  ·subst e;rw[if_pos rfl]at h;rw[h1];exact h
  ·rw[if_neg e]at h;exact C5.get h2 t v h
theorem cE.sub(h:cE n D G a)(hs:C5 G G'):cE n D G' a:=⟨h.size,h.defers,fun t v ht=>h.get t v (hs.get t v ht)⟩
end
def oq:Nat->List Value->Env
 |_,[]=>[]
 |i,v::r=>(i,v)::oq (i+1) r
theorem zi:∀(l:List Value) (i t:Nat) (v:Value),cQ (oq i l) t=some v->i<=t/\l[t-i]? =some v
 |[],i,t,v,h=>by simp[oq,cQ]at h
 |u::l,i,t,v,h=>by
  rw[oq,rz]at h;by_cases e:i=t
  ·subst e;rw[if_pos rfl]at h;exact⟨aF _,by simpa using h⟩
  ·rw[if_neg e]at h;obtain⟨h1,h2⟩:=zi l (i+1) t v h;refine⟨by omega,?_⟩;rw[show t-i=(t-(i+1))+1 by omega];simpa using h2
theorem cE.enter{args:Array Value}{n:Nat}(h:args.size<=n):cE n [] (oq 0 args.toList) {tmps:=args++Array.replicate (n-args.size) undef,defers:=[]}:=by
 refine⟨by simp;omega,rfl,fun t v ht=>?_⟩;have :=(zi _ _ _ _ ht).2;rw[Nat.sub_zero]at this;have dt:t<args.size:=by
  have :=(au.1 this).1;simpa using this
 simp only[Array.getElem?_append,dt,if_true];simpa using this
def Ii (d:Bool) (P:Program) (ops:Array Oper) (Q:Exit->Act->World->Prop) (l:List (Kd×Oper)) (a:Act) (w:World):Prop:=
 match d with|true=>ij P ops Q l a w|false=>wpList P ops Q (l.map (·.2)) a w
def TN (d:Bool) (Q:Exit->Act->World->Prop):Exit->Act->World->Prop:=match d with|true=>pq Q|false=>Q
section
variable {d:Bool} {P:Program} {ops:Array Oper} {Q:Exit->Act->World->Prop} {rest:List (Kd×Oper)} {k:Kd} {o:Oper} {a:Act} {w:World} {v:Value}
theorem Dy(hw:Region.wanted o (yielded ops a.tmps)=false)(h:Ii d P ops Q rest (a.put o.dst undef) w):Ii d P ops Q ((k,o)::rest) a w:=by
 cases d with
 |true=>show ij _ _ _ _ _ _;rw[ph hw];exact h
 |false=>exact wpList_skip hw h
theorem pT(hw:Region.wanted o (yielded ops a.tmps)=true){l:List Oper}(h:o.wp P a w (wpList P ops Q l) Q):wpList P ops Q (o::l) a w:=by
 unfold wpList;rw[if_pos hw];exact .inl h
theorem Ph(hw:Region.wanted o (yielded ops a.tmps)=true)(hv:∀w',(execOp a.eval o).run P w'=.ok (.value v) w')(h:Ii d P ops Q rest (a.put o.dst v) w):Ii d P ops Q ((k,o)::rest) a w:=by
 cases d with
 |true=>
  show ij _ _ _ _ _ _
  by_cases hl:k.nb=true
  ·rw[dR hl hw];exact⟨v,fun w' _=>.inl (hv w'),h⟩
  ·cases k with
   |c7=>rw[gC hw];unfold Oper.wp;rw[hv];exact⟨Ext.refl w,h⟩
   |write=>rw[dZ hw];unfold Oper.wp;rw[hv];exact h
   |_=>exact absurd rfl hl
 |false=>exact pT hw (by unfold Oper.wp;rw[hv];exact h)
theorem LD(hk:(!d||k != .pure)=true)(hw:Region.wanted o (yielded ops a.tmps)=true)(hv:∀w',Ext w w'->(execOp a.eval o).run P w'=.ok (.value v) w')(h:Ii d P ops Q rest (a.put o.dst v) w):
 Ii d P ops Q ((k,o)::rest) a w:=by
 cases d with
 |true=>
  show ij _ _ _ _ _ _
  cases k with
  |pure=>simp at hk
  |read=>rw[dR rfl hw];exact⟨v,fun w' e=>.inl (hv w' e),h⟩
  |same=>rw[dR rfl hw];exact⟨v,fun w' (e:w'=w)=>.inl (by subst e;exact hv _ (Ext.refl _)),h⟩
  |c7=>rw[gC hw];unfold Oper.wp;rw[hv _ (Ext.refl w)];exact⟨Ext.refl w,h⟩
  |write=>rw[dZ hw];unfold Oper.wp;rw[hv _ (Ext.refl w)];exact h
 |false=>exact pT hw (by unfold Oper.wp;rw[hv _ (Ext.refl w)];exact h)
theorem Dz(hk:(!d||(k== .c7||k== .write))=true)(hw:Region.wanted o (yielded ops a.tmps)=true)(h:o.wp P a w (fun a' w'=>Ext w w'/\Ii d P ops Q rest a' w') (fun _ _ _=>False)):Ii d P ops Q ((k,o)::rest) a w:=by
 cases d with
 |true=>
  show ij _ _ _ _ _ _
  cases k with
  |pure=>simp at hk
  |read=>simp at hk
  |same=>simp at hk
  |c7=>rw[gC hw];exact tu (fun _ _ x=>x) h
  |write=>rw[dZ hw];exact tu (fun a w hh=>hh.2) h
 |false=>exact pT hw (tu (fun a w hh=>hh.2) h)
theorem k9(hk:(!d||k== .write)=true)(hw:Region.wanted o (yielded ops a.tmps)=true)(h:o.wp P a w (fun a' w'=>Ii d P ops Q rest a' w') (TN d Q)):Ii d P ops Q ((k,o)::rest) a w:=by
 cases d with
 |true=>
  show ij _ _ _ _ _ _
  cases k with
  |write=>rw[dZ hw];exact h
  |_=>simp at hk
 |false=>exact pT hw h
end
section
variable (P:Program)
def KO (ops:Array Oper) (d:Bool) (Q:Exit->Act->World->Prop) (n:Nat) (D:List Deferred) (w0:World) (G:Env) (L:List HP) (l:List (Kd×Oper)):Prop:=
 ∀a w,cE n D G a->St w0 L w->Ii d P ops Q l a w
def K (c:Code) (Q:Exit->Act->World->Prop) (n:Nat) (D:List Deferred) (w0:World) (G:Env) (L:List HP):Prop:=
 ∀a w,cE n D G a->St w0 L w->c.wp P Q a w
end
def KQ (Q:Exit->Act->World->Prop) (e:Exit) (n:Nat) (D:List Deferred) (w0:World) (G:Env) (L:List HP):Prop:=
 ∀a w,cE n D G a->St w0 L w->Q e a w
section
variable {P:Program} {ops:Array Oper} {d:Bool} {Q:Exit->Act->World->Prop} {n:Nat} {D:List Deferred} {w0:World} {G G':Env} {L L':List HP} {l:List (Kd×Oper)} {c x y:Code} {e:Exit}
def wr:List Oper->List (Kd×Oper)
 |[]=>[]
 |o::l=>(.write,o)::wr l
theorem FV:∀l:List Oper,(wr l).map (·.2)=l
 |[]=>rfl
 |o::l=>by simp[wr,FV l]
theorem K.K9{id:Nat}{l:List Oper}(h:KO P l.toArray false Q n D w0 G L (wr l)):K P (.region id l.toArray false) Q n D w0 G L:=fun a w ha hw=>by
 have :=h a w ha hw;simp only[Ii,FV]at this;exact wp_region_lit this
theorem K.draw{id:Nat}(ks:List Kd)(ord:List Nat)(pC:P.follows .mixedOrders=true)(jY:Wu ops ks ord=true)(h:KO P ops true Q n D w0 G L (ord.map (item ops ks))):K P (.region id ops true) Q n D w0 G L:=fun a _ ha hw=>
 eu ks ord pC jY (h a _ ha hw.drew)
theorem KO.nil(h:KQ Q .normal n D w0 G L):KO P ops d Q n D w0 G L []:=fun a w ha hw=>by
 cases d with
 |true=>exact h a w ha hw
 |false=>exact h a w ha hw
theorem K.seq(h:K P x (Exit.then (y.wp P Q) Q) n D w0 G L):K P (.seq x y) Q n D w0 G L:=fun a w ha hw=>wp_seq (h a w ha hw)
theorem K.block{id:Nat}(h:K P x (Exit.inBlock id Q) n D w0 G L):K P (.block id x) Q n D w0 G L:=fun a w ha hw=>wp_block (h a w ha hw)
theorem K.ret(h:KQ Q .ret n D w0 G L):K P .ret Q n D w0 G L:=fun a w ha hw=>wp_ret (h a w ha hw)
theorem K.skip(h:KQ Q .normal n D w0 G L):K P .skip Q n D w0 G L:=fun a w ha hw=>wp_skip (h a w ha hw)
theorem K.exit{id:Nat}(h:KQ Q (.exit id) n D w0 G L):K P (.exit id) Q n D w0 G L:=fun a w ha hw=>wp_exit (h a w ha hw)
theorem K.cond{cd:Operand}{b:Bool}(hc:ev G cd=some (.bool b))(ht:b=true->K P x Q n D w0 G L)(hf:b=false->K P y Q n D w0 G L):K P (.cond cd x y) Q n D w0 G L:=fun a w ha hw=>
 wp_cond_split (ha.eval hc) (fun e=>ht e a w ha hw) (fun e=>hf e a w ha hw)
theorem K.br{cd:Operand}{p:Prop}[Decidable p](hc:ev G cd=some (.bool (decide p)))(ht:p->K P x Q n D w0 G L)(hf:¬p->K P y Q n D w0 G L):K P (.cond cd x y) Q n D w0 G L:=
 K.cond hc (fun e=>ht (of_decide_eq_true e)) (fun e=>hf (of_decide_eq_false e))
theorem K.cL{cd:Operand}{b:Bool}(hc:ev G cd=some (.bool b))(hb:b=true)(h:K P x Q n D w0 G L):K P (.cond cd x y) Q n D w0 G L:=
 K.cond hc (fun _=>h) (fun e=>by rw[hb]at e;cases e)
theorem K.da{cd:Operand}{b:Bool}(hc:ev G cd=some (.bool b))(hb:b=false)(h:K P y Q n D w0 G L):K P (.cond cd x y) Q n D w0 G L:=
 K.cond hc (fun e=>by rw[hb]at e;cases e) (fun _=>h)
theorem KQ.next(h:K P y Q n D w0 G L):KQ (Exit.then (y.wp P Q) Q) .normal n D w0 G L:=h
theorem KQ.iO{N:Act->World->Prop}{i:Nat}(h:KQ Q (.exit i) n D w0 G L):KQ (Exit.then N Q) (.exit i) n D w0 G L:=h
theorem KQ.mR{N:Act->World->Prop}(h:KQ Q .ret n D w0 G L):KQ (Exit.then N Q) .ret n D w0 G L:=h
theorem KQ.w_{i:Nat}(h:KQ Q .ret n D w0 G L):KQ (Exit.inBlock i Q) .ret n D w0 G L:=h
theorem KQ.gQ{i:Nat}(h:KQ Q .normal n D w0 G L):KQ (Exit.inBlock i Q) .normal n D w0 G L:=h
theorem KQ.kp{i:Nat}(h:KQ Q .normal n D w0 G L):KQ (Exit.inBlock i Q) (.exit i) n D w0 G L:=fun a w ha hw=>by
 show if i=i then Q .normal a w else Q (.exit i) a w
 rw[if_pos rfl];exact h a w ha hw
theorem KQ.Fa{i j:Nat}(gh:Nat.beq j i=false)(h:KQ Q (.exit j) n D w0 G L):KQ (Exit.inBlock i Q) (.exit j) n D w0 G L:=fun a w ha hw=>by
 show if j=i then Q .normal a w else Q (.exit j) a w
 rw[if_neg (fun e=>by rw[e,Nat.beq_refl]at gh;cases gh)];exact h a w ha hw
theorem K.conv(hs:∀w,St w0 L w->St w0 L' w)(h:K P c Q n D w0 G L'):K P c Q n D w0 G L:=fun a w ha hw=>h a w ha (hs w hw)
theorem KO.conv(hs:∀w,St w0 L w->St w0 L' w)(h:KO P ops d Q n D w0 G L' l):KO P ops d Q n D w0 G L l:=fun a w ha hw=>h a w ha (hs w hw)
theorem KQ.conv(hs:∀w,St w0 L w->St w0 L' w)(h:KQ Q e n D w0 G L'):KQ Q e n D w0 G L:=fun a w ha hw=>h a w ha (hs w hw)
theorem K.fact{p:Prop}(hs:∀w,St w0 L w->p)(h:p->K P c Q n D w0 G L):K P c Q n D w0 G L:=fun a w ha hw=>h (hs w hw) a w ha hw
theorem KO.fact{p:Prop}(hs:∀w,St w0 L w->p)(h:p->KO P ops d Q n D w0 G L l):KO P ops d Q n D w0 G L l:=fun a w ha hw=>h (hs w hw) a w ha hw
theorem KQ.fact{p:Prop}(hs:∀w,St w0 L w->p)(h:p->KQ Q e n D w0 G L):KQ Q e n D w0 G L:=fun a w ha hw=>h (hs w hw) a w ha hw
theorem K.cq{α:Sort _}{F:α->List HP}(hs:∀w,St w0 L w->∃x,St w0 (F x) w)(h:∀x,K P c Q n D w0 G (F x)):K P c Q n D w0 G L:=fun a w ha hw=>by
 obtain⟨x,hx⟩:=hs w hw;exact h x a w ha hx
theorem KO.cq{α:Sort _}{F:α->List HP}(hs:∀w,St w0 L w->∃x,St w0 (F x) w)(h:∀x,KO P ops d Q n D w0 G (F x) l):KO P ops d Q n D w0 G L l:=fun a w ha hw=>by
 obtain⟨x,hx⟩:=hs w hw;exact h x a w ha hx
theorem KQ.cq{α:Sort _}{F:α->List HP}(hs:∀w,St w0 L w->∃x,St w0 (F x) w)(h:∀x,KQ Q e n D w0 G (F x)):KQ Q e n D w0 G L:=fun a w ha hw=>by
 obtain⟨x,hx⟩:=hs w hw;exact h x a w ha hx
def ON {α:Type} (n:Nat) (D:List Deferred) (w0:World) (E:α->Env) (H:α->List HP) (φ:α->Prop) (m:α->Nat) (x:α) (a:Act) (w:World):Prop:=
 ∃y,φ y/\m y<m x/\cE n D (E y) a/\St w0 (H y) w
theorem K.loop{α:Type}(E:α->Env)(H:α->List HP)(φ:α->Prop)(m:α->Nat)(x0:α)(h0:φ x0)(hG:C5 G (E x0))(hL:∀w,St w0 L w->St w0 (H x0) w)(round:∀x,φ x->K P c (Exit.then (ON n D w0 E H φ m x) Q) n D w0 (E x) (H x)):K P (.loop c) Q n D w0 G L:=fun a w ha hw=>by
 have key:∀(N:Nat) (x:α) (a:Act) (w:World),m x<N->φ x->cE n D (E x) a->St w0 (H x) w->Code.rounds P c Q N a w:=by
  intro N
  induction N with
  |zero=>intro x a w h;omega
  |succ N ih=>
   intro x a w dt hx ha hw;rw[rounds_succ];refine Go.wp_mono (round x hx a w ha hw) fun e a w hq=>?_
   cases e with
   |normal=>
    obtain⟨y,hy,QH,qC,hw'⟩:=hq;exact ih y a w ae hy qC hw'
   |_=>exact hq
 exact wp_loop_rounds (m x0+1) (key _ x0 a w (Nat.lt_succ_self _) h0 (ha.sub hG) (hL w hw))
theorem KQ.round{α:Type}{E:α->Env}{H:α->List HP}{φ:α->Prop}{m:α->Nat}{x:α}(y:α)(hy:φ y)(hm:m y<m x)(hG:C5 G (E y))(hL:∀w,St w0 L w->St w0 (H y) w):
 KQ (Exit.then (ON n D w0 E H φ m x) Q) .normal n D w0 G L:=fun _ w ha hw=>⟨y,hy,hm,ha.sub hG,hL w hw⟩
theorem K.rounds(N:Nat)(h:∀a w,cE n D G a->St w0 L w->Code.rounds P c Q N a w):K P (.loop c) Q n D w0 G L:=fun a w ha hw=>wp_loop_rounds N (h a w ha hw)
end
def KC (P:Program) (f:FuncId) (args:Array Value) (w0:World) (L:List HP) (R:Value->List HP->Prop):Prop:=
 ∀w,St w0 L w->Calls P f args w fun e w'=> ∃v L',e=.returned v/\R v L'/\St w0 L' w'
def KE (P:Program) (f:FuncId) (args:Array Value) (w0:World) (L:List HP) (R:Value->List HP->Prop):Prop:=
 ∀w,St w0 L w->Calls P f args w fun e w'=> ∃v L',e=.returned v/\R v L'/\St w0 L' w'/\Below w.heap.size w w'
def KP (P:Program) (f:FuncId) (args:Array Value) (w0:World) (L:List HP) (R:Ending->List HP->Prop):Prop:=
 ∀w,St w0 L w->Calls P f args w fun e w'=> ∃L',R e L'/\St w0 L' w'
def adW (w0:World) (R:Value->List HP->Prop):Ending->World->Prop:=fun e w'=> ∃v L',e=.returned v/\R v L'/\St w0 L' w'
section
variable {P:Program} {f:FuncId} {args:Array Value} {w0:World} {L:List HP} {R R':Value->List HP->Prop}
theorem KC.mono(h:KC P f args w0 L R)(hr:∀v L',R v L'->R' v L'):KC P f args w0 L R':=fun w hw=>(h w hw).mono fun _ _ ⟨v,L',a,b,c⟩=>⟨v,L',a,hr _ _ b,c⟩
theorem KE.mono(h:KE P f args w0 L R)(hr:∀v L',R v L'->R' v L'):KE P f args w0 L R':=fun w hw=>(h w hw).mono fun _ _ ⟨v,L',a,b,c⟩=>⟨v,L',a,hr _ _ b,c⟩
theorem KC.mk{fn:Func}{c:Code}{n:Nat}(hf:P.funcs[f]? =some fn)(hb:fn.body=some c)(hn:fn.ntmps=n)(dr:args.size<=n)(h:K P c (bodyPost P fn (adW w0 R)) n [] w0 (oq 0 args.toList) L):KC P f args w0 L R:=fun w hw=>by
 subst hn;exact calls_of_wp hf hb (h _ w (cE.enter dr) hw)
theorem KE.mk{fn:Func}{c:Code}{n:Nat}(hf:P.funcs[f]? =some fn)(hb:fn.body=some c)(hn:fn.ntmps=n)(dr:args.size<=n)(h:∀w,St w0 L w->K P c (bodyPost P fn fun e w'=> ∃v L',e=.returned v/\R v L'/\St w0 L' w'/\Below w.heap.size w w') n [] w (oq 0 args.toList) []):KE P f args w0 L R:=fun w hw=>by
 subst hn;exact calls_of_wp hf hb (h w hw _ w (cE.enter dr) (St.init w))
theorem KP.mk{RE:Ending->List HP->Prop}{fn:Func}{c:Code}{n:Nat}(hf:P.funcs[f]? =some fn)(hb:fn.body=some c)(hn:fn.ntmps=n)(dr:args.size<=n)(h:K P c (bodyPost P fn fun e w'=> ∃L',RE e L'/\St w0 L' w') n [] w0 (oq 0 args.toList) L):KP P f args w0 L RE:=fun w hw=>by
 subst hn;exact calls_of_wp hf hb (h _ w (cE.enter dr) hw)
end
section
variable {P:Program} {fn:Func} {R:Ending->World->Prop} {n:Nat} {w0:World} {G:Env} {L:List HP} {v v1 v2 v3:Value} {t t1 t2 t3:Nat}
theorem abw(hr:fn.results=#[.tmp t])(hv:cQ G t=some v)(a:Act)(w:World)(ha:cE n [] G a):(results fn a.tmps).run P w=.ok v w:=by
 rw[results_tmp hr];simp[Array.getD_eq_getD_getElem?,ha.get _ _ hv]
theorem abv(hr:fn.results=#[.tmp t1,.tmp t2])(h1:cQ G t1=some v1)(h2:cQ G t2=some v2)(a:Act)(w:World)(ha:cE n [] G a):(results fn a.tmps).run P w=.ok (.tuple #[v1,v2]) w:=by
 rw[results_tmp2 hr];simp[Array.getD_eq_getD_getElem?,ha.get _ _ h1,ha.get _ _ h2]
theorem abu(hr:fn.results=#[.tmp t1,.tmp t2,.tmp t3])(h1:cQ G t1=some v1)(h2:cQ G t2=some v2)(h3:cQ G t3=some v3)(a:Act)(w:World)(ha:cE n [] G a):
 (results fn a.tmps).run P w=.ok (.tuple #[v1,v2,v3]) w:=by
 rw[results_tmp3 hr];simp[Array.getD_eq_getD_getElem?,ha.get _ _ h1,ha.get _ _ h2,ha.get _ _ h3]
theorem KQ.fin(hr:∀a w,cE n [] G a->St w0 L w->(results fn a.tmps).run P w=.ok v w)(h:∀w,St w0 L w->R (.returned v) w):KQ (bodyPost P fn R) .ret n [] w0 G L:=fun a w ha hw=>⟨ha.defers,v,hr a w ha hw,h w hw⟩
theorem KQ.adu(hr:∀a w,cE n [] G a->St w0 L w->(results fn a.tmps).run P w=.ok v w)(h:∀w,St w0 L w->R (.returned v) w):KQ (bodyPost P fn R) .normal n [] w0 G L:=fun a w ha hw=>⟨ha.defers,v,hr a w ha hw,h w hw⟩
theorem KQ.bB(hr:fn.results=#[.tmp t])(hv:cQ G t=some v)(h:∀w,St w0 L w->R (.returned v) w):KQ (bodyPost P fn R) .ret n [] w0 G L:=
 KQ.fin (fun a w ha _=>abw hr hv a w ha) h
theorem KQ.eE(hr:fn.results=#[.tmp t1,.tmp t2])(h1:cQ G t1=some v1)(h2:cQ G t2=some v2)(h:∀w,St w0 L w->R (.returned (.tuple #[v1,v2])) w):KQ (bodyPost P fn R) .ret n [] w0 G L:=
 KQ.fin (fun a w ha _=>abv hr h1 h2 a w ha) h
theorem KQ.DN(hr:fn.results=#[.tmp t1,.tmp t2,.tmp t3])(h1:cQ G t1=some v1)(h2:cQ G t2=some v2)(h3:cQ G t3=some v3)(h:∀w,St w0 L w->R (.returned (.tuple #[v1,v2,v3])) w):KQ (bodyPost P fn R) .ret n [] w0 G L:=
 KQ.fin (fun a w ha _=>abu hr h1 h2 h3 a w ha) h
theorem KQ.TG(hr:fn.results=#[])(h:∀w,St w0 L w->R (.returned (.tuple #[])) w):KQ (bodyPost P fn R) .ret n [] w0 G L:=
 KQ.fin (fun a w _ _=>results_none hr a.tmps P w) h
theorem KQ.jr(hr:fn.results=#[])(h:∀w,St w0 L w->R (.returned (.tuple #[])) w):KQ (bodyPost P fn R) .normal n [] w0 G L:=
 KQ.adu (fun a w _ _=>results_none hr a.tmps P w) h
end
section
variable {P:Program} {ops:Array Oper} {d:Bool} {Q:Exit->Act->World->Prop} {n:Nat} {D:List Deferred} {w0:World} {G:Env} {L R:List HP} {l:List (Kd×Oper)} {k:Kd}
 {t:Nat} {op:Op} {ty T T' E:TypeId} {pos:String} {af:Array Edge} {x y z:Operand} {v u:Value} {b b':Bool} {i j off:Nat} {a c:Int} {ad:Addr} {g:Option (Nat×Bool)} {dst:Option Nat}
theorem KO.Ku(h:∀a,cE n D G a->Region.wanted ⟨dst,op,ty,pos,af,g⟩ (yielded ops a.tmps)=true)(hk:KO P ops d Q n D w0 G L ((k,⟨dst,op,ty,pos,af,none⟩)::l)):
 KO P ops d Q n D w0 G L ((k,⟨dst,op,ty,pos,af,g⟩)::l):=fun a w ha hw=>by
 have h1:=h a ha;have h2:=hk a w ha hw;have h0:Region.wanted ⟨dst,op,ty,pos,af,none⟩ (yielded ops a.tmps)=true:=rfl;cases d with
 |true=>
  change ij _ _ _ _ _ _ at h2
  show ij _ _ _ _ _ _
  by_cases hl:k.nb=true
  ·rw[dR hl h0]at h2;rw[dR hl h1];exact h2
  ·cases k with
   |c7=>rw[gC h0]at h2;rw[gC h1];exact h2
   |write=>rw[dZ h0]at h2;rw[dZ h1];exact h2
   |_=>exact absurd rfl hl
 |false=>
  simp only[Ii,aJ,wpList,h0,h1,if_true]at h2 ⊢;exact h2
theorem r8{a:Act}(ha:cE n D G a)(hj:(ops[j]?).bind (·.dst)=some t)(hb:cQ G t=some (.bool b)):Region.wanted ⟨dst,op,ty,pos,af,some (j,b')⟩ (yielded ops a.tmps)=(b==b'):=by
 simp only[Region.wanted,yielded,hj,Option.bind_some,ha.get _ _ hb];cases b<;>cases b'<;>rfl
theorem KO.on(hj:(ops[j]?).bind (·.dst)=some t)(hb:cQ G t=some (.bool b))(he:b=b')(hk:KO P ops d Q n D w0 G L ((k,⟨dst,op,ty,pos,af,none⟩)::l)):
 KO P ops d Q n D w0 G L ((k,⟨dst,op,ty,pos,af,some (j,b')⟩)::l):=KO.Ku (fun _ ha=>by rw[r8 ha hj hb,he];simp) hk
theorem gX{a:Act}(ha:cE n D G a)(v:Value)(ht:Nat.blt t n=true):cE n D ((t,v)::G) (a.put (some t) v):=ha.put t v (by simpa[Nat.blt_eq]using ht)
theorem KO.no{s:Nat}(hj:(ops[j]?).bind (·.dst)=some s)(hb:cQ G s=some (.bool b))(he:b= !b')(ht:Nat.blt t n=true)(hk:KO P ops d Q n D w0 ((t,undef)::G) L l):
 KO P ops d Q n D w0 G L ((k,⟨some t,op,ty,pos,af,some (j,b')⟩)::l):=fun a w ha hw=>
 Dy (by rw[r8 ha hj hb,he];cases b'<;>rfl) (hk _ w (gX ha undef ht) hw)
theorem BO{a:Act}(ha:cE n D G a)(hj:(ops[j]?).bind (·.dst)=some t)(hb:cQ G t=some undef):Region.wanted ⟨dst,op,ty,pos,af,some (j,b')⟩ (yielded ops a.tmps)=false:=by
 simp only[Region.wanted,yielded,hj,Option.bind_some,ha.get _ _ hb];cases b'<;>rfl
theorem KO.no2{s:Nat}(hj:(ops[j]?).bind (·.dst)=some s)(hb:cQ G s=some undef)(ht:Nat.blt t n=true)(hk:KO P ops d Q n D w0 ((t,undef)::G) L l):
 KO P ops d Q n D w0 G L ((k,⟨some t,op,ty,pos,af,some (j,b')⟩)::l):=fun a w ha hw=>
 Dy (BO ha hj hb) (hk _ w (gX ha undef ht) hw)
theorem KO.val(hv:∀a w,cE n D G a->(execOp a.eval ⟨some t,op,ty,pos,af,none⟩).run P w=.ok (.value v) w)(ht:Nat.blt t n=true)(h:KO P ops d Q n D w0 ((t,v)::G) L l):
 KO P ops d Q n D w0 G L ((k,⟨some t,op,ty,pos,af,none⟩)::l):=fun a w ha hw=>Ph rfl (fun w'=>hv a w' ha) (h _ w (gX ha v ht) hw)
theorem KO.rd(hk:(!d||k != .pure)=true)(hv:∀a w w',cE n D G a->St w0 L w->Ext w w'->(execOp a.eval ⟨some t,op,ty,pos,af,none⟩).run P w'=.ok (.value v) w')(ht:Nat.blt t n=true)(h:KO P ops d Q n D w0 ((t,v)::G) L l):
 KO P ops d Q n D w0 G L ((k,⟨some t,op,ty,pos,af,none⟩)::l):=fun a w ha hw=>LD hk rfl (fun w' e=>hv a w w' ha hw e) (h _ w (gX ha v ht) hw)
def evF (G:Env) (x:Operand):Value:=(ev G x).getD undef
theorem KO.pv(hp:jU op=true)(hk:op.operands.toList.all (fun x=>(ev G x).isSome)=true)(hv:∀w,(execOp (evF G) ⟨some t,op,ty,pos,af,none⟩).run P w=.ok (.value v) w)(ht:Nat.blt t n=true)(h:KO P ops d Q n D w0 ((t,v)::G) L l):KO P ops d Q n D w0 G L ((k,⟨some t,op,ty,pos,af,none⟩)::l):=by
 refine KO.val (fun a w ha=>?_) ht h;rw[execOp_congr (ρ:=a.eval) (ρ':=evF G) hp fun x hx=>?_]
 ·exact hv w
 ·have :=aI.1 hk x hx;obtain⟨u,hu⟩:=Option.isSome_iff_exists.1 this;rw[ha.eval hu,evF,hu];rfl
theorem KO.mv(hx:ev G x=some v)(ht:Nat.blt t n=true)(h:KO P ops d Q n D w0 ((t,v)::G) L l):KO P ops d Q n D w0 G L ((k,⟨some t,.move x,ty,pos,af,none⟩)::l):=
 KO.val (fun a w ha=>by simp[execOp,ha.eval hx]) ht h
theorem KO.as(hx:ev G x=some v)(ht:Nat.blt t n=true)(h:KO P ops d Q n D w0 ((t,v)::G) L l):KO P ops d Q n D w0 G L ((k,⟨some t,.assign x,ty,pos,af,none⟩)::l):=
 KO.val (fun a w ha=>by simp[execOp,ha.eval hx]) ht h
theorem KO.pick(hx:ev G x=some (.bool b))(hv:(if b then ev G y else ev G z)=some v)(ht:Nat.blt t n=true)(h:KO P ops d Q n D w0 ((t,v)::G) L l):KO P ops d Q n D w0 G L ((k,⟨some t,.pick x y z,ty,pos,af,none⟩)::l):=
 KO.val (fun a w ha=>by
  cases b with
  |true=>simp only[if_true]at hv;simp[execOp,ha.eval hx,ha.eval hv,asBool]
  |false=>simp only[Bool.false_eq_true,if_false]at hv;simp[execOp,ha.eval hx,ha.eval hv,asBool]) ht h
theorem KO.nc(hx:ev G x=some (.pointer (some ad)))(ht:Nat.blt t n=true)(h:KO P ops d Q n D w0 ((t,.pointer (some ad))::G) L l):KO P ops d Q n D w0 G L ((k,⟨some t,.nilCheck x,ty,pos,af,none⟩)::l):=
 KO.val (fun a w ha=>by simp[execOp,ha.eval hx]) ht h
theorem KO.adw{vs:Array Value}(hx:ev G x=some (.tuple vs))(hv:vs[i]? =some v)(ht:Nat.blt t n=true)(h:KO P ops d Q n D w0 ((t,v)::G) L l):KO P ops d Q n D w0 G L ((k,⟨some t,.extract x i,ty,pos,af,none⟩)::l):=
 KO.val (fun a w ha=>by simp[execOp,ha.eval hx,Instr.extract,hv]) ht h
theorem KO.Nw{vs:List Value}(hx:ev G x=some (.tuple vs.toArray))(hv:vs[i]? =some v)(ht:Nat.blt t n=true)(h:KO P ops d Q n D w0 ((t,v)::G) L l):KO P ops d Q n D w0 G L ((k,⟨some t,.extract x i,ty,pos,af,none⟩)::l):=
 KO.adw hx (by simpa using hv) ht h
theorem KO.mki(hx:ev G x=some v)(hc:P.concrete T=true)(ht:Nat.blt t n=true)(h:KO P ops d Q n D w0 ((t,.iface T v)::G) L l):KO P ops d Q n D w0 G L ((k,⟨some t,.makeInterface T x,ty,pos,af,none⟩)::l):=
 KO.val (fun a w ha=>by simp[execOp,ha.eval hx,run_makeInterface _ _ _ hc]) ht h
theorem KO.mkf{f:Fn}{xs ys:Array Operand}{us vs:Array Value}(h1:xs.toList.map (ev G)=us.toList.map some)(h2:ys.toList.map (ev G)=vs.toList.map some)(ht:Nat.blt t n=true)(h:KO P ops d Q n D w0 ((t,.func f us vs)::G) L l):
 KO P ops d Q n D w0 G L ((k,⟨some t,.makeFunc f xs ys,ty,pos,af,none⟩)::l):=
 KO.val (fun a w ha=>by
  have key:∀(xs:List Operand) (us:List Value),xs.map (ev G)=us.map some->xs.map a.eval=us:=by
   intro xs
   induction xs with
   |nil=>intro us h;cases us with|nil=>rfl|cons _ _=>simp at h
   |cons x xs ih=>intro us h;cases us with
    |nil=>simp at h
    |cons u us=>simp only[aJ,List.cons.injEq]at h ⊢;exact⟨ha.eval h.1,ih us h.2⟩
  have e1:xs.map a.eval=us:=by apply Array.ext';simpa using key _ _ h1
  have e2:ys.map a.eval=vs:=by apply Array.ext';simpa using key _ _ h2
  simp[execOp,Instr.makeFunc,e1,e2]) ht h
theorem KO.fld{fs:Array Field}{f:Nat}{fd:Field}{sz:Nat}(hx:ev G x=some (.pointer (some ad)))(hu:∀w,(underlying T).run P w=.ok (.struct fs) w)(hf:fs[f]? =some fd)(hs:∀w,(Go.sizeOf fd.type).run P w=.ok (sz+1) w)(ht:Nat.blt t n=true)(h:KO P ops d Q n D w0 ((t,.pointer (some (ad.add fd.offset)))::G) L l):KO P ops d Q n D w0 G L ((k,⟨some t,.fieldAddr T x f,ty,pos,af,none⟩)::l):=
 KO.val (fun a w ha=>by simp[execOp,ha.eval hx,Instr.fieldAt,hu w,hf,Instr.sureAddr,fieldPlace,hs w]) ht h
theorem KO.idx{g:Nat}{o len cap sz:Nat}{kk:IntKind}(hx:ev G x=some (.slice (some ⟨g,o,none⟩) len cap))(hy:ev G y=some (.int kk a))(hu:∀w,(underlying T).run P w=.ok (.slice E) w)(hs:∀w,(Go.sizeOf E).run P w=.ok sz w)(ha:a=(i:Int))(hb:i<len)(ht:Nat.blt t n=true)(h:KO P ops d Q n D w0 ((t,.pointer (some ⟨g,o+i *sz,none⟩))::G) L l):KO P ops d Q n D w0 G L ((k,⟨some t,.indexAddr T x y,ty,pos,af,none⟩)::l):=
 KO.val (fun a' w qC=>by
  subst ha;have :(0:Int)<=(i:Int)/\(i:Int)<(len:Int):=⟨by omega,by omega⟩
  simp[execOp,qC.eval hx,qC.eval hy,Instr.indexAt,hu w,asIntOf,hs w,hb,Addr.add_lit]) ht h
theorem KO.jP{len sz:Nat}{kk:IntKind}(hx:ev G x=some (.pointer (some ad)))(hy:ev G y=some (.int kk a))(hu:∀w,(underlying T).run P w=.ok (.array len E) w)(hs:∀w,(Go.sizeOf E).run P w=.ok sz w)(ha:a=(i:Int))(hb:i<len)(ht:Nat.blt t n=true)(h:KO P ops d Q n D w0 ((t,.pointer (some (ad.add (i *sz))))::G) L l):KO P ops d Q n D w0 G L ((k,⟨some t,.indexAddr T x y,ty,pos,af,none⟩)::l):=
 KO.val (fun a' w qC=>by
  subst ha
  simp[execOp,qC.eval hx,qC.eval hy,Instr.indexAt,hu w,asIntOf,hs w,hb,Instr.sureAddr]) ht h
theorem KO.ld{b:Nat}{cs:List Value}{fz:Nat×Nat}(hk:(!d||k != .pure)=true)(hx:ev G x=some (.pointer (some ⟨b,off,none⟩)))(hT:∀w,(isAgg T).run P w=.ok false w)(hp:bF L (bI b (.cells cs.toArray E fz)) R)(hc:cs[off]? =some v)(ht:Nat.blt t n=true)(h:KO P ops d Q n D w0 ((t,v)::G) L l):KO P ops d Q n D w0 G L ((k,⟨some t,.load T x,ty,pos,af,none⟩)::l):=
 KO.rd hk (fun a w w' ha hw e=>by
  have h_:w.cell? ⟨b,off,none⟩=some v:=by rw[World.cell?,(hw.oD hp).2];simpa using hc
  simp[execOp,ha.eval hx,Instr.loadAt,Instr.sureAddr,fJ (hT w') (e.cell h_)]) ht h
theorem KO.qM(hk:(!d||k != .pure)=true)(hx:ev G x=some (.pointer (some ad)))(hT:∀w,(isAgg T).run P w=.ok false w)(hc:w0.cell? ad=some v)(ht:Nat.blt t n=true)(h:KO P ops d Q n D w0 ((t,v)::G) L l):KO P ops d Q n D w0 G L ((k,⟨some t,.load T x,ty,pos,af,none⟩)::l):=
 KO.rd hk (fun a w w' ha hw e=>by
  simp[execOp,ha.eval hx,Instr.loadAt,Instr.sureAddr,fJ (hT w') (e.cell ((Ext.bW hw.below).cell hc))]) ht h
theorem KO.ldS(hk:(!d||k != .pure)=true)(hx:ev G x=some (.pointer (some ad)))(hT:∀w,(isAgg T).run P w=.ok false w)(hc:∀w,St w0 L w->w.cell? ad=some v)(ht:Nat.blt t n=true)(h:KO P ops d Q n D w0 ((t,v)::G) L l):KO P ops d Q n D w0 G L ((k,⟨some t,.load T x,ty,pos,af,none⟩)::l):=
 KO.rd hk (fun a w w' ha hw e=>by
  simp[execOp,ha.eval hx,Instr.loadAt,Instr.sureAddr,fJ (hT w') (e.cell (hc w hw))]) ht h
theorem KO.T5{cs:Array Value}{sz:Nat}(hk:(!d||k != .pure)=true)(hx:ev G x=some (.pointer (some ad)))(hT:∀w,(isAgg T).run P w=.ok true w)(hn:∀w,(Go.sizeOf T).run P w=.ok sz w)(dr:cs.size=sz)(hc:∀w,St w0 L w->cr w ad cs.toList)(ht:Nat.blt t n=true)(h:KO P ops d Q n D w0 ((t,.agg cs)::G) L l):KO P ops d Q n D w0 G L ((k,⟨some t,.load T x,ty,pos,af,none⟩)::l):=
 KO.rd hk (fun a w w' ha hw e=>by
  have :=nW (P:=P) (hT w') (by rw[hn w',<-dr];rfl) ((hc w hw).ext e)
  simp[execOp,ha.eval hx,Instr.loadAt,Instr.sureAddr,this]) ht h
theorem KO.T6{b:Nat}{cs:List Value}{us:List Value}{fz:Nat×Nat}{sz:Nat}(hk:(!d||k != .pure)=true)(hx:ev G x=some (.pointer (some ⟨b,off,none⟩)))(hT:∀w,(isAgg T).run P w=.ok true w)(hn:∀w,(Go.sizeOf T).run P w=.ok sz w)(hp:bF L (bI b (.cells cs.toArray E fz)) R)(hu:(cs.drop off).take sz=us)(dr:us.length=sz)(ht:Nat.blt t n=true)(h:KO P ops d Q n D w0 ((t,.agg us.toArray)::G) L l):KO P ops d Q n D w0 G L ((k,⟨some t,.load T x,ty,pos,af,none⟩)::l):=
 KO.T5 hk hx hT hn (by simpa using dr) (fun w hw j c hj=>by
  have WN:=(hw.oD hp).2;rw[show(us.toArray).toList=us from rfl,<-hu,List.getElem?_take]at hj;split at hj
  ·rw[List.getElem?_drop]at hj;rw[Addr.add_lit,World.cell?,WN];simpa using hj
  ·simp at hj) ht h
theorem KO.qb(hk:(!d||(k== .c7||k== .write))=true){F:Nat->Value}{N:Nat->List HP}(hr:∀a w,cE n D G a->St w0 L w->∃bb w',(execOp a.eval ⟨some t,op,ty,pos,af,none⟩).run P w=.ok (.value (F bb)) w'/\Ext w w'/\St w0 (N bb) w')(ht:Nat.blt t n=true)(h:∀bb,KO P ops d Q n D w0 ((t,F bb)::G) (N bb) l):KO P ops d Q n D w0 G L ((k,⟨some t,op,ty,pos,af,none⟩)::l):=fun a w ha hw=>by
 obtain⟨bb,w',hr,he,hs⟩:=hr a w ha hw;refine Dz hk rfl ?_;unfold Oper.wp;rw[hr];exact⟨he,h bb _ w' (gX ha _ ht) hs⟩
theorem KO.box(hk:(!d||(k== .c7||k== .write))=true){cs:List Value}(hx:ev G x=some v)(hc:v.cells=cs.toArray)(ht:Nat.blt t n=true)(h:∀bb,KO P ops d Q n D w0 ((t,.pointer (some ⟨bb,0,none⟩))::G) (bI bb (.cells cs.toArray E (0,0))::L) l):KO P ops d Q n D w0 G L ((k,⟨some t,.box E x,ty,pos,af,none⟩)::l):=
 KO.qb hk (F:=fun bb=>.pointer (some ⟨bb,0,none⟩)) (N:=fun bb=>bI bb (.cells cs.toArray E (0,0))::L) (fun a w ha hw=>⟨w.heap.size,w.alloc (.cells cs.toArray E),by simp[execOp,ha.eval hx,Instr.box,newVar,newRow,hc],Ext.alloc w _,hw.alloc _⟩) ht h
theorem KO.alloc(hk:(!d||(k== .c7||k== .write))=true){cs:List Value}(hz:∀w,(zeroValue E).run P w=.ok v w)(hc:v.cells=cs.toArray)(ht:Nat.blt t n=true)(h:∀bb,KO P ops d Q n D w0 ((t,.pointer (some ⟨bb,0,none⟩))::G) (bI bb (.cells cs.toArray E (0,0))::L) l):KO P ops d Q n D w0 G L ((k,⟨some t,.alloc E,ty,pos,af,none⟩)::l):=
 KO.qb hk (F:=fun bb=>.pointer (some ⟨bb,0,none⟩)) (N:=fun bb=>bI bb (.cells cs.toArray E (0,0))::L) (fun a w ha hw=>⟨w.heap.size,w.alloc (.cells cs.toArray E),by simp[execOp,Instr.alloc,newVar,newRow,hz w,hc],Ext.alloc w _,hw.alloc _⟩) ht h
theorem KO.Dq(hk:(!d||k== .write)=true){N:List HP}(hr:∀a w,cE n D G a->St w0 L w->∃w',(execOp a.eval ⟨none,op,ty,pos,af,none⟩).run P w=.ok .skip w'/\St w0 N w')(h:KO P ops d Q n D w0 G N l):KO P ops d Q n D w0 G L ((k,⟨none,op,ty,pos,af,none⟩)::l):=fun a w ha hw=>by
 obtain⟨w',hr,hs⟩:=hr a w ha hw;refine k9 hk rfl ?_;unfold Oper.wp;rw[hr];exact h _ w' ha hs
theorem KO.st{b:Nat}{cs Dc us:List Value}(hk:(!d||k== .write)=true)(hx:ev G x=some (.pointer (some ⟨b,off,none⟩)))(hy:ev G y=some v)(hv:v.cells=us.toArray)(hn:∀w,(Go.sizeOf T).run P w=.ok us.length w)(h1:∀u∈us,u.oneCell'=true)(hp:bF L (bI b (.cells cs.toArray E (0,0))) R)(nh:off+us.length<=cs.length)(hc:cs.take off++us++cs.drop (off+us.length)=Dc)(h:KO P ops d Q n D w0 G (bI b (.cells Dc.toArray E (0,0))::R) l):
 KO P ops d Q n D w0 G L ((k,⟨none,.store T x y,ty,pos,af,none⟩)::l):=
 KO.Dq hk (N:=bI b (.cells Dc.toArray E (0,0))::R) (fun a w ha hw=>by
  have hb:=hw.pick hp;have kj:=jT (P:=P) (T:=T) (off:=off) (v:=v) hb (by simpa[hv]using hn w) (by simpa[hv]using nh) (by simpa[hv]using h1);refine⟨_,?_,hb.setRow (c':=Dc.toArray)⟩;simp only[hv,hc]at kj
  simp[execOp,ha.eval hx,ha.eval hy,Instr.storeAt,Instr.sureAddr,kj]) h
end
theorem Dp{r:Int}(h1: -9223372036854775808<=r)(h2:r<=9223372036854775807):IntKind.i64.wrap r=r:=by
 unfold IntKind.wrap;simp only[IntKind.bits,IntKind.signed,Bool.true_and];simp only[show(2^64:Int)=18446744073709551616 from rfl,show(2^(64-1):Int)=9223372036854775808 from rfl];by_cases h:r%18446744073709551616>=9223372036854775808
 ·rw[if_pos H4];omega
 ·rw[if_neg H4];omega
theorem Sh{r:Int}(h1:0<=r)(h2:r<=18446744073709551615):IntKind.u64.wrap r=r:=by
 unfold IntKind.wrap;simp only[IntKind.bits,IntKind.signed,Bool.false_and];simp only[show(2^64:Int)=18446744073709551616 from rfl];rw[if_neg aj];omega
section
variable {P:Program} {ops:Array Oper} {d:Bool} {Q:Exit->Act->World->Prop} {n:Nat} {D:List Deferred} {w0:World} {G:Env} {L R:List HP} {l:List (Kd×Oper)} {k:Kd}
 {t:Nat} {op:Op} {ty T T' E:TypeId} {pos:String} {af:Array Edge} {x y z:Operand} {v u:Value} {b b' p q:Bool} {i j off:Nat} {a c r:Int} {ad:Addr} {kk:IntKind}
theorem KO.add(hx:ev G x=some (.int .i64 a))(hy:ev G y=some (.int .i64 c))(hr:a+c=r)(h1: -9223372036854775808<=r/\r<=9223372036854775807)(ht:Nat.blt t n=true)(h:KO P ops d Q n D w0 ((t,.int .i64 r)::G) L l):KO P ops d Q n D w0 G L ((k,⟨some t,.binOp .add T x y T',ty,pos,af,none⟩)::l):=
 KO.val (fun a w ha=>by simp[execOp,ha.eval hx,ha.eval hy,eqGuard_at_int,binOp_add,Op.intArith,hr,Dp h1.1 h1.2]) ht h
theorem KO.sub(hx:ev G x=some (.int .i64 a))(hy:ev G y=some (.int .i64 c))(hr:a-c=r)(h1: -9223372036854775808<=r/\r<=9223372036854775807)(ht:Nat.blt t n=true)(h:KO P ops d Q n D w0 ((t,.int .i64 r)::G) L l):KO P ops d Q n D w0 G L ((k,⟨some t,.binOp .sub T x y T',ty,pos,af,none⟩)::l):=
 KO.val (fun a w ha=>by simp[execOp,ha.eval hx,ha.eval hy,eqGuard_at_int,binOp_sub,Op.intArith,hr,Dp h1.1 h1.2]) ht h
theorem KO.mul(hx:ev G x=some (.int .i64 a))(hy:ev G y=some (.int .i64 c))(hr:a *c=r)(h1: -9223372036854775808<=r/\r<=9223372036854775807)(ht:Nat.blt t n=true)(h:KO P ops d Q n D w0 ((t,.int .i64 r)::G) L l):KO P ops d Q n D w0 G L ((k,⟨some t,.binOp .mul T x y T',ty,pos,af,none⟩)::l):=
 KO.val (fun a w ha=>by simp[execOp,ha.eval hx,ha.eval hy,eqGuard_at_int,binOp_mul,Op.intArith,hr,Dp h1.1 h1.2]) ht h
theorem KO.lss(hx:ev G x=some (.int kk a))(hy:ev G y=some (.int kk c))(ht:Nat.blt t n=true)(h:KO P ops d Q n D w0 ((t,.bool (decide (a<c)))::G) L l):
 KO P ops d Q n D w0 G L ((k,⟨some t,.binOp .lss T x y T',ty,pos,af,none⟩)::l):=
 KO.val (fun a w ha=>by simp[execOp,ha.eval hx,ha.eval hy,eqGuard_at_int,binOp_lss]) ht h
theorem KO.leq(hx:ev G x=some (.int kk a))(hy:ev G y=some (.int kk c))(ht:Nat.blt t n=true)(h:KO P ops d Q n D w0 ((t,.bool (decide (a<=c)))::G) L l):
 KO P ops d Q n D w0 G L ((k,⟨some t,.binOp .leq T x y T',ty,pos,af,none⟩)::l):=
 KO.val (fun a w ha=>by simp[execOp,ha.eval hx,ha.eval hy,eqGuard_at_int,binOp_leq]) ht h
theorem KO.gtr(hx:ev G x=some (.int kk a))(hy:ev G y=some (.int kk c))(ht:Nat.blt t n=true)(h:KO P ops d Q n D w0 ((t,.bool (decide (c<a)))::G) L l):
 KO P ops d Q n D w0 G L ((k,⟨some t,.binOp .gtr T x y T',ty,pos,af,none⟩)::l):=
 KO.val (fun a w ha=>by simp[execOp,ha.eval hx,ha.eval hy,eqGuard_at_int,binOp_gtr]) ht h
theorem KO.geq(hx:ev G x=some (.int kk a))(hy:ev G y=some (.int kk c))(ht:Nat.blt t n=true)(h:KO P ops d Q n D w0 ((t,.bool (decide (c<=a)))::G) L l):
 KO P ops d Q n D w0 G L ((k,⟨some t,.binOp .geq T x y T',ty,pos,af,none⟩)::l):=
 KO.val (fun a w ha=>by simp[execOp,ha.eval hx,ha.eval hy,eqGuard_at_int,binOp_geq]) ht h
theorem KO.eqI(hx:ev G x=some (.int kk a))(hy:ev G y=some (.int kk c))(ht:Nat.blt t n=true)(h:KO P ops d Q n D w0 ((t,.bool (decide (a=c)))::G) L l):
 KO P ops d Q n D w0 G L ((k,⟨some t,.binOp .eql T x y T',ty,pos,af,none⟩)::l):=
 KO.val (fun a' w ha=>by simp[execOp,ha.eval hx,ha.eval hy,eqGuard_at_int,binOp_eql,show(a==c)=decide (a=c)from rfl]) ht h
theorem KO.neI(hx:ev G x=some (.int kk a))(hy:ev G y=some (.int kk c))(ht:Nat.blt t n=true)(h:KO P ops d Q n D w0 ((t,.bool (decide (a≠c)))::G) L l):
 KO P ops d Q n D w0 G L ((k,⟨some t,.binOp .neq T x y T',ty,pos,af,none⟩)::l):=
 KO.val (fun a' w ha=>by
  have e:(a !=c)=decide (a≠c):=by by_cases h:a=c<;>simp[h]
  simp only[execOp,ha.eval hx,ha.eval hy,eqGuard_at_int,binOp_neq,e,Sem.run_bind,Sem.run_pure,Result.andThen_ok]) ht h
theorem KO.not(hx:ev G x=some (.bool b))(ht:Nat.blt t n=true)(h:KO P ops d Q n D w0 ((t,.bool (!b))::G) L l):KO P ops d Q n D w0 G L ((k,⟨some t,.unOp .not T x,ty,pos,af,none⟩)::l):=
 KO.val (fun a' w ha=>by simp[execOp,ha.eval hx,unary_not]) ht h
theorem KO.neB(hx:ev G x=some (.bool p))(hy:ev G y=some (.bool q))(hT:P.underlying T=some .bool)(ht:Nat.blt t n=true)(h:KO P ops d Q n D w0 ((t,.bool (!(p==q)))::G) L l):
 KO P ops d Q n D w0 G L ((k,⟨some t,.binOp .neq T x y T',ty,pos,af,none⟩)::l):=
 KO.val (fun a' w ha=>by simp[execOp,ha.eval hx,ha.eval hy,eqGuard_at_bool,run_neq_bool w T p q hT]) ht h
variable {s s':ak}
theorem toList_eq_iff(s s':ak):(s.toList==s'.toList)=decide (s=s'):=by
 by_cases h:s=s'
 ·simp[h]
 ·have :s.toList≠s'.toList:=fun e=>h (by
   rw[ByteArray.toList_eq,ByteArray.toList_eq]at e
   exact ByteArray.ext (Array.ext' e))
  simp[h,this]
theorem KO.eqS(hx:ev G x=some (.string s))(hy:ev G y=some (.string s'))(ht:Nat.blt t n=true)(h:KO P ops d Q n D w0 ((t,.bool (decide (s=s')))::G) L l):
 KO P ops d Q n D w0 G L ((k,⟨some t,.binOp .eql T x y T',ty,pos,af,none⟩)::l):=
 KO.val (fun a' w ha=>by simp only[execOp,ha.eval hx,ha.eval hy,eqGuard_at_string,binOp_string_eql,toList_eq_iff,Sem.run_bind,Sem.run_pure,Result.andThen_ok]) ht h
theorem KO.neS(hx:ev G x=some (.string s))(hy:ev G y=some (.string s'))(ht:Nat.blt t n=true)(h:KO P ops d Q n D w0 ((t,.bool (!decide (s=s')))::G) L l):
 KO P ops d Q n D w0 G L ((k,⟨some t,.binOp .neq T x y T',ty,pos,af,none⟩)::l):=
 KO.val (fun a' w ha=>by simp only[execOp,ha.eval hx,ha.eval hy,eqGuard_at_string,binOp_string_neq,toList_eq_iff,Sem.run_bind,Sem.run_pure,Result.andThen_ok]) ht h
theorem KO.cat(hx:ev G x=some (.string s))(hy:ev G y=some (.string s'))(hs:s.size+s'.size<=9223372036854775807)(ht:Nat.blt t n=true)(h:KO P ops d Q n D w0 ((t,.string (s++s'))::G) L l):
 KO P ops d Q n D w0 G L ((k,⟨some t,.binOp .add T x y T',ty,pos,af,none⟩)::l):=
 KO.val (fun a' w ha=>by simp[execOp,ha.eval hx,ha.eval hy,eqGuard_at_string,binOp_string_add,run_string_add_sum w s s' hs]) ht h
theorem KO.Qc(hx:ev G x=some (.string s))(hT:P.underlying T=some .string)(ht:Nat.blt t n=true)(h:KO P ops d Q n D w0 ((t,.int .i64 (s.size:Nat))::G) L l):
 KO P ops d Q n D w0 G L ((k,⟨some t,.call ⟨.builtin .len,#[x],#[T]⟩,ty,pos,af,none⟩)::l):=
 KO.val (fun a' w ha=>by simp[execOp,resolve,invoke,builtin,ha.eval hx,run_len_string _ _ _ _ hT,goInt]) ht h
theorem KO.len{bs:Option Addr}{len cap:Nat}(hx:ev G x=some (.slice bs len cap))(hT:P.underlying T=some (.slice E))(ht:Nat.blt t n=true)(h:KO P ops d Q n D w0 ((t,.int .i64 (len:Nat))::G) L l):
 KO P ops d Q n D w0 G L ((k,⟨some t,.call ⟨.builtin .len,#[x],#[T]⟩,ty,pos,af,none⟩)::l):=
 KO.val (fun a' w ha=>by simp[execOp,resolve,invoke,builtin,ha.eval hx,run_len_slice w T ty bs len cap (by rw[hT];simp[Program.elem,hT]),goInt]) ht h
theorem KO.cap{bs:Option Addr}{len cap:Nat}(hx:ev G x=some (.slice bs len cap))(hT:P.underlying T=some (.slice E))(ht:Nat.blt t n=true)(h:KO P ops d Q n D w0 ((t,.int .i64 (cap:Nat))::G) L l):
 KO P ops d Q n D w0 G L ((k,⟨some t,.call ⟨.builtin .cap,#[x],#[T]⟩,ty,pos,af,none⟩)::l):=
 KO.val (fun a' w ha=>by simp[execOp,resolve,invoke,builtin,ha.eval hx,Builtin.cap_,run_underlying hT,goInt]) ht h
theorem KO.eF{g:Nat}{len cap sz:Nat}(hx:ev G x=some (.slice (some ⟨g,0,none⟩) len cap))(hy:ev G y=some (.int kk a))(hu:∀w,(underlying T).run P w=.ok (.slice E) w)(hs:∀w,(Go.sizeOf E).run P w=.ok sz w)(ha:a=(i:Int))(hb:i<len)(ht:Nat.blt t n=true)(h:KO P ops d Q n D w0 ((t,.pointer (some ⟨g,i *sz,none⟩))::G) L l):KO P ops d Q n D w0 G L ((k,⟨some t,.indexAddr T x y,ty,pos,af,none⟩)::l):=
 KO.idx hx hy hu hs ha hb ht (by rw[Nat.zero_add];exact h)
theorem KO.fo{fs:Array Field}{f b o sz off:Nat}{fd:Field}(hx:ev G x=some (.pointer (some ⟨b,o,none⟩)))(hu:∀w,(underlying T).run P w=.ok (.struct fs) w)(hf:fs[f]? =some fd)(ho:fd.offset=off)(hs:∀w,(Go.sizeOf fd.type).run P w=.ok (sz+1) w)(ht:Nat.blt t n=true)(h:KO P ops d Q n D w0 ((t,.pointer (some ⟨b,o+off,none⟩))::G) L l):KO P ops d Q n D w0 G L ((k,⟨some t,.fieldAddr T x f,ty,pos,af,none⟩)::l):=
 KO.fld hx hu hf hs ht (by rw[Addr.add_lit,ho];exact h)
theorem KO.fw{fs:Array Field}{f b sz off:Nat}{fd:Field}(hx:ev G x=some (.pointer (some ⟨b,0,none⟩)))(hu:∀w,(underlying T).run P w=.ok (.struct fs) w)(hf:fs[f]? =some fd)(ho:fd.offset=off)(hs:∀w,(Go.sizeOf fd.type).run P w=.ok (sz+1) w)(ht:Nat.blt t n=true)(h:KO P ops d Q n D w0 ((t,.pointer (some ⟨b,off,none⟩))::G) L l):KO P ops d Q n D w0 G L ((k,⟨some t,.fieldAddr T x f,ty,pos,af,none⟩)::l):=
 KO.fo hx hu hf ho hs ht (by rw[Nat.zero_add];exact h)
theorem KS{a:Act}(ha:cE n D G a){xs:Array Operand}{vs:List Value}(h:xs.toList.map (ev G)=vs.map some):xs.map a.eval=vs.toArray:=by
 have key:∀(xs:List Operand) (us:List Value),xs.map (ev G)=us.map some->xs.map a.eval=us:=by
  intro xs
  induction xs with
  |nil=>intro us h;cases us with|nil=>rfl|cons _ _=>simp at h
  |cons x xs ih=>intro us h;cases us with
   |nil=>simp at h
   |cons u us=>simp only[aJ,List.cons.injEq]at h ⊢;exact⟨ha.eval h.1,ih us h.2⟩
 apply Array.ext';simpa using key _ _ h
theorem xP{a:Act}(ha:cE n D G a){f:FuncId}{xs:Array Operand}{ts:Array TypeId}{vs:List Value}{fi cp:Array Value}{dst:Option Nat}(hf:ev G x=some (.func (.func f) fi cp))(rY:xs.toList.map (ev G)=vs.map some){ar:Array Value}(GU:fi++vs.toArray++cp=ar)(gm:∀args w,(callFunc f args).run P w=.ok (.enter f args) w)(w:World):(execOp a.eval ⟨dst,.call ⟨.value x,xs,ts⟩,ty,pos,af,none⟩).run P w=.ok (.enter f ar) w:=by
 have e:=KS ha rY;simp only[execOp,resolve,ha.eval hf,Deferred.ofValue,e,invoke,Sem.run_bind,Sem.run_pure,Result.andThen_ok,gm,GU]
theorem KO.call{f:FuncId}{xs:Array Operand}{ts:Array TypeId}{vs:List Value}{fi cp ar:Array Value}{Rr:Value->List HP->Prop}(hk:(!d||k== .write)=true)(hf:ev G x=some (.func (.func f) fi cp))(rY:xs.toList.map (ev G)=vs.map some)(GU:fi++vs.toArray++cp=ar)(gm:∀args w,(callFunc f args).run P w=.ok (.enter f args) w)(ht:Nat.blt t n=true)(hc:KC P f ar w0 L Rr)(h:∀v L',Rr v L'->KO P ops d Q n D w0 ((t,v)::G) L' l):
 KO P ops d Q n D w0 G L ((k,⟨some t,.call ⟨.value x,xs,ts⟩,ty,pos,af,none⟩)::l):=fun a w ha hw=>by
 refine k9 hk rfl ?_;unfold Oper.wp;rw[xP ha hf rY GU gm];refine(hc w hw).mono ?_;rintro e w' ⟨v,L',rfl,hr,hs⟩;exact h v L' hr _ w' (gX ha v ht) hs
theorem KO.Zo{f:FuncId}{xs:Array Operand}{ts:Array TypeId}{vs:List Value}{fi cp ar:Array Value}{Rr:Value->List HP->Prop}(hk:(!d||(k== .c7||k== .write))=true)(hf:ev G x=some (.func (.func f) fi cp))(rY:xs.toList.map (ev G)=vs.map some)(GU:fi++vs.toArray++cp=ar)(gm:∀args w,(callFunc f args).run P w=.ok (.enter f args) w)(ht:Nat.blt t n=true)(hc:KE P f ar w0 L Rr)(h:∀v L',Rr v L'->KO P ops d Q n D w0 ((t,v)::G) L' l):
 KO P ops d Q n D w0 G L ((k,⟨some t,.call ⟨.value x,xs,ts⟩,ty,pos,af,none⟩)::l):=fun a w ha hw=>by
 refine Dz hk rfl ?_;unfold Oper.wp;rw[xP ha hf rY GU gm];refine(hc w hw).mono ?_;rintro e w' ⟨v,L',rfl,hr,hs,hb⟩;exact⟨Ext.bW hb,h v L' hr _ w' (gX ha v ht) hs⟩
end
section
variable {P:Program} {f:FuncId} {args:Array Value} {w0:World} {L:List HP}
theorem KE.bW{v:Value}(h:∀w,St w0 L w->Calls P f args w fun e w'=>e=.returned v/\Below w.heap.size w w'):KE P f args w0 L (fun u L'=>u=v/\L'=L):=fun w hw=>
 (h w hw).mono fun _ _ ⟨he,hb⟩=>⟨v,L,he,⟨rfl,rfl⟩,hw.aC hb,hb⟩
theorem KE.below{v:Value}(h:KE P f args w0 L (fun u _=>u=v))(w:World)(hw:St w0 L w):Calls P f args w fun e w'=>e=.returned v/\Below w.heap.size w w':=
 (h w hw).mono fun _ _ ⟨_,_,he,hv,_,hb⟩=>⟨by rw[he,hv],hb⟩
end
def G3 (G:Env):List Operand->Option (List Value)
 |[]=>some []
 |x::r=>match ev G x,G3 G r with|some v,some vs=>some (v::vs)|_,_=>none
theorem om{G:Env}:∀{xs:List Operand} {vs:List Value},G3 G xs=some vs->xs.map (ev G)=vs.map some
 |[],vs,h=>by simp only[G3,az]at h;subst h;rfl
 |x::xs,vs,h=>by
  unfold G3 at h;cases h1:ev G x with
  |none=>rw[h1]at h;simp at h
  |some v=>
   cases h2:G3 G xs with
   |none=>rw[h1,h2]at h;simp at h
   |some us=>
    rw[h1,h2]at h;simp only[az]at h;subst h;simp[h1,om h2]
def kR:Nat->List Value->List Value->List Value
 |0,us,cs=>us++cs.drop us.length
 |i+1,us,c::cs=>c::kR i us cs
 |_+1,_,[]=>[]
theorem p5:∀(i:Nat) (us cs:List Value),i+us.length<=cs.length->cs.take i++us++cs.drop (i+us.length)=kR i us cs
 |0,us,cs,_=>by simp[kR]
 |i+1,us,c::cs,h=>by
  have :=p5 i us cs (by simp at h;omega);simp only[kR,List.take_succ_cons,bz,show i+1+us.length=(i+us.length)+1 by omega,List.drop_succ_cons,<-this]
 |i+1,us,[],h=>by simp at h
def adA:Value->List Value:=fun v=>v.cells.toList
section
variable {P:Program} {ops:Array Oper} {d:Bool} {Q:Exit->Act->World->Prop} {n:Nat} {D:List Deferred} {w0:World} {G:Env} {L R:List HP} {l:List (Kd×Oper)} {k:Kd}
 {t:Nat} {op:Op} {ty T T' E:TypeId} {pos:String} {af:Array Edge} {x y z:Operand} {v u:Value} {b b' p q:Bool} {i j off:Nat} {a c r:Int} {ad:Addr} {kk:IntKind}
theorem KO.Jo{b:Nat}{cs Dc us:List Value}(hk:(!d||k== .write)=true)(hx:ev G x=some (.pointer (some ⟨b,off,none⟩)))(hy:ev G y=some v)(hv:v.cells=us.toArray)(hn:∀w,(Go.sizeOf T).run P w=.ok us.length w)(h1:us.all Value.oneCell'=true)(hp:bF L (bI b (.cells cs.toArray E (0,0))) R)(nh:Nat.ble (off+us.length) cs.length=true)(hc:kR off us cs=Dc)(h:KO P ops d Q n D w0 G (bI b (.cells Dc.toArray E (0,0))::R) l):
 KO P ops d Q n D w0 G L ((k,⟨none,.store T x y,ty,pos,af,none⟩)::l):=
 have hf:off+us.length<=cs.length:=by simpa[Nat.ble_eq]using nh
 KO.st hk hx hy hv hn (fun u hu=>aI.1 h1 u hu) hp hf ((p5 _ _ _ hf).trans hc) h
theorem KO.sq(hx:ev G x=some (.bool b))(hb:b=true)(hv:ev G y=some v)(ht:Nat.blt t n=true)(h:KO P ops d Q n D w0 ((t,v)::G) L l):KO P ops d Q n D w0 G L ((k,⟨some t,.pick x y z,ty,pos,af,none⟩)::l):=
 KO.pick hx (by rw[hb];exact hv) ht h
theorem KO.mc(hx:ev G x=some (.bool b))(hb:b=false)(hv:ev G z=some v)(ht:Nat.blt t n=true)(h:KO P ops d Q n D w0 ((t,v)::G) L l):KO P ops d Q n D w0 G L ((k,⟨some t,.pick x y z,ty,pos,af,none⟩)::l):=
 KO.pick hx (by rw[hb];exact hv) ht h
theorem KO.Ww{f:Fn}{xs ys:Array Operand}{us vs:List Value}(h1:G3 G xs.toList=some us)(h2:G3 G ys.toList=some vs)(ht:Nat.blt t n=true)(h:KO P ops d Q n D w0 ((t,.func f us.toArray vs.toArray)::G) L l):
 KO P ops d Q n D w0 G L ((k,⟨some t,.makeFunc f xs ys,ty,pos,af,none⟩)::l):=KO.mkf (us:=us.toArray) (vs:=vs.toArray) (by simpa using om h1) (by simpa using om h2) ht h
theorem KO.cl{f:FuncId}{xs:Array Operand}{ts:Array TypeId}{vs:List Value}{fi cp:List Value}{Rr:Value->List HP->Prop}(hk:(!d||k== .write)=true)(hf:ev G x=some (.func (.func f) fi.toArray cp.toArray))(rY:G3 G xs.toList=some vs)(gm:∀args w,(callFunc f args).run P w=.ok (.enter f args) w)(ht:Nat.blt t n=true)(hc:KC P f (fi++(vs++cp)).toArray w0 L Rr)(h:∀v L',Rr v L'->KO P ops d Q n D w0 ((t,v)::G) L' l):
 KO P ops d Q n D w0 G L ((k,⟨some t,.call ⟨.value x,xs,ts⟩,ty,pos,af,none⟩)::l):=KO.call hk hf (om rY) aj gm ht hc h
theorem KO.ce{f:FuncId}{xs:Array Operand}{ts:Array TypeId}{vs:List Value}{fi cp:List Value}{Rr:Value->List HP->Prop}(hk:(!d||(k== .c7||k== .write))=true)(hf:ev G x=some (.func (.func f) fi.toArray cp.toArray))(rY:G3 G xs.toList=some vs)(gm:∀args w,(callFunc f args).run P w=.ok (.enter f args) w)(ht:Nat.blt t n=true)(hc:KE P f (fi++(vs++cp)).toArray w0 L Rr)(h:∀v L',Rr v L'->KO P ops d Q n D w0 ((t,v)::G) L' l):
 KO P ops d Q n D w0 G L ((k,⟨some t,.call ⟨.value x,xs,ts⟩,ty,pos,af,none⟩)::l):=KO.Zo hk hf (om rY) aj gm ht hc h
theorem KO.i2u(hx:ev G x=some (.int .i64 a))(hs:(P.underlying T).isSome=true)(hd:P.underlying T'=some (.int .u64))(h0:0<=a/\a<=18446744073709551615)(ht:Nat.blt t n=true)(h:KO P ops d Q n D w0 ((t,.int .u64 a)::G) L l):
 KO P ops d Q n D w0 G L ((k,⟨some t,.convert T T' x,ty,pos,af,none⟩)::l):=
 KO.val (fun a' w ha=>by
  have :=run_convert_int (P:=P) w T T' .i64 a hs Y25;simp[Program.intKind,hd,Sh h0.1 h0.2]at this
  simp[execOp,ha.eval hx,this]) ht h
theorem KO.u2i(hx:ev G x=some (.int .u64 a))(hs:(P.underlying T).isSome=true)(hd:P.underlying T'=some (.int .i64))(h0:0<=a/\a<=9223372036854775807)(ht:Nat.blt t n=true)(h:KO P ops d Q n D w0 ((t,.int .i64 a)::G) L l):
 KO P ops d Q n D w0 G L ((k,⟨some t,.convert T T' x,ty,pos,af,none⟩)::l):=
 KO.val (fun a' w ha=>by
  have :=run_convert_int (P:=P) w T T' .u64 a hs Y25;simp[Program.intKind,hd,Dp (by omega : -9223372036854775808<=a) h0.2]at this
  simp[execOp,ha.eval hx,this]) ht h
theorem KO.abo{yk:IntKind}(hx:ev G x=some (.int .u64 a))(hy:ev G y=some (.int yk 1))(hr:a/2=r)(ht:Nat.blt t n=true)(h:KO P ops d Q n D w0 ((t,.int .u64 r)::G) L l):
 KO P ops d Q n D w0 G L ((k,⟨some t,.binOp .shr T x y T',ty,pos,af,none⟩)::l):=
 KO.val (fun a' w ha=>by simp[execOp,ha.eval hx,ha.eval hy,eqGuard_at_int,binOp_shr,shift_shr_u64,<-hr]) ht h
theorem KO.max2{ts:Array TypeId}(hx:ev G x=some (.int .i64 a))(hy:ev G y=some (.int .i64 c))(hr:max a c=r)(ht:Nat.blt t n=true)(h:KO P ops d Q n D w0 ((t,.int .i64 r)::G) L l):
 KO P ops d Q n D w0 G L ((k,⟨some t,.call ⟨.builtin .max,#[x,y],ts⟩,ty,pos,af,none⟩)::l):=
 KO.val (fun a' w ha=>by
  subst hr;simp[execOp,resolve,invoke,builtin,ha.eval hx,ha.eval hy,Builtin.max_,Builtin.max2]
  rw[Int.max_def];split<;>split<;>first|rfl|omega) ht h
def SL {α:Type} (E:TypeId) (sz:Nat) (cf:α->List Value) (v:Value) (xs:List α):HP:=ke E sz v xs.length (xs.flatMap cf)
variable {α:Type} {cf:α->List Value} {sz:Nat} {xs:List α} {e e':α}
theorem nF{w:World}{g len cap:Nat}(dr:∀e,(cf e).length=sz)(hw:St w0 (SL E sz cf (.slice (some ⟨g,0,none⟩) len cap) xs::R) w)(he:xs[i]? =some e):∀j,j<sz->w.cell? ⟨g,i *sz+j,none⟩=(cf e)[j]? :=fun j hj=>by
 have hi:=(au.1 he).1;have hlen:len=xs.length:=by
  rcases hw.cH with⟨h,_⟩|⟨_,_,_,h,_⟩
  ·simp at h
  ·simp at h;exact h.2.1
 have dt:i *sz+j<xs.length *sz:=by
  have :(i+1)*sz<=xs.length *sz:=Nat.mul_le_mul_right _ hi;rw[Nat.succ_mul]at this;omega
 subst hlen;rw[hw.x8.cellAt _ dt,flat_get cf sz dr e xs i j hi hj];simp[aq,he]
theorem KO.ldE{g len cap:Nat}(hk:(!d||k != .pure)=true)(hx:ev G x=some (.pointer (some ⟨g,i *sz+j,none⟩)))(hT:∀w,(isAgg T).run P w=.ok false w)(hp:bF L (SL E sz cf (.slice (some ⟨g,0,none⟩) len cap) xs) R)(dr:∀e,(cf e).length=sz)(he:xs[i]? =some e)(hj:Nat.blt j sz=true)(hv:(cf e)[j]? =some v)(ht:Nat.blt t n=true)(h:KO P ops d Q n D w0 ((t,v)::G) L l):KO P ops d Q n D w0 G L ((k,⟨some t,.load T x,ty,pos,af,none⟩)::l):=
 KO.ldS hk hx hT (fun w hw=>by rw[nF dr (hw.pick hp) he j (by simpa[Nat.blt_eq]using hj),hv]) ht h
theorem KO.vS{g len cap:Nat}(hk:(!d||k != .pure)=true)(hx:ev G x=some (.pointer (some ⟨g,i *sz,none⟩)))(hT:∀w,(isAgg T).run P w=.ok true w)(hn:∀w,(Go.sizeOf T).run P w=.ok sz w)(hp:bF L (SL E sz cf (.slice (some ⟨g,0,none⟩) len cap) xs) R)(dr:∀e,(cf e).length=sz)(he:xs[i]? =some e)(ht:Nat.blt t n=true)(h:KO P ops d Q n D w0 ((t,.agg (cf e).toArray)::G) L l):KO P ops d Q n D w0 G L ((k,⟨some t,.load T x,ty,pos,af,none⟩)::l):=
 KO.T5 hk hx hT hn (by simpa using dr e) (fun w hw j c hj=>by
  have EJ:j<sz:=by rw[<-dr e];exact(au.1 hj).1
  rw[Addr.add_lit,nF dr (hw.pick hp) he j EJ];exact hj) ht h
theorem KO.XG{g len cap m:Nat}{us:List Value}(hk:(!d||k != .pure)=true)(hx:ev G x=some (.pointer (some ⟨g,i *sz+j,none⟩)))(hT:∀w,(isAgg T).run P w=.ok true w)(hn:∀w,(Go.sizeOf T).run P w=.ok m w)(hp:bF L (SL E sz cf (.slice (some ⟨g,0,none⟩) len cap) xs) R)(dr:∀e,(cf e).length=sz)(he:xs[i]? =some e)(hu:((cf e).drop j).take m=us)(hm:us.length=m)(ht:Nat.blt t n=true)(h:KO P ops d Q n D w0 ((t,.agg us.toArray)::G) L l):KO P ops d Q n D w0 G L ((k,⟨some t,.load T x,ty,pos,af,none⟩)::l):=
 KO.T5 hk hx hT hn (by simpa using hm) (fun w hw q c hj=>by
  rw[show(us.toArray).toList=us from rfl,<-hu,List.getElem?_take]at hj;split at hj
  ·rw[List.getElem?_drop]at hj;have EJ:j+q<sz:=by rw[<-dr e];exact(au.1 hj).1
   rw[Addr.add_lit,Nat.add_assoc,nF dr (hw.pick hp) he (j+q) EJ];exact hj
  ·simp at hj) ht h
end
section
variable {w0 w:World} {L:List HP} {E:TypeId} {α:Type} {cf:α->List Value} {sz:Nat} {xs:List α} {v:Value}
theorem zA(h:St w0 (SL E sz cf v xs::L) w):(v=.slice none 0 0/\xs=[])\/∃g cap,v=.slice (some ⟨g,0,none⟩) xs.length cap:=by
 rcases h.cH with⟨h1,h2,_⟩|⟨g,cap,_,h1,_⟩
 ·exact .inl ⟨h1,List.eq_nil_of_length_eq_zero h2⟩
 ·exact .inr ⟨g,cap,h1⟩
theorem qw(h:St w0 (SL E sz cf v xs::L) w){i:Nat}(hi:i<xs.length):∃g cap,v=.slice (some ⟨g,0,none⟩) xs.length cap:=by
 rcases zA h with⟨_,h1⟩|h1
 ·rw[h1]at hi;simp at hi
 ·exact h1
theorem aU(h:St w0 (SL E sz cf v xs::L) w):∃a cap,v=.slice a xs.length cap/\(0<xs.length->∃g,a=some ⟨g,0,none⟩):=by
 rcases zA h with⟨h0,h1⟩|⟨g,cap,h1⟩
 ·exact⟨none,0,by rw[h0,h1];rfl,fun h=>by rw[h1]at h;simp at h⟩
 ·exact⟨_,cap,h1,fun _=>⟨g,rfl⟩⟩
end
section
variable {P:Program} {ops:Array Oper} {d:Bool} {Q:Exit->Act->World->Prop} {n:Nat} {D:List Deferred} {w0:World} {G:Env} {L R:List HP} {l:List (Kd×Oper)} {k:Kd}
 {t:Nat} {ty T E:TypeId} {pos:String} {af:Array Edge} {x:Operand} {v:Value} {i j:Nat} {α:Type} {cf:α->List Value} {sz:Nat} {xs:List α} {e:α}
theorem KO.vT{b:Nat}{cs:List Value}{fz:Nat×Nat}(hk:(!d||k != .pure)=true)(hx:ev G x=some (.pointer (some ⟨b,0,none⟩)))(hT:∀w,(isAgg T).run P w=.ok true w)(hn:∀w,(Go.sizeOf T).run P w=.ok sz w)(hp:bF L (bI b (.cells cs.toArray E fz)) R)(dr:cs.length=sz)(ht:Nat.blt t n=true)(h:KO P ops d Q n D w0 ((t,.agg cs.toArray)::G) L l):KO P ops d Q n D w0 G L ((k,⟨some t,.load T x,ty,pos,af,none⟩)::l):=
 KO.T6 hk hx hT hn hp (us:=cs) (by rw[List.drop_zero,List.take_of_length_le ae]) dr ht h
theorem KO.ia{g len cap:Nat}(hk:(!d||k != .pure)=true)(hx:ev G x=some (.pointer (some ⟨g,i *sz,none⟩)))(hT:∀w,(isAgg T).run P w=.ok false w)(hp:bF L (SL E sz cf (.slice (some ⟨g,0,none⟩) len cap) xs) R)(dr:∀e,(cf e).length=sz)(he:xs[i]? =some e)(hj:Nat.blt 0 sz=true)(hv:(cf e)[0]? =some v)(ht:Nat.blt t n=true)(h:KO P ops d Q n D w0 ((t,v)::G) L l):KO P ops d Q n D w0 G L ((k,⟨some t,.load T x,ty,pos,af,none⟩)::l):=
 KO.ldE (j:=0) hk (by rw[Nat.add_zero];exact hx) hT hp dr he hj hv ht h
end
theorem St.clear{w0 w:World}:∀{L:List HP},St w0 L w->St w0 [] w
 |[],h=>h
 |_::_,h=>St.clear h.drop
section
variable {P:Program} {ops:Array Oper} {d:Bool} {Q:Exit->Act->World->Prop} {n:Nat} {D:List Deferred} {w0 wX:World} {G:Env} {L LX R:List HP} {l:List (Kd×Oper)} {k:Kd}
 {t:Nat} {ty T E:TypeId} {pos:String} {af:Array Edge} {x:Operand} {v:Value} {i j off:Nat} {α:Type} {cf:α->List Value} {sz:Nat} {xs:List α} {e:α}
theorem KO.ldb(hw:St wX LX w0){b:Nat}{cs:List Value}{fz:Nat×Nat}(hk:(!d||k != .pure)=true)(hx:ev G x=some (.pointer (some ⟨b,off,none⟩)))(hT:∀w,(isAgg T).run P w=.ok false w)(hp:bF LX (bI b (.cells cs.toArray E fz)) R)(hc:cs[off]? =some v)(ht:Nat.blt t n=true)(h:KO P ops d Q n D w0 ((t,v)::G) L l):KO P ops d Q n D w0 G L ((k,⟨some t,.load T x,ty,pos,af,none⟩)::l):=
 KO.qM hk hx hT (by rw[World.cell?,(hw.oD hp).2];simpa using hc) ht h
theorem KO.JX{cs:Array Value}(hk:(!d||k != .pure)=true){ad:Addr}(hx:ev G x=some (.pointer (some ad)))(hT:∀w,(isAgg T).run P w=.ok true w)(hn:∀w,(Go.sizeOf T).run P w=.ok sz w)(dr:cs.size=sz)(hc:cr w0 ad cs.toList)(ht:Nat.blt t n=true)(h:KO P ops d Q n D w0 ((t,.agg cs)::G) L l):KO P ops d Q n D w0 G L ((k,⟨some t,.load T x,ty,pos,af,none⟩)::l):=
 KO.T5 hk hx hT hn dr (fun _ hs=>hc.ext (Ext.bW hs.below)) ht h
theorem KO.abF(hw:St wX LX w0){g len cap:Nat}(hk:(!d||k != .pure)=true)(hx:ev G x=some (.pointer (some ⟨g,i *sz+j,none⟩)))(hT:∀w,(isAgg T).run P w=.ok false w)(hp:bF LX (SL E sz cf (.slice (some ⟨g,0,none⟩) len cap) xs) R)(dr:∀e,(cf e).length=sz)(he:xs[i]? =some e)(hj:Nat.blt j sz=true)(hv:(cf e)[j]? =some v)(ht:Nat.blt t n=true)(h:KO P ops d Q n D w0 ((t,v)::G) L l):KO P ops d Q n D w0 G L ((k,⟨some t,.load T x,ty,pos,af,none⟩)::l):=
 KO.qM hk hx hT (by rw[nF dr (hw.pick hp) he j (by simpa[Nat.blt_eq]using hj),hv]) ht h
theorem KO.XH(hw:St wX LX w0){g len cap:Nat}(hk:(!d||k != .pure)=true)(hx:ev G x=some (.pointer (some ⟨g,i *sz,none⟩)))(hT:∀w,(isAgg T).run P w=.ok false w)(hp:bF LX (SL E sz cf (.slice (some ⟨g,0,none⟩) len cap) xs) R)(dr:∀e,(cf e).length=sz)(he:xs[i]? =some e)(hj:Nat.blt 0 sz=true)(hv:(cf e)[0]? =some v)(ht:Nat.blt t n=true)(h:KO P ops d Q n D w0 ((t,v)::G) L l):KO P ops d Q n D w0 G L ((k,⟨some t,.load T x,ty,pos,af,none⟩)::l):=
 KO.abF hw (j:=0) hk (by rw[Nat.add_zero];exact hx) hT hp dr he hj hv ht h
end
section
variable {P:Program} {f:FuncId} {args:Array Value} {w0 w:World} {L L':List HP} {v:Value}
theorem KE.px(h:KE P f args w0 L (fun u M=>u=v/\M=L))(hw:St w0 L w):KE P f args w L' (fun u M=>u=v/\M=L'):=fun w' hw'=>
 (h w' (hw.aC hw'.below)).mono fun _ _ ⟨u,_,he,⟨hu,_⟩,_,hb⟩=>⟨u,L',he,⟨hu,rfl⟩,hw'.aC hb,hb⟩
theorem KE.only(h:KE P f args w0 L (fun u M=>u=v/\M=L))(hs:∀w,St w0 L' w->St w0 L w):KE P f args w0 L' (fun u M=>u=v/\M=L'):=fun w' hw'=>
 (h w' (hs w' hw')).mono fun _ _ ⟨u,_,he,⟨hu,_⟩,_,hb⟩=>⟨u,L',he,⟨hu,rfl⟩,hw'.aC hb,hb⟩
end
def np {α:Type} (p:α->Bool) (l:List α):Int:=match l.findIdx? p with|some k=>(k:Int)|none=> -1
theorem yS{α:Type}{p:α->Bool}{l:List α}{k:Nat}{e:α}(hk:l[k]? =some e)(hp:p e=true)(hn:∀j u,j<k->l[j]? =some u->p u=false):np p l=k:=by
 have :l.findIdx? p=some k:=by
  rw[List.findIdx?_eq_some_iff_getElem];obtain⟨dt,he⟩:=au.1 hk
  exact⟨dt,by rw[he];exact hp,fun j hj=>by
   have :=hn j l[j] hj (ao _)
   simp[this]⟩
 rw[np,this]
theorem ur{α:Type}{p:α->Bool}{l:List α}(hn:∀(j:Nat) (u:α),l[j]? =some u->p u=false):np p l= -1:=by
 have :l.findIdx? p=none:=by
  rw[List.findIdx?_eq_none_iff];intro x hx;obtain⟨j,hj,rfl⟩:=List.getElem_of_mem hx;exact hn j _ (ao hj)
 rw[np,this]
theorem mo{α:Type}{p:α->Bool}{l:List α}(h:0<=np p l):∃(k:Nat) (e:α),np p l=(k:Int)/\l[k]? =some e/\p e=true/\k<l.length/\l.findIdx? p=some k:=by
 unfold np at h ⊢;cases hf:l.findIdx? p with
 |none=>rw[hf]at h;simp at h
 |some k=>
  obtain⟨dt,hp,_⟩:=List.findIdx?_eq_some_iff_getElem.1 hf;exact⟨k,l[k],rfl,ao dt,hp,dt,rfl⟩
theorem sR{α:Type}{p:α->Bool}{l:List α}(h:np p l<0):l.findIdx? p=none:=by
 unfold np at h;cases hf:l.findIdx? p with
 |none=>rfl
 |some k=>rw[hf]at h;simp only at h;omega
theorem pF{α:Type}(p:α->Bool)(l:List α):decide (0<=np p l)=l.any p:=by
 cases hf:l.findIdx? p with
 |none=>
  have h1:l.any p=false:=by
   rw[List.any_eq_false];intro x hx;have :=List.findIdx?_eq_none_iff.1 hf x hx;simp[this]
  simp[np,hf,h1]
 |some k=>
  obtain⟨dt,hp,_⟩:=List.findIdx?_eq_some_iff_getElem.1 hf;have h1:l.any p=true:=List.any_eq_true.2 ⟨l[k],List.getElem_mem dt,hp⟩;simp[np,hf,h1]
open Go
theorem KC.pre{P:Program}{f:FuncId}{args:Array Value}{w0:World}{L:List HP}{R:Value->List HP->Prop}{p:Prop}(hs:∀w,St w0 L w->p)(h:p->KC P f args w0 L R):KC P f args w0 L R:=fun w hw=>h (hs w hw) w hw
theorem KE.pre{P:Program}{f:FuncId}{args:Array Value}{w0:World}{L:List HP}{R:Value->List HP->Prop}{p:Prop}(hs:∀w,St w0 L w->p)(h:p->KE P f args w0 L R):KE P f args w0 L R:=fun w hw=>h (hs w hw) w hw
theorem KC.perm{P:Program}{f:FuncId}{args:Array Value}{w0:World}{L L':List HP}{R:Value->List HP->Prop}(hs:∀w,St w0 L w->St w0 L' w)(h:KC P f args w0 L' R):KC P f args w0 L R:=fun w hw=>h w (hs w hw)
theorem KE.perm{P:Program}{f:FuncId}{args:Array Value}{w0:World}{L L':List HP}{R:Value->List HP->Prop}(hs:∀w,St w0 L w->St w0 L' w)(h:KE P f args w0 L' R):KE P f args w0 L R:=fun w hw=>h w (hs w hw)
theorem ja{α:Type}{p:α->Bool}:∀{l:List α} {k:Nat},l.findIdx? p=some k->(l.take (k+1)).filter (fun e=> !p e)=l.take k
 |[],k,h=>by simp at h
 |a::l,k,h=>by
  rw[List.findIdx?_cons]at h;by_cases ha:p a=true
  ·rw[if_pos ha]at h;simp only[az]at h;subst h;simp[ha]
  ·rw[if_neg ha]at h;cases hf:l.findIdx? p with
   |none=>rw[hf]at h;simp at h
   |some j=>
    rw[hf]at h;simp only[Option.map_some,az]at h;subst h;simp[ha,ja hf]
theorem bG{α:Type}{l:List α}{k:Nat}{e:α}(h:l[k]? =some e):l.take (k+1)=l.take k++[e]:=by
 rw[List.take_add_one,h];rfl
def C6 {α:Type} (w:World) (sz:Nat) (cf:α->List Value) (v:Value) (xs:List α):Prop:=
 ∃a cap,v=.slice a xs.length cap/\(0<xs.length->∃g,a=some ⟨g,0,none⟩)/\∀g,a=some ⟨g,0,none⟩->∀(i:Nat) (e:α),xs[i]? =some e->cr w ⟨g,i *sz,none⟩ (cf e)
section
variable {w0 w w1:World} {L R LX RX:List HP} {E:TypeId} {α:Type} {cf:α->List Value} {sz:Nat} {xs:List α} {v:Value}
theorem C6.ext(h:C6 w sz cf v xs)(e:Ext w w1):C6 w1 sz cf v xs:=by
 obtain⟨a,cap,h1,h2,h3⟩:=h;exact⟨a,cap,h1,h2,fun g hg i x hx=>(h3 g hg i x hx).ext e⟩
theorem C6.of(dr:∀e,(cf e).length=sz)(hp:bF L (SL E sz cf v xs) R)(w:World)(hw:St w0 L w):C6 w sz cf v xs:=by
 have h:=hw.pick hp;obtain⟨a,cap,rfl,ha⟩:=aU h;refine⟨a,cap,rfl,ha,fun g hg i e he j c hj=>?_⟩;subst hg;have EJ:j<sz:=by rw[<-dr e];exact(au.1 hj).1
 rw[Addr.add_lit,nF dr h he j EJ];exact hj
theorem C6.base(h:C6 w0 sz cf v xs)(w:World)(hw:St w0 L w):C6 w sz cf v xs:=h.ext (Ext.bW hw.below)
end
structure Ms where
 id:Int
 pri:Int
 body:ak
 queue:ak
 ck:Int
instance:Inhabited Ms:=⟨⟨0,0,⟨#[]⟩,⟨#[]⟩,0⟩⟩
def dh (m:Ms):List Value:=[.int .i64 m.id,.int .i64 m.pri,.string m.body,.string m.queue,.int .i64 m.ck]
structure It where
 m:Ms
 line:Int
 put:Int
 ft:Int
instance:Inhabited It:=⟨⟨default,0,0,0⟩⟩
def lT (x:It):List Value:=[.int .i64 x.m.id,.int .i64 x.m.pri,.string x.m.body,.string x.m.queue,.int .i64 x.m.ck,.int .i64 x.line,.int .i64 x.put,.int .i64 x.ft]
def y7 (p q x y:Int):Int:=if p≠q then q-p else x-y
def small (a:Int):Prop:= -1152921504606846976<=a/\a<=1152921504606846976
def fV (a b:It):Int:=y7 a.m.pri b.m.pri a.line b.line
structure Qu where
 l:List It
 next:Int
instance:Inhabited Qu:=⟨⟨[],0⟩⟩
def kQ (e:It):Prop:=small e.m.pri/\small e.line
def OL (l:List It) (x:It):Prop:= ∀(p q:Nat) (a b:It),p<=q->l[p]? =some a->l[q]? =some b->fV b x<0->fV a x<0
structure H5 (l:List It) (x:It) (k:Nat):Prop where
 le:k<=l.length
 lo:∀(p:Nat) (a:It),p<k->l[p]? =some a->fV a x<0
 hi:∀(p:Nat) (a:It),k<=p->l[p]? =some a->0<=fV a x
def Nc (l:List It) (x:It) (k:Nat):Bool:=match l[k]? with|some a=>decide (fV a x=0)|none=>false
def po (l:List It) (x:It):Nat:=(l.takeWhile fun e=>decide (fV e x<0)).length
theorem AA:∀{l:List It} {x:It} {k:Nat},H5 l x k->k=po l x
 |[],x,k,h=>by have :=h.le;simp at this;subst this;rfl
 |a::l,x,k,h=>by
  unfold po;by_cases hx:fV a x<0
  ·simp only[List.takeWhile_cons,hx,decide_true,if_true,List.length_cons];cases k with
   |zero=>exact absurd hx (Int.not_lt.2 (h.hi 0 a (aF _) aj))
   |succ k=>
    have :H5 l x k:=⟨by have :=h.le;simp at this;omega,fun p b hp hb=>h.lo (p+1) b ae (by simpa using hb),fun p b hp hb=>h.hi (p+1) b ae (by simpa using hb)⟩;rw[AA this];rfl
  ·simp only[List.takeWhile_cons,hx,decide_false];cases k with
   |zero=>rfl
   |succ k=>exact absurd (h.lo 0 a ae aj) hx
theorem Az(l:List It)(x:It):po l x<=l.length:=(List.takeWhile_prefix _).length_le
def cU (q:Qu) (m:Ms) (u:Int):It:=⟨m,q.next,max u (-1),-1⟩
def cP (q:Qu) (m:Ms) (u:Int):Qu:=⟨q.l.take (po q.l (cU q m u))++cU q m u::q.l.drop (po q.l (cU q m u)),q.next+1⟩
structure OI (q:Qu):Prop where
 len:q.l.length<900000
 small:∀e∈q.l,kQ e
 next:0<=q.next/\q.next<1000000
 mono:∀m u,OL q.l (cU q m u)
def cC (e:It):Bool:=decide (e.put<0)&&decide (e.ft<0)
def dK (q:Qu):List Ms:=(q.l.filter cC).map (·.m)
def cT (q:Qu):List Ms:=(q.l.filter fun e=>decide (e.put<0)).map (·.m)
def IF (id:Int) (e:It):Bool:=decide (e.m.id=id)
def vM (q:Qu) (id:Int):Bool:=q.l.any (IF id)
def bM (m:Ms):Bool:=decide (0<=m.id)&&(decide (m.id<=1099511627776)&&(decide (0<=m.pri)&&(decide (m.pri<=9)&&(ko m.body&&(c6 m.queue&&(decide (0<=m.ck)&&decide (m.ck<4)))))))
theorem bN{m:Ms}(h:bM m=true):0<=m.id/\m.id<=1099511627776/\0<=m.pri/\m.pri<=9/\ko m.body=true/\c6 m.queue=true/\0<=m.ck/\m.ck<4:=by
 unfold bM at h;simp only[a_,decide_eq_true_eq]at h;exact h
def ga (q:Qu) (m:Ms):Int:=if bM m=false then 1 else if vM q m.id=true then 9 else if 20<=q.l.length then 12 else 0
def mA (q:Qu) (m:Ms) (u:Int):Qu:=if ga q m=0 then cP q m u else q
def oB (q:Qu):Option Nat:=q.l.findIdx? cC
def my (q:Qu) (id:Int):Option Nat:=q.l.findIdx? (IF id)
def lU (l:List It) (k:Nat):It:=l.getD k default
def lr:Ms:=⟨0,0,⟨#[]⟩,⟨#[]⟩,0⟩
def fT (q:Qu) (u:Int):Qu:=match oB q with|none=>q|some k=>if u<0 then⟨q.l.eraseIdx k,q.next⟩else⟨q.l.set k {lU q.l k with ft:=u},q.next⟩
def gI (q:Qu):Ms:=match oB q with|none=>lr|some k=>(lU q.l k).m
def hI (q:Qu):Int:=match oB q with|none=>8|some _=>0
def eM (q:Qu) (id:Int):Qu:=match my q id with|none=>q|some k=>⟨q.l.eraseIdx k,q.next⟩
def nZ (q:Qu) (id:Int):Ms:=match my q id with|none=>lr|some k=>(lU q.l k).m
def jH (q:Qu) (id:Int):Int:=match my q id with|none=>7|some _=>0
def nq (u:Int) (back:Bool) (x:It):Bool:=(decide (x.put=u)&&back)||(decide (x.ft=u)&& !back)
def jo (u:Int) (x:It):It:={x with put:=if x.put=u then -1 else x.put,ft:=if x.ft=u then -1 else x.ft}
def c8 (q:Qu) (u:Int) (back:Bool):Qu:=if u<0 then q else⟨(q.l.filter fun e=> !nq u back e).map (jo u),q.next⟩
theorem iE{l:List It}{k:Nat}{e:It}(h:l[k]? =some e):lU l k=e:=by simp[lU,aq,h]
end WB
namespace Go.Proofs.YtjhogocabcdjbabGreatDoor
open Tryz
open Go Go.RowKit WB
theorem Zj(w0:World)(L:List HP)(a b:Ms)(x y:Int)(h1:small a.pri)(h2:small b.pri)(h3:small x)(h4:small y):
 KE prog 245 #[.agg (dh a).toArray,.agg (dh b).toArray,.int .i64 x,.int .i64 y] w0 L (fun v L'=>v=.int .i64 (y7 a.pri b.pri x y)/\L'=L):=by
 unfold small at h1 h2 h3 h4;refine KE.mk (n:=22) func245 rfl ntmps245 aj ?_;intro w hw;refine Z3 ?_;refine KO.box rfl rfl aP rfl ?_;intro b4;refine KO.box rfl rfl aP rfl ?_;intro b5;refine lZ ?_;refine Vx ?_;refine zL ?_;refine Vx ?_;refine s7 ?_;refine zp ?_;refine Z2 ?_;refine K.br rfl (fun h=>?_) (fun h=>?_)
 ·refine Z3 ?_;refine Vx ?_;refine s7 ?_;refine Vx ?_;refine zL ?_;refine Fv ?_;refine qX ?_;refine KQ.bB rfl rfl (fun w' hs=>⟨_,_,rfl,⟨?_,rfl⟩,hw.aC hs.below,hs.below⟩);simp[y7,h]
 ·refine Z6 ?_;refine iX ?_;refine Fv ?_;refine iW ?_;refine KQ.bB rfl rfl (fun w' hs=>⟨_,_,rfl,⟨?_,rfl⟩,hw.aC hs.below,hs.below⟩);simp[y7,h]
abbrev IE (v:Value) (xs:List It):HP:=SL 243 8 lT v xs
theorem U7(w0:World)(L:List HP)(e:It):
 KE prog 150 #[.agg (lT e).toArray] w0 L (fun v L'=>v=.bool (decide (e.put<0)&&decide (e.ft<0))/\L'=L):=by
 refine KE.mk (n:=11) func150 rfl ntmps150 aj ?_;intro w hw;refine Z3 ?_;refine KO.box rfl rfl aP rfl ?_;intro b1;refine kE ?_;by_cases h1:e.put<0
 ·refine Xc ?_;refine Fq ?_;refine FB ?_;refine pS ?_;refine wk ?_;refine qY ?_;refine iW ?_;refine KQ.bB rfl rfl (fun w' hs=>⟨_,_,rfl,⟨?_,rfl⟩,hw.aC hs.below,hs.below⟩);simp[h1]
 ·refine Xc ?_;refine RJ ?_;refine Hz ?_;refine iW ?_;refine KQ.bB rfl rfl (fun w' hs=>⟨_,_,rfl,⟨?_,rfl⟩,hw.aC hs.below,hs.below⟩);simp[h1]
theorem Pv(w0:World)(L R:List HP)(e:It)(b:Nat)(id:Int)(E:TypeId)(hp:bF L (bI b (.cells [Value.int .i64 id].toArray E (0,0))) R):
 KE prog 252 #[.agg (lT e).toArray,.pointer (some ⟨b,0,none⟩)] w0 L (fun v L'=>v=.bool (decide (e.m.id=id))/\L'=L):=by
 refine KE.mk (n:=9) func252 rfl ntmps252 aj ?_;intro w hw;have hw:=hw.pick hp;refine Z3 ?_;refine KO.box rfl rfl aP rfl ?_;intro b2;refine lZ ?_;refine K1 ?_;refine HU ?_;refine VF ?_;refine iW ?_;refine KQ.bB rfl rfl (fun w' hs=>⟨_,_,rfl,⟨rfl,rfl⟩,(hw.xA hp).aC hs.below,hs.below⟩)
theorem Cc(w0:World)(L:List HP)(v:Value)(xs:List It)(f:FuncId)(cp:List Value)(pf:It->Bool)(hr:∀w,St w0 L w->C6 w 8 lT v xs)(hlen:xs.length<1000000)(gm:∀args w,(callFunc f args).run prog w=.ok (.enter f args) w)(qg:∀e,e∈xs->KE prog f ([]++([Value.agg (lT e).toArray]++cp)).toArray w0 L (fun v L'=>v=.bool (pf e)/\L'=L)):
 KE prog 149 #[v,.func (.func f) [].toArray cp.toArray] w0 L (fun v L'=>v=.int .i64 (np pf xs)/\L'=L):=by
 refine KE.mk (n:=19) func149 rfl ntmps149 aj ?_;intro w hw;obtain⟨a,cap,rfl,ha,hc⟩:=hr w hw;refine oX ?_;refine zw ?_;refine mK ?_;refine K.loop (fun k:Nat=>[(0,.slice a xs.length cap),(1,.func (.func f) [].toArray cp.toArray),(7,.int .i64 (xs.length:Nat)),(8,.int .i64 (k:Nat))]) (fun _=>[]) (fun k=>k<=xs.length/\∀(j:Nat) (u:It),j<k->xs[j]? =some u->pf u=false) (fun k=>xs.length-k) 0 ⟨by omega,fun j u h=>by omega⟩ ⟨rfl,rfl,rfl,rfl,trivial⟩ (fun _ h=>h) ?_;rintro k ⟨hk,qO⟩;refine hF ?_;refine K.br rfl (fun h=>?_) (fun h=>?_)
 ·have dt:k<xs.length:=by omega
  obtain⟨g,rfl⟩:=ha ae;obtain⟨e,he⟩:∃e,xs[k]? =some e:=⟨xs[k],ao dt⟩;refine sZ ?_;refine lL ?_;refine lK ?_;refine V4 ?_;refine KO.ce rfl rfl rfl gm rfl ((qg e (ax he)).px hw) ?_;rintro v L' ⟨rfl,rfl⟩;refine Z2 ?_;refine K.cond rfl (fun h1=>?_) (fun h1=>?_)
  ·refine jB ?_;refine kG ?_;refine KQ.bB rfl rfl (fun w' hs=>⟨_,_,rfl,⟨?_,rfl⟩,hw.aC hs.below,hs.below⟩);rw[yS he h1 qO]
  ·refine qF ?_;refine KQ.round (k+1) ⟨by omega,fun j u hj hu=>?_⟩ ae ⟨rfl,rfl,rfl,rfl,trivial⟩ (fun _ h=>h);by_cases IL:j=k
   ·subst IL;rw[he]at hu;simp only[az]at hu;rw[<-hu];exact h1
   ·exact qO j u ae hu
 ·refine Hv ?_;refine KQ.bB rfl rfl (fun w' hs=>⟨_,_,rfl,⟨?_,rfl⟩,hw.aC hs.below,hs.below⟩);rw[ur fun j u hu=>qO j u Y16 hu]
theorem Vg(w0:World)(L:List HP)(v:Value)(xs:List It)(f:FuncId)(cp:List Value)(pf:It->Bool)(hr:∀w,St w0 L w->C6 w 8 lT v xs)(hlen:xs.length<1000000)(gm:∀args w,(callFunc f args).run prog w=.ok (.enter f args) w)(qg:∀e,e∈xs->KE prog f ([]++([Value.agg (lT e).toArray]++cp)).toArray w0 L (fun v L'=>v=.bool (pf e)/\L'=L)):
 KE prog 241 #[v,.func (.func f) [].toArray cp.toArray] w0 L (fun v L'=>v=.bool (xs.any pf)/\L'=L):=by
 refine KE.mk (n:=9) func241 rfl ntmps241 aj ?_;intro w hw;refine Hu ?_;refine KO.ce rfl rfl rfl call149 rfl ((Cc w0 L v xs f cp pf hr hlen gm qg).px hw) ?_;rintro v L' ⟨rfl,rfl⟩;refine vD ?_;refine iW ?_;refine KQ.bB rfl rfl (fun w' hs=>⟨_,_,rfl,⟨?_,rfl⟩,hw.aC hs.below,hs.below⟩);rw[pF]
theorem tX:(prog.info? 243).map (fun i=>(i.zero,i.size,i.bytes))=some (some (Value.agg #[.int .i64 0,.int .i64 0,.string ⟨#[]⟩,.string ⟨#[]⟩,.int .i64 0,.int .i64 0,.int .i64 0,.int .i64 0]),8,80):=by kernel_rfl
theorem Gs(w w0:World)(L:List HP)(v:Value)(n:Nat)(xs vs:List Value)(bv:Nat)(h:St w0 (ke 243 8 v n xs::bI bv (.cells vs.toArray 243 (0,0))::L) w)(hv:vs.length=8)(h1:∀u∈vs,u.oneCell'=true)(hn:n<1000000):
 Calls prog 246 #[v,.int .i64 n,.slice (some ⟨bv,0,none⟩) 1 1] w fun e w'=> ∃v',e=.returned v'/\St w0 (ke 243 8 v' (n+1) (xs++vs)::L) w':=by
 obtain⟨i0,hi,wW,mM,wV⟩:=info_parts tX;have pB:cr w ⟨bv,0,none⟩ vs:=by
  have h2:=h.pick (.tail .head);exact h2.eJ fun j u hj=>by simpa using hj
 obtain⟨v',w1,hr,kj⟩:=qq (P:=prog) 120 120 243 i0 _ 8 80 underlying120 hi wW mM wV rfl h ⟨bv,0,none⟩ 1 1 vs (by rw[hv]) pB h1 R_ ae;have HR:=Lib.hid hr;have HS:=Lib.hid kj;have qQ:v=.slice none 0 0/\n=0\/∃g cap,v=.slice (some ⟨g,0,none⟩) n cap/\n<=cap:=by
  rcases h.cH with⟨h1,h2,_⟩|⟨g,cap,_,h1,h2,_⟩
  ·exact .inl ⟨h1,h2⟩
  ·exact .inr ⟨g,cap,h1,h2⟩
 clear h hr kj pB hi wW mM wV;rcases qQ with⟨rfl,rfl⟩|⟨g,cap,rfl,vf⟩
 ·go_enter func246,ntmps246
  go_wp2_with (at_builtin;refine Lib.wpList_append_run _ rfl _ _ _ _ rfl _ _ rfl rfl _ _ HR.out ?_)
  go_ret
  exact⟨_,rfl,HS.out.f_.drop⟩
 ·have hE:((n:Int)==(n:Int))=true:=by simp
  by_cases UM:cap=n
  ·have UL:n=cap:=UM.symm;subst UL
   go_enter func246,ntmps246
   go_wp2_with (at_builtin;refine Lib.wpList_append_run _ rfl _ _ _ _ rfl _ _ rfl rfl _ _ HR.out ?_)
   go_ret
   exact⟨_,rfl,HS.out.f_.drop⟩
  ·go_enter func246,ntmps246
   go_wp2_with (at_builtin;refine Lib.wpList_append_run _ rfl _ _ _ _ rfl _ _ rfl rfl _ _ HR.out ?_)
   go_ret
   exact⟨_,rfl,HS.out.f_.drop⟩
theorem Eo(w w0:World)(L:List HP)(g n cap k:Nat)(xs vs:List Value)(bv:Nat)(h:St w0 (ke 243 8 (.slice (some ⟨g,0,none⟩) n cap) n xs::bI bv (.cells vs.toArray 243 (0,0))::L) w)(hv:vs.length=8)(h1:∀u∈vs,u.oneCell'=true)(wY:∀u∈xs,u.oneCell'=true)(hn:n<1000000)(hk:k<n)(lD:n+1<=cap):
 Calls prog 246 #[.slice (some ⟨g,0,none⟩) n cap,.int .i64 k,.slice (some ⟨bv,0,none⟩) 1 1] w fun e w'=> ∃v',e=.returned v'/\St w0 (ke 243 8 v' (n+1) (xs.take (k *8)++vs++xs.drop (k *8))::L) w':=by
 obtain⟨i0,hi,wW,mM,wV⟩:=info_parts tX;rcases h.cH with⟨hc,_⟩|⟨g',nz,cur,hc,vf,vq,kJ,fe,rZ,hblk⟩
 ·simp at hc
 ·simp only[Value.slice.injEq,az,Addr.mk.injEq,and_true,true_and]at hc;obtain⟨rfl,rfl⟩:=hc;have Uu:∀o n c o' n' c',(callFunc 346 #[.slice (some ⟨bv,o,none⟩) n c,.slice (some ⟨g,o',none⟩) n' c']).run prog w=.ok (.value (.bool false)) w:=fun o n c o' n' c'=>by
   rw[run_callFunc_extern func346 bC bC bC (e:=Extern.SlicesOverlaps.overlaps #[120,120] #[4]) bC,
    uZ 120 4 243 i0 underlying120 hi hblk.f_ o n c o' n' c' (by rw[kJ];omega)]
   rfl
  have HB:=Lib.hid hblk;have gh:((k:Int)==(n:Int))=false:=by simp;omega
  have QR:cap<9223372036854775808:=by unfold maxLen at vq;omega
  have dr:(cur.toList.take (n *8)).length=n *8:=by simp;omega
  have qg:cur.toList.length=cap *8:=by simpa using kJ
  have Ck:Nat.min (n+1-k) (n-k)=n-k:=Nat.min_eq_right ae;have Ya:∀u∈(cur.toList.take (n *8)).drop (k *8),u.oneCell'=true:=fun u hu=>wY u (fe▸List.mem_of_mem_drop hu)
  have QI:((cur.toList.take (n *8)).drop (k *8)).length=Nat.min (n+1-k) (n-k)*i0.size:=by
   rw[bu,dr,mM,Ck,Nat.sub_mul]
  have uf:=eQ (P:=prog) w.drew 120 120 3 243 i0 g ((k+1)*8) (n-k) (cap-(k+1)) ⟨g,k *8,none⟩ (n+1-k) (cap-k) cur 243 _ underlying120 hi hblk.drew.look.2 QI
   (hblk.drew.eJ fun j u hj=>by
    rw[List.getElem?_drop,List.getElem?_take]at hj;split at hj
    ·simpa using hj
    ·simp at hj) (by rw[QI,mM,Ck,kJ];omega) Ya
  have sH:=hblk.drew.setRow (c':=(cur.toList.take ((k+1)*8)++(cur.toList.take (n *8)).drop (k *8)++cur.toList.drop ((k+1)*8+((cur.toList.take (n *8)).drop (k *8)).length)).toArray);have EG:((cur.toList.take (n *8)).drop (k *8)).length=n *8-k *8:=by rw[bu,dr]
  generalize Cu:cur.toList.take ((k+1)*8)++(cur.toList.take (n *8)).drop (k *8)++cur.toList.drop ((k+1)*8+((cur.toList.take (n *8)).drop (k *8)).length)=C1 at uf sH;have ry:C1.length=cap *8:=by rw[<-Cu];simp only[aX,bA,EG,bu,qg];omega
  have lg:=eQ (P:=prog) (w.drew.setRow g C1.toArray) 120 120 3 243 i0 g (k *8) (n+1-k) (cap-k) ⟨bv,0,none⟩ 1 1 C1.toArray 243 vs underlying120 hi sH.look.2
   Y9 (sH.drop.eJ fun j u hj=>by simpa using hj) (by rw[hv];simp[ry];omega) h1
  have oR:=sH.setRow (c':=(C1.take (k *8)++vs++C1.drop (k *8+vs.length)).toArray);have ng:Nat.min 1 (n+1-k)=1:=Nat.min_eq_left ae;rw[ng]at lg;rw[Ck]at uf;have iM:((C1.take (k *8)++vs++C1.drop (k *8+vs.length)).toArray).toList.take ((n+1)*8)=xs.take (k *8)++vs++xs.drop (k *8):=by
   have :=mS cur.toList vs (k *8) 8 (n *8) (cap *8) ae hv ae qg;simp only[fe]at this;rw[hv];have e:(k+1)*8=k *8+8:=by omega
   have e2:(n+1)*8=n *8+8:=by omega
   have e3:(k *8+8+(n *8-k *8))=n *8+8:=by omega
   rw[fe,e,show(xs.drop (k *8)).length=n *8-k *8 by rw[bu,rZ],e3]at Cu;rw[<-Cu,e2];exact this
  have t_:=oR.kx (n:=n+1) (size:=8) (cap:=cap) lD vq (by simp[ry,hv];omega) iM;generalize C1.take (k *8)++vs++C1.drop (k *8+vs.length)=C2 at lg t_ oR iM;have Wn:=Lib.hid uf;have Wm:=Lib.hid lg;have HO:=Lib.hid t_;clear h hblk vq hi wW mM wV kJ fe rZ wY h1 hv uf lg t_ sH oR iM Cu EG QI Ya qg dr Ck ng ry
  go_enter func246,ntmps246
  go_wp2_with fail
  refine eu [.pure,.pure,.pure,.pure,.pure,.pure,.pure,.pure,.write] [0,1,2,3,4,5,6,7,8] bC bC ?_;simp only[aJ,List.map_nil,item,List.getD_cons_zero,List.getD_cons_succ]
  repeat((with_reducible refine fh (v:=?_) (a':=?_) ?_ ?_ ?_ ?_);rotate_left 2;(rfl);((intro w';go_simp;(try(go_bits;(try go_simp);(try(go_bits;(try go_simp)))));(repeat(first|rewrite [if_pos ae]|rewrite [if_neg ae])))<;>rfl);(go_simp;rfl))
  refine kN (a':=?_) (v:=?_) (w':=?_) rfl ?_ ?_ ?_
  rotate_left 3
  ·rw[lH _ _ _ _ rfl (.slice (some ⟨g,(k+1)*8,none⟩) (n-k) (cap-(k+1))) (.slice (some ⟨g,k *8,none⟩) (n+1-k) (cap-k)) rfl rfl Wn.out]
  ·go_simp;rfl
  refine nN ?_
  go_wp2_with (refine r7 rfl _ _ _ _ rfl (.slice (some ⟨g,k *8,none⟩) (n+1-k) (cap-k)) (.slice (some ⟨bv,0,none⟩) 1 1) rfl rfl Wm.out ?_;intro K hK;go_simp)
  go_ret
  exact⟨_,rfl,HO.out.f_.drop⟩
end Go.Proofs.YtjhogocabcdjbabGreatDoor
